/- A part of the proofs of laws of the chapter office: an evaluator of the program, proved sound, and what it says. -/
import Derived.Test.YtkdnaejhpcibnaaGreatDoorAvDraw2
import Derived.Scope
import Derived.Control
import Derived.WalkKit
import Derived.ProofKit
import Derived.OpenShut
set_option linter.unusedVariables false
set_option linter.unusedSimpArgs false
namespace Go.Proofs.YtkdnaejhpcibnaaGreatDoor.Av
open Go
section
variable {FT : Nat → Option Nat}
theorem aEj [GlobT] {c : Ctx} : ∀ (l : List Bool) (tm : List AV) (tv : Array Value),TR FT c tm tv → TR FT c (sO l tm) tv:=by
 intro l tm tv h
 have key : ∀ (l : List Bool) (tm : List AV),(sO l tm).length = tm.length ∧ ∀ (t : Nat) (x : AV),(sO l tm)[t]? = some x → x = .undef ∨ tm[t]? = some x:=by
  intro l
  induction l with
  | nil =>
   intro tm
   cases tm with
   | nil => exact ⟨rfl,fun t x hx => by simp [sO] at hx⟩
   | cons v vs =>
    refine ⟨by simp [sO],fun t x hx => ?_⟩
    simp only [sO,List.getElem?_map,Option.map_eq_some_iff] at hx
    obtain ⟨_,_,rfl⟩:=hx
    exact .inl rfl
  | cons b bs ih =>
   intro tm
   cases tm with
   | nil => exact ⟨rfl,fun t x hx => by simp [sO] at hx⟩
   | cons v vs =>
    obtain ⟨h1,h2⟩:=ih vs
    refine ⟨by simp [sO,h1],fun t x hx => ?_⟩
    cases t with
    | zero =>
     simp only [sO,List.getElem?_cons_zero,Option.some.injEq] at hx ⊢
     split at hx
     ·exact .inr hx
     ·exact .inl hx.symm
    | succ t =>
     simp only [sO,List.getElem?_cons_succ] at hx ⊢
     exact h2 t x hx
 obtain ⟨h1,h2⟩:=key l tm
 refine ⟨h1.trans h.1,fun t x hx => ?_⟩
 rcases h2 t x hx with rfl | h3
 ·have hlt : t < tv.size:=by rw [← h.1,← h1]; exact (List.getElem?_eq_some_iff.1 hx).1
  exact ⟨tv[t],by simp,RV.undef _⟩
 ·exact h.2 t x h3
structure Sub (n : Nat) (c c' : Ctx) : Prop where
 w : c'.w = c.w
 X : c'.X = c.X
 lo : ∀ id,id < n → c'.β id = c.β id
 img : ∀ id b,c'.β id = some b → ∃ i,c.β i = some b
 shp : ∀ id,id < n → shp c'.H id = shp c.H id
 mp : ∀ id,id < n → zH c.H id → zH c'.H id
theorem Sub.imm {n : Nat} {c c' : Ctx} (h : Sub n c c') {b : Nat} (hi : Imm c b) : Imm c' b:=by
 refine ⟨by rw [h.X]; exact hi.1,fun id hid => ?_⟩
 obtain ⟨i,hi'⟩:=h.img id b hid
 exact hi.2 i hi'
theorem Sub.rp [GlobT] {n : Nat} {c c' : Ctx} (h : Sub n c c') {x : AV} {v : Value} (hr : RP c.w (Imm c) x v) : RP c'.w (Imm c') x v :=
 hr.mono fun b o hi hb => ⟨h.imm hi,by rw [h.w]; exact hb⟩
theorem aHa [GlobT] {n : Nat} {c c' : Ctx} (h : Sub n c c') {x : AV} {v : Value} (hr : RV FT c x v) : RV FT c' (aCt n x) v:=by
 cases hr with
 | pure _ _ hp =>
  have hp':=h.rp hp
  cases hp' with
  | undef v => exact .pure _ _ (.undef v)
  | lit v => exact .pure _ _ (.lit v)
  | nil f a cap hf => exact .pure _ _ (.nil f a cap hf)
  | sl f es b off cap cc T fz s vals h1 h2 h3 h4 h5 h6 h7 h8 => exact .pure _ _ (.sl f es b off cap cc T fz s vals h1 h2 h3 h4 h5 h6 h7 h8)
 | ms id tot off len a cap s m g1 g2 g3 g4 =>
  simp only [aCt]
  split
  ·rename_i hid
   refine .ms id tot off len a cap s m ((h.shp id hid).trans g1) g2 g3 fun e => ?_
   obtain ⟨m1,m2⟩:=g4 e
   refine ⟨m1,?_⟩
   rcases m2 with ⟨m3,m4,m5,m6⟩ | ⟨b,cs,T,a',m3,m4,m5,m6,m7⟩
   ·exact .inl ⟨(h.lo id hid).trans m3,m4,m5,m6⟩
   ·exact .inr ⟨b,cs,T,a',(h.lo id hid).trans m3,by rw [h.w]; exact m4,m5,m6,m7⟩
  ·exact RV.undef _
 | ptr id tot idx off a s m g1 g2 g3 =>
  simp only [aCt]
  split
  ·rename_i hid
   refine .ptr id tot idx off a s m ((h.shp id hid).trans g1) g2 fun e => ?_
   obtain ⟨b,hb,ha⟩:=g3 e
   exact ⟨b,(h.lo id hid).trans hb,ha⟩
  ·exact RV.undef _
 | rptr cs b off cc T fz vals g1 g2 g3 g4 =>
  exact .rptr cs b off cc T fz vals (h.imm g1) (by rw [h.w]; exact g2) g3 fun j x hx => h.rp (g4 j x hx)
 | mp id b g1 g2 =>
  simp only [aCt]
  split
  ·rename_i hid
   exact .mp id b (h.mp id hid g1) ((h.lo id hid).trans g2)
  ·exact RV.undef _
 | it id b g1 g2 =>
  simp only [aCt]
  split
  ·rename_i hid
   exact .it id b (h.mp id hid g1) ((h.lo id hid).trans g2)
  ·exact RV.undef _
 | fn vi f caps cv vals g1 g2 g3 g4 =>
  cases caps with
  | nil => exact .fn vi f [] cv vals g1 g2 g3 (fun i x hx => by simp at hx)
  | cons _ _ => exact RV.undef _
 | agg => exact RV.undef _
 | tup => exact RV.undef _
theorem tR [GlobT] {n : Nat} {c c' : Ctx} (h : Sub n c c') {x : AV} {v : Value} (hr : RV FT c x v) : RV FT c' (uW n x) v:=by
 unfold uW
 split
 ·rename_i vi caps
  cases hr with
  | pure _ _ hp => cases hp
  | fn _ f _ cv vals g1 g2 g3 g4 =>
   refine .fn vi f _ cv vals g1 (by simpa using g2) ?_ ?_
   ·intro i x hx
    simp only [List.getElem?_map,Option.map_eq_some_iff] at hx
    obtain ⟨y,hy,rfl⟩:=hx
    exact g3 i y hy
   ·intro i x hx
    simp only [List.getElem?_map,Option.map_eq_some_iff] at hx
    obtain ⟨y,hy,rfl⟩:=hx
    exact aHa h (g4 i y hy)
 ·exact aHa h hr
theorem xE [GlobT] {n : Nat} {c c' : Ctx} (h : Sub n c c') {x : AV} {v : Value} (hr : RV FT c x v) : RV FT c' (zA n x) v:=by
 unfold zA
 split
 ·rename_i cs
  obtain ⟨cv,vals,rfl,g1,g2,g3⟩:=hr.agg_inv
  refine .agg _ cv vals (by simpa using g1) ?_ ?_
  ·intro i x hx
   simp only [List.getElem?_map,Option.map_eq_some_iff] at hx
   obtain ⟨y,hy,rfl⟩:=hx
   exact g2 i y hy
  ·intro i x hx
   simp only [List.getElem?_map,Option.map_eq_some_iff] at hx
   obtain ⟨y,hy,rfl⟩:=hx
   exact tR h (g3 i y hy)
 ·exact tR h hr
theorem aG9 [GlobT] {n : Nat} {c c' : Ctx} (h : Sub n c c') {x : AV} {v : Value} (hr : RV FT c x v) : RV FT c' (aD1 n x) v:=by
 unfold aD1
 split
 ·rename_i cs
  obtain ⟨cv,vals,rfl,g1,g2,g3⟩:=hr.tup_inv
  refine .tup _ cv vals (by simpa using g1) ?_ ?_
  ·intro i x hx
   simp only [List.getElem?_map,Option.map_eq_some_iff] at hx
   obtain ⟨y,hy,rfl⟩:=hx
   exact g2 i y hy
  ·intro i x hx
   simp only [List.getElem?_map,Option.map_eq_some_iff] at hx
   obtain ⟨y,hy,rfl⟩:=hx
   exact xE h (g3 i y hy)
 ·exact xE h hr
def oU (fl n : Nat) (c : Ctx) : Ctx :=
 ⟨c.w,c.X,fun id => if id < n then c.β id else none,c.H.take fl ++ ((c.H.take n).drop fl).map (lC n)⟩
theorem sS {fl n : Nat} {c : Ctx} (hfn : fl ≤ n) (hn : n ≤ c.H.length) (id : Nat) :
  (oU fl n c).H[id]? = if id < fl then c.H[id]? else if id < n then (c.H[id]?).map (lC n) else none:=by
 simp only [oU]
 rw [List.getElem?_append]
 simp only [List.length_take,Nat.min_eq_left (Nat.le_trans hfn hn)]
 split
 ·rename_i h
  rw [List.getElem?_take,if_pos h]
 ·rename_i h
  rw [List.getElem?_map,List.getElem?_drop,List.getElem?_take]
  have e : fl + (id - fl) = id:=by omega
  rw [e]
  split <;> rfl
theorem oT {fl n : Nat} {c : Ctx} (hfn : fl ≤ n) (hn : n ≤ c.H.length) : (oU fl n c).H.length = n:=by
 simp only [oU,List.length_append,List.length_take,List.length_map,List.length_drop]; omega
theorem sR [GlobT] {fl n : Nat} {c : Ctx} (hfn : fl ≤ n) (hn : n ≤ c.H.length) : Sub n c (oU fl n c) where
 w:=rfl
 X:=rfl
 lo:=fun id hid => by simp [oU,hid]
 img:=fun id b hb => by
  simp only [oU] at hb
  split at hb
  ·exact ⟨id,hb⟩
  ·cases hb
 shp:=fun id hid => by
  have hg:=sS hfn hn id
  unfold shp
  rw [hg]
  by_cases h : id < fl
  ·rw [if_pos h]
  ·rw [if_neg h,if_pos hid]
   cases c.H[id]? with
   | none => rfl
   | some o => cases o <;> simp [lC]
 mp:=fun id hid hm => by
  obtain ⟨ents,he,hnb⟩:=hm
  simp only [zH,sS hfn hn,he]
  split
  ·exact ⟨ents,rfl,hnb⟩
  ·refine ⟨lC n ents,by simp [hid],?_⟩
   cases ents with
   | blk => exact hnb
   | mp => trivial
   | raw => trivial
theorem xR [GlobT] {fl : Nat} {c0 c : Ctx} (hs0 : Sim FT c0) (h : Step fl c0 c) (hfl : fl ≤ c0.H.length) : Step fl c0 (oU fl c0.H.length c):=by
 have hsub:=sR hfl h.len
 have hget:=sS hfl h.len
 have hlt : ∀ id r,shp c0.H id = some r → id < c0.H.length:=fun id r hr => by
  rcases Nat.lt_or_ge id c0.H.length with h' | h'
  ·exact h'
  ·simp [shp,List.getElem?_eq_none h'] at hr
 refine ⟨h.X,h.os,h.tape,h.output,h.drawn,h.size,by rw [oT hfl h.len]; exact Nat.le_refl _,h.frame,?_,?_,?_,?_⟩
 ·intro id b hb
  simp only [oU] at hb
  split at hb
  ·exact h.img id b hb
  ·cases hb
 ·intro id s n hs
  obtain ⟨n',h1,h2,h3⟩:=h.blkS id s n hs
  have hid:=hlt id _ hs
  exact ⟨n',(hsub.shp id hid).trans h1,h2,fun e => ⟨(hsub.lo id hid).trans (h3 e).1,(h3 e).2⟩⟩
 ·intro id hm
  have hid : id < c0.H.length:=by
   obtain ⟨ents,he,_⟩:=hm
   rcases Nat.lt_or_ge id c0.H.length with h' | h'
   ·exact h'
   ·rw [List.getElem?_eq_none h'] at he; cases he
  obtain ⟨h1,h2⟩:=h.mpS id hm
  exact ⟨hsub.mp id hid h1,(hsub.lo id hid).trans h2⟩
 ·intro id hid
  obtain ⟨h1,h2,h3⟩:=h.floor id hid
  exact ⟨by rw [hget,if_pos hid]; exact h1,(hsub.lo id (by omega)).trans h2,h3⟩
theorem aFq [GlobT] {fl : Nat} {c0 c : Ctx} (hs0 : Sim FT c0) (hs : Sim FT c) (h : Step fl c0 c) (hfl : fl ≤ c0.H.length) : Sim FT (oU fl c0.H.length c):=by
 have hsub:=sR hfl h.len
 have hget:=sS hfl h.len
 have hst:=xR hs0 h hfl
 have hβ : ∀ id b,(oU fl c0.H.length c).β id = some b → id < c0.H.length ∧ c.β id = some b:=by
  intro id b hb
  simp only [oU] at hb
  split at hb
  ·exact ⟨by assumption,hb⟩
  ·cases hb
 refine ⟨hs0.gl.step hst,?_,?_,?_,hs.fresh,?_,?_,?_,?_⟩
 ·intro i j b hi hj
  exact hs.inj i j b (hβ i b hi).2 (hβ j b hj).2
 ·intro id b hb
  rw [oT hfl h.len]; exact (hβ id b hb).1
 ·intro id b hb
  exact hs.nx id b (hβ id b hb).2
 ·intro id s es ho
  rw [hget] at ho
  split at ho
  ·exact hs.lens id s es ho
  ·split at ho
   ·simp only [Option.map_eq_some_iff] at ho
    obtain ⟨o,ho1,ho2⟩:=ho
    cases o with
    | blk s' es' =>
     simp only [lC,AObj.blk.injEq] at ho2
     obtain ⟨rfl,rfl⟩:=ho2
     intro e he
     simp only [List.mem_map] at he
     obtain ⟨e0,h0,rfl⟩:=he
     simpa using hs.lens id s' es' ho1 e0 h0
    | mp ents => simp [lC] at ho2
    | raw q => simp [lC] at ho2
   ·cases ho
 ·intro id s es b ho hb
  obtain ⟨hid,hb'⟩:=hβ id b hb
  rw [hget] at ho
  split at ho
  ·rename_i hlo
   obtain ⟨f1,f2,f3⟩:=h.floor id hlo
   rw [f1] at ho
   rw [f2] at hb'
   obtain ⟨cs,T,g1,g2,g3⟩:=hs0.blk id s es b ho hb'
   exact ⟨cs,T,(f3 b hb').trans g1,g2,fun i j x hx => let ⟨v,k1,k2,k3⟩:=g3 i j x hx; ⟨v,k1,k2,k3.step hst⟩⟩
  ·simp only [Option.map_eq_some_iff] at ho
   obtain ⟨o,ho1,ho2⟩:=ho
   cases o with
   | blk s' es' =>
    simp only [lC,AObj.blk.injEq] at ho2
    obtain ⟨rfl,rfl⟩:=ho2
    obtain ⟨cs,T,g1,g2,g3⟩:=hs.blk id s' es' b ho1 hb'
    refine ⟨cs,T,g1,by simpa using g2,fun i j x hx => ?_⟩
    obtain ⟨y,hy,rfl⟩:=pY hx
    obtain ⟨v,k1,k2,k3⟩:=g3 i j y hy
    exact ⟨v,k1,k2,tR hsub k3⟩
   | mp ents => simp [lC] at ho2
   | raw q => simp [lC] at ho2
 ·intro id ents b ho hb
  obtain ⟨hid,hb'⟩:=hβ id b hb
  rw [hget] at ho
  split at ho
  ·rename_i hlo
   obtain ⟨f1,f2,f3⟩:=h.floor id hlo
   rw [f1] at ho
   rw [f2] at hb'
   obtain ⟨es,clk,g1,g2,g3⟩:=hs0.map id ents b ho hb'
   exact ⟨es,clk,(f3 b hb').trans g1,g2,fun i k x hx => let ⟨e,k1,k2,k3⟩:=g3 i k x hx; ⟨e,k1,k2,k3.step hst⟩⟩
  ·simp only [Option.map_eq_some_iff] at ho
   obtain ⟨o,ho1,ho2⟩:=ho
   cases o with
   | blk s' es' => simp [lC] at ho2
   | mp ents' =>
    simp only [lC,AObj.mp.injEq] at ho2
    subst ho2
    obtain ⟨es,clk,g1,g2,g3⟩:=hs.map id ents' b ho1 hb'
    refine ⟨es,clk,g1,by simpa using g2,fun i k x hx => ?_⟩
    simp only [List.getElem?_map,Option.map_eq_some_iff] at hx
    obtain ⟨⟨k0,y⟩,hy,he⟩:=hx
    simp only [Prod.mk.injEq] at he
    obtain ⟨rfl,rfl⟩:=he
    obtain ⟨e,k1,k2,k3⟩:=g3 i k0 y hy
    exact ⟨e,k1,k2,xE hsub k3⟩
   | raw q => simp [lC] at ho2
 ·intro id q b ho hb
  obtain ⟨hid,hb'⟩:=hβ id b hb
  rw [hget] at ho
  split at ho
  ·rename_i hlo
   obtain ⟨f1,f2,f3⟩:=h.floor id hlo
   rw [f1] at ho
   rw [f2] at hb'
   exact (f3 b hb').trans (hs0.raw id q b ho hb')
  ·simp only [Option.map_eq_some_iff] at ho
   obtain ⟨o,ho1,ho2⟩:=ho
   cases o with
   | blk s' es' => simp [lC] at ho2
   | mp ents' => simp [lC] at ho2
   | raw q' =>
    simp only [lC,AObj.raw.injEq] at ho2
    subst ho2
    exact hs.raw id q' b ho1 hb'
theorem uE [GlobT] {fl : Nat} {live : Option (List Bool)} {tr : Bool} {c0 c : Ctx} {tm : List AV} {tv : Array Value} (hs0 : Sim FT c0) (hs : Sim FT c) (h : Step fl c0 c) (hfl : fl ≤ c0.H.length) (htr : TR FT c tm tv) :
  ∃ c',c'.w = c.w ∧ c'.H = (kY live tr fl c0.H.length ⟨tm,c.H⟩).heap ∧ Step fl c0 c' ∧ Sim FT c' ∧ TR FT c' (kY live tr fl c0.H.length ⟨tm,c.H⟩).tmps tv:=by
 have htm : TR FT c (aNo live tm) tv:=by
  cases live with
  | none => exact htr
  | some l => exact aEj l tm tv htr
 cases tr with
 | false => exact ⟨c,rfl,by simp [kY],h,hs,by simpa [kY] using htm⟩
 | true =>
  refine ⟨oU fl c0.H.length c,rfl,by simp [kY,oU],xR hs0 h hfl,aFq hs0 hs h hfl,?_⟩
  simp only [kY,if_true]
  refine ⟨by simpa using htm.1,fun t x hx => ?_⟩
  simp only [List.getElem?_map,Option.map_eq_some_iff] at hx
  obtain ⟨y,hy,rfl⟩:=hx
  obtain ⟨v,g1,g2⟩:=htm.2 t y hy
  exact ⟨v,g1,aG9 (sR hfl h.len) g2⟩
def ownC (c : Ctx) (id s : Nat) (es : List (List AV)) : Ctx :=
 ⟨c.w,c.X,fun i => if i = c.H.length then c.β id else if i = id then none else c.β i,c.H.set id (.blk s (es ++ [List.replicate s .undef])) ++ [.blk s es]⟩
theorem aH2 {c : Ctx} {id s : Nat} {es : List (List AV)} (hob : c.H[id]? = some (.blk s es)) (i : Nat) :
  (ownC c id s es).H[i]? = if i = c.H.length then some (.blk s es) else if i = id then some (.blk s (es ++ [List.replicate s .undef])) else c.H[i]?:=by
 have hlt : id < c.H.length:=(List.getElem?_eq_some_iff.1 hob).1
 simp only [ownC]
 rw [List.getElem?_append]
 simp only [List.length_set]
 by_cases h1 : i < c.H.length
 ·rw [if_pos h1,if_neg (by omega),List.getElem?_set]
  by_cases h2 : id = i
  ·subst h2; simp [hlt]
  ·rw [if_neg h2,if_neg (fun h => h2 h.symm)]
 ·rw [if_neg h1]
  by_cases h2 : i = c.H.length
  ·subst h2; simp
  ·rw [if_neg h2,if_neg (by omega),List.getElem?_eq_none (by simp; omega),List.getElem?_eq_none (by omega)]
theorem aJi [GlobT] {fl : Nat} {c : Ctx} {id s : Nat} {es : List (List AV)} (hfl : fl ≤ id) (hob : c.H[id]? = some (.blk s es)) : Step fl c (ownC c id s es):=by
 have hlt : id < c.H.length:=(List.getElem?_eq_some_iff.1 hob).1
 have hg:=aH2 hob
 have hlo : ∀ i o,c.H[i]? = some o → i < c.H.length:=fun i o h => (List.getElem?_eq_some_iff.1 h).1
 refine ⟨rfl,rfl,rfl,rfl,Nat.le_refl _,Nat.le_refl _,by simp [ownC],fun _ _ _ => rfl,?_,?_,?_,?_⟩
 ·intro i b hb
  simp only [ownC] at hb
  split at hb
  ·exact .inr ⟨_,hb⟩
  ·split at hb
   ·cases hb
   ·exact .inr ⟨_,hb⟩
 ·intro i s' n hs
  have hi : i < c.H.length:=by
   rcases Nat.lt_or_ge i c.H.length with h' | h'
   ·exact h'
   ·simp [shp,List.getElem?_eq_none h'] at hs
  by_cases h2 : i = id
  ·subst h2
   have e : s' = s ∧ n = es.length:=by simp [shp,hob] at hs; omega
   obtain ⟨rfl,rfl⟩:=e
   refine ⟨es.length + 1,?_,by omega,fun e => by omega⟩
   unfold shp
   rw [hg,if_neg (by omega),if_pos rfl]
   simp
  ·refine ⟨n,?_,Nat.le_refl _,fun _ => ⟨?_,fun b cs T _ hb => ⟨cs,hb,rfl⟩⟩⟩
   ·unfold shp
    rw [hg,if_neg (by omega),if_neg h2]
    exact hs
   ·simp only [ownC]
    rw [if_neg (by omega),if_neg h2]
 ·intro i hm
  obtain ⟨o,ho,hnb⟩:=hm
  have hi:=hlo i o ho
  have h2 : i ≠ id:=by
   intro e
   subst e
   rw [hob] at ho
   cases ho
   exact hnb
  refine ⟨⟨o,by rw [hg,if_neg (by omega),if_neg h2]; exact ho,hnb⟩,?_⟩
  simp only [ownC]
  rw [if_neg (by omega),if_neg h2]
 ·intro i hi
  refine ⟨by rw [hg,if_neg (by omega),if_neg (by omega)],?_,fun _ _ => rfl⟩
  simp only [ownC]
  rw [if_neg (by omega),if_neg (by omega)]
theorem aUa [GlobT] {c : Ctx} {id s : Nat} {es : List (List AV)} (hs : Sim FT c) (hob : c.H[id]? = some (.blk s es)) : Sim FT (ownC c id s es):=by
 have hlt : id < c.H.length:=(List.getElem?_eq_some_iff.1 hob).1
 have hg:=aH2 hob
 have hst:=aJi (fl:=0) (Nat.zero_le _) hob
 have hβ : ∀ i b,(ownC c id s es).β i = some b → (i = c.H.length ∧ c.β id = some b) ∨ (i ≠ c.H.length ∧ i ≠ id ∧ c.β i = some b):=by
  intro i b hb
  simp only [ownC] at hb
  split at hb
  ·exact .inl ⟨by assumption,hb⟩
  ·split at hb
   ·cases hb
   ·exact .inr ⟨by assumption,by assumption,hb⟩
 refine ⟨hs.gl.step hst,?_,?_,?_,hs.fresh,?_,?_,?_,?_⟩
 ·intro i j b hi hj
  rcases hβ i b hi with ⟨h1,h2⟩ | ⟨h1,h2,h3⟩ <;> rcases hβ j b hj with ⟨k1,k2⟩ | ⟨k1,k2,k3⟩
  ·omega
  ·exact (k2 (hs.inj _ _ b k3 h2)).elim
  ·exact (h2 (hs.inj _ _ b h3 k2)).elim
  ·exact hs.inj _ _ b h3 k3
 ·intro i b hb
  simp only [ownC,List.length_append,List.length_set,List.length_singleton]
  rcases hβ i b hb with ⟨h1,h2⟩ | ⟨h1,h2,h3⟩
  ·omega
  ·have:=hs.dom i b h3; omega
 ·intro i b hb
  rcases hβ i b hb with ⟨h1,h2⟩ | ⟨h1,h2,h3⟩
  ·exact hs.nx _ b h2
  ·exact hs.nx _ b h3
 ·intro i s' es' ho
  rw [hg] at ho
  split at ho
  ·cases ho; exact hs.lens id s es hob
  ·split at ho
   ·cases ho
    intro e he
    rcases List.mem_append.1 he with h | h
    ·exact hs.lens id s es hob e h
    ·simp only [List.mem_singleton] at h; subst h; simp
   ·exact hs.lens i s' es' ho
 ·intro i s' es' b ho hb
  rcases hβ i b hb with ⟨h1,h2⟩ | ⟨h1,h2,h3⟩
  ·rw [hg,if_pos h1] at ho
   cases ho
   obtain ⟨cs,T,g1,g2,g3⟩:=hs.blk id s es b hob h2
   exact ⟨cs,T,g1,g2,fun i j x hx => let ⟨v,k1,k2,k3⟩:=g3 i j x hx; ⟨v,k1,k2,k3.step hst⟩⟩
  ·rw [hg,if_neg h1,if_neg h2] at ho
   obtain ⟨cs,T,g1,g2,g3⟩:=hs.blk i s' es' b ho h3
   exact ⟨cs,T,g1,g2,fun i j x hx => let ⟨v,k1,k2,k3⟩:=g3 i j x hx; ⟨v,k1,k2,k3.step hst⟩⟩
 ·intro i ents b ho hb
  rcases hβ i b hb with ⟨h1,h2⟩ | ⟨h1,h2,h3⟩
  ·rw [hg,if_pos h1] at ho
   cases ho
  ·rw [hg,if_neg h1,if_neg h2] at ho
   obtain ⟨es,clk,g1,g2,g3⟩:=hs.map i ents b ho h3
   exact ⟨es,clk,g1,g2,fun i k x hx => let ⟨e,k1,k2,k3⟩:=g3 i k x hx; ⟨e,k1,k2,k3.step hst⟩⟩
 ·intro i q b ho hb
  rcases hβ i b hb with ⟨h1,h2⟩ | ⟨h1,h2,h3⟩
  ·rw [hg,if_pos h1] at ho
   cases ho
  ·rw [hg,if_neg h1,if_neg h2] at ho
   exact hs.raw i q b ho h3
theorem aNm {c c' : Ctx} {id m s tot off len : Nat} {es es' : List (List AV)} (hob : c.H[id]? = some (.blk s es)) (hob' : c'.H[m]? = some (.blk s es')) (hl : es'.length = es.length) (hw : c'.w = c.w) (hβ : c'.β m = c.β id) {v : Value}
  (hr : RV FT c (.ms id tot off len) v) : RV FT c' (.ms m tot off len) v:=by
 cases hr with
 | pure _ _ hp => cases hp
 | ms _ _ _ _ a cap s' n g1 g2 g3 g4 =>
  have e : s' = s ∧ n = es.length:=by simp [shp,hob] at g1; omega
  obtain ⟨rfl,rfl⟩:=e
  refine .ms m tot off len a cap s' es'.length (by simp [shp,hob']) (by omega) g3 fun e => ?_
  obtain ⟨m1,m2⟩:=g4 (by omega)
  refine ⟨m1,?_⟩
  rcases m2 with ⟨m3,m4,m5,m6⟩ | ⟨b,cs,T,a',m3,m4,m5,m6,m7⟩
  ·exact .inl ⟨hβ.trans m3,m4,m5,m6⟩
  ·exact .inr ⟨b,cs,T,a',hβ.trans m3,by rw [hw]; exact m4,m5,m6,m7⟩
theorem aM1 [GlobT] {fl t : Nat} {c : Ctx} {tm : List AV} {tv : Array Value} {st1 : St} (hs : Sim FT c) (htr : TR FT c tm tv) (h : aLg fl t ⟨tm,c.H⟩ = some st1) :
  ∃ c',c'.w = c.w ∧ c'.H = st1.heap ∧ Step fl c c' ∧ Sim FT c' ∧ TR FT c' st1.tmps tv:=by
 unfold aLg at h
 simp only at h
 split at h
 ·rename_i id tot off len hx
  split at h
  ·rename_i hfl
   split at h
   ·rename_i s es hob
    split at h
    ·rename_i htot
     cases h
     have hst:=aJi hfl hob
     refine ⟨ownC c id s es,rfl,rfl,hst,aUa hs hob,?_⟩
     refine ⟨by simpa using htr.1,fun u y hy => ?_⟩
     simp only at hy
     rw [List.getElem?_set] at hy
     split at hy
     ·rename_i hut
      subst hut
      split at hy
      ·rename_i hlt
       cases hy
       obtain ⟨cv,g1,g2⟩:=htr.2 t tm[t] (List.getElem?_eq_getElem hlt)
       have e : tm[t] = .ms id tot off len:=by
        simp only [kG,List.getElem?_eq_getElem hlt] at hx
        exact hx
       rw [e] at g2
       refine ⟨cv,g1,aNm (c':=ownC c id s es) (m:=c.H.length) (es':=es) hob (by rw [aH2 hob,if_pos rfl]) rfl rfl (by simp [ownC]) g2⟩
      ·cases hy
     ·obtain ⟨cv,g1,g2⟩:=htr.2 u y hy
      exact ⟨cv,g1,g2.step hst⟩
    ·cases h
   ·cases h
  ·cases h
 ·cases h
def sN (fl n id s : Nat) (es : List (List AV)) (c : Ctx) : Ctx :=
 ⟨c.w,c.X,fun i => if i < n then c.β i else if i = n then c.β id else none,(oU fl n c).H ++ [lC n (.blk s es)]⟩
theorem wC [GlobT] {fl n id s : Nat} {es : List (List AV)} {c : Ctx} (hfn : fl ≤ n) (hn : n ≤ c.H.length) (i : Nat) :
  (sN fl n id s es c).H[i]? = if i < n then (oU fl n c).H[i]? else if i = n then some (lC n (.blk s es)) else none:=by
 simp only [sN]
 rw [List.getElem?_append]
 rw [oT hfn hn]
 by_cases h : i < n
 ·rw [if_pos h,if_pos h]
 ·rw [if_neg h,if_neg h]
  by_cases h2 : i = n
  ·subst h2; simp
  ·rw [if_neg h2,List.getElem?_eq_none (by simp; omega)]
theorem aEh [GlobT] {fl n id s : Nat} {es : List (List AV)} {c : Ctx} (hfn : fl ≤ n) (hn : n ≤ c.H.length) : Sub n c (sN fl n id s es c) where
 w:=rfl
 X:=rfl
 lo:=fun i hi => by simp [sN,hi]
 img:=fun i b hb => by
  simp only [sN] at hb
  split at hb
  ·exact ⟨i,hb⟩
  ·split at hb
   ·exact ⟨_,hb⟩
   ·cases hb
 shp:=fun i hi => by
  have:=(sR (c:=c) hfn hn).shp i hi
  unfold shp at this ⊢
  rw [wC hfn hn,if_pos hi]
  exact this
 mp:=fun i hi hm => by
  have:=(sR (c:=c) hfn hn).mp i hi hm
  unfold zH at this ⊢
  rw [wC hfn hn,if_pos hi]
  exact this
theorem aGb [GlobT] {fl id s : Nat} {es : List (List AV)} {c0 c : Ctx} (hs0 : Sim FT c0) (h : Step fl c0 c) (hfl : fl ≤ c0.H.length) : Step fl c0 (sN fl c0.H.length id s es c):=by
 have hsub:=aEh (id:=id) (s:=s) (es:=es) hfl h.len
 have ht:=xR hs0 h hfl
 have hget:=wC (id:=id) (s:=s) (es:=es) hfl h.len
 have hlen : (sN fl c0.H.length id s es c).H.length = c0.H.length + 1:=by
  simp only [sN,List.length_append,oT hfl h.len,List.length_singleton]
 refine ⟨h.X,h.os,h.tape,h.output,h.drawn,h.size,by rw [hlen]; omega,h.frame,?_,?_,?_,?_⟩
 ·intro i b hb
  simp only [sN] at hb
  split at hb
  ·exact h.img i b hb
  ·split at hb
   ·exact h.img id b hb
   ·cases hb
 ·intro i s' n hs
  have hid : i < c0.H.length:=by
   rcases Nat.lt_or_ge i c0.H.length with h' | h'
   ·exact h'
   ·simp [shp,List.getElem?_eq_none h'] at hs
  obtain ⟨n',h1,h2,h3⟩:=h.blkS i s' n hs
  exact ⟨n',(hsub.shp i hid).trans h1,h2,fun e => ⟨(hsub.lo i hid).trans (h3 e).1,(h3 e).2⟩⟩
 ·intro i hm
  have hid : i < c0.H.length:=by
   obtain ⟨ents,he,_⟩:=hm
   exact (List.getElem?_eq_some_iff.1 he).1
  obtain ⟨h1,h2⟩:=h.mpS i hm
  exact ⟨hsub.mp i hid h1,(hsub.lo i hid).trans h2⟩
 ·intro i hi
  obtain ⟨h1,h2,h3⟩:=ht.floor i hi
  exact ⟨by rw [hget,if_pos (by omega)]; exact h1,(hsub.lo i (by omega)).trans (h.floor i hi).2.1,h3⟩
theorem aQs [GlobT] {fl id s : Nat} {es : List (List AV)} {c0 c : Ctx} (hs0 : Sim FT c0) (hs : Sim FT c) (h : Step fl c0 c) (hfl : fl ≤ c0.H.length) (hid : c0.H.length ≤ id) (hob : c.H[id]? = some (.blk s es)) : Sim FT (sN fl c0.H.length id s es c):=by
 have hsub:=aEh (id:=id) (s:=s) (es:=es) hfl h.len
 have hst:=aGb (id:=id) (s:=s) (es:=es) hs0 h hfl
 have ht:=aFq hs0 hs h hfl
 have hget:=wC (id:=id) (s:=s) (es:=es) hfl h.len
 have htg:=sS hfl h.len
 have hlen : (sN fl c0.H.length id s es c).H.length = c0.H.length + 1:=by
  simp only [sN,List.length_append,oT hfl h.len,List.length_singleton]
 have hβ : ∀ i b,(sN fl c0.H.length id s es c).β i = some b → (i < c0.H.length ∧ c.β i = some b) ∨ (i = c0.H.length ∧ c.β id = some b):=by
  intro i b hb
  simp only [sN] at hb
  split at hb
  ·exact .inl ⟨by assumption,hb⟩
  ·split at hb
   ·exact .inr ⟨by assumption,hb⟩
   ·cases hb
 refine ⟨hs0.gl.step hst,?_,?_,?_,hs.fresh,?_,?_,?_,?_⟩
 ·intro i j b hi hj
  rcases hβ i b hi with ⟨h1,h2⟩ | ⟨h1,h2⟩ <;> rcases hβ j b hj with ⟨k1,k2⟩ | ⟨k1,k2⟩
  ·exact hs.inj _ _ b h2 k2
  ·have:=hs.inj _ _ b h2 k2; omega
  ·have:=hs.inj _ _ b h2 k2; omega
  ·omega
 ·intro i b hb
  rw [hlen]
  rcases hβ i b hb with ⟨h1,h2⟩ | ⟨h1,h2⟩ <;> omega
 ·intro i b hb
  rcases hβ i b hb with ⟨h1,h2⟩ | ⟨h1,h2⟩
  ·exact hs.nx _ b h2
  ·exact hs.nx _ b h2
 ·intro i s' es' ho
  rw [hget] at ho
  split at ho
  ·exact ht.lens i s' es' ho
  ·split at ho
   ·simp only [lC,Option.some.injEq,AObj.blk.injEq] at ho
    obtain ⟨rfl,rfl⟩:=ho
    intro e he
    simp only [List.mem_map] at he
    obtain ⟨e0,h0,rfl⟩:=he
    simpa using hs.lens id s es hob e0 h0
   ·cases ho
 ·intro i s' es' b ho hb
  rcases hβ i b hb with ⟨hi,hb'⟩ | ⟨hi,hb'⟩
  ·rw [hget,if_pos hi,htg] at ho
   split at ho
   ·rename_i hlo
    obtain ⟨f1,f2,f3⟩:=h.floor i hlo
    rw [f1] at ho
    rw [f2] at hb'
    obtain ⟨cs,T,g1,g2,g3⟩:=hs0.blk i s' es' b ho hb'
    exact ⟨cs,T,(f3 b hb').trans g1,g2,fun i j x hx => let ⟨v,k1,k2,k3⟩:=g3 i j x hx; ⟨v,k1,k2,k3.step hst⟩⟩
   ·try rw [if_pos hi] at ho
    simp only [Option.map_eq_some_iff] at ho
    obtain ⟨o,ho1,ho2⟩:=ho
    cases o with
    | blk s2 es2 =>
     simp only [lC,AObj.blk.injEq] at ho2
     obtain ⟨rfl,rfl⟩:=ho2
     obtain ⟨cs,T,g1,g2,g3⟩:=hs.blk i s2 es2 b ho1 hb'
     refine ⟨cs,T,g1,by simpa using g2,fun i j x hx => ?_⟩
     obtain ⟨y,hy,rfl⟩:=pY hx
     obtain ⟨v,k1,k2,k3⟩:=g3 i j y hy
     exact ⟨v,k1,k2,tR hsub k3⟩
    | mp ents => simp [lC] at ho2
    | raw q => simp [lC] at ho2
  ·rw [hget,if_neg (by omega),if_pos hi] at ho
   simp only [lC,Option.some.injEq,AObj.blk.injEq] at ho
   obtain ⟨rfl,rfl⟩:=ho
   obtain ⟨cs,T,g1,g2,g3⟩:=hs.blk id s es b hob hb'
   refine ⟨cs,T,g1,by simpa using g2,fun i j x hx => ?_⟩
   obtain ⟨y,hy,rfl⟩:=pY hx
   obtain ⟨v,k1,k2,k3⟩:=g3 i j y hy
   exact ⟨v,k1,k2,tR hsub k3⟩
 ·intro i ents b ho hb
  rcases hβ i b hb with ⟨hi,hb'⟩ | ⟨hi,hb'⟩
  ·rw [hget,if_pos hi,htg] at ho
   split at ho
   ·rename_i hlo
    obtain ⟨f1,f2,f3⟩:=h.floor i hlo
    rw [f1] at ho
    rw [f2] at hb'
    obtain ⟨es,clk,g1,g2,g3⟩:=hs0.map i ents b ho hb'
    exact ⟨es,clk,(f3 b hb').trans g1,g2,fun i k x hx => let ⟨e,k1,k2,k3⟩:=g3 i k x hx; ⟨e,k1,k2,k3.step hst⟩⟩
   ·try rw [if_pos hi] at ho
    simp only [Option.map_eq_some_iff] at ho
    obtain ⟨o,ho1,ho2⟩:=ho
    cases o with
    | blk s' es' => simp [lC] at ho2
    | mp ents' =>
     simp only [lC,AObj.mp.injEq] at ho2
     subst ho2
     obtain ⟨es,clk,g1,g2,g3⟩:=hs.map i ents' b ho1 hb'
     refine ⟨es,clk,g1,by simpa using g2,fun i k x hx => ?_⟩
     simp only [List.getElem?_map,Option.map_eq_some_iff] at hx
     obtain ⟨⟨k0,y⟩,hy,he⟩:=hx
     simp only [Prod.mk.injEq] at he
     obtain ⟨rfl,rfl⟩:=he
     obtain ⟨e,k1,k2,k3⟩:=g3 i k0 y hy
     exact ⟨e,k1,k2,xE hsub k3⟩
    | raw q => simp [lC] at ho2
  ·rw [hget,if_neg (by omega),if_pos hi] at ho
   simp [lC] at ho
 ·intro i q b ho hb
  rcases hβ i b hb with ⟨hi,hb'⟩ | ⟨hi,hb'⟩
  ·rw [hget,if_pos hi,htg] at ho
   split at ho
   ·rename_i hlo
    obtain ⟨f1,f2,f3⟩:=h.floor i hlo
    rw [f1] at ho
    rw [f2] at hb'
    exact (f3 b hb').trans (hs0.raw i q b ho hb')
   ·try rw [if_pos hi] at ho
    simp only [Option.map_eq_some_iff] at ho
    obtain ⟨o,ho1,ho2⟩:=ho
    cases o with
    | blk s' es' => simp [lC] at ho2
    | mp ents' => simp [lC] at ho2
    | raw q' =>
     simp only [lC,AObj.raw.injEq] at ho2
     subst ho2
     exact hs.raw i q' b ho1 hb'
  ·rw [hget,if_neg (by omega),if_pos hi] at ho
   simp [lC] at ho
theorem vJ [GlobT] {fl t : Nat} {live : List Bool} {c0 c : Ctx} {tm : List AV} {tv : Array Value} (hs0 : Sim FT c0) (hs : Sim FT c) (h : Step fl c0 c) (hfl : fl ≤ c0.H.length) (htr : TR FT c tm tv) :
  ∃ c',c'.w = c.w ∧ c'.H = (yA live t fl c0.H.length ⟨tm,c.H⟩).heap ∧ Step fl c0 c' ∧ Sim FT c' ∧ TR FT c' (yA live t fl c0.H.length ⟨tm,c.H⟩).tmps tv:=by
 have hdef:=uE (live:=some live) (tr:=true) hs0 hs h hfl htr
 unfold yA
 simp only
 split
 ·rename_i id tot off len hx
  split
  ·rename_i hid
   split
   ·rename_i s es hob
    have htm : TR FT c (sO live tm) tv:=aEj live tm tv htr
    have hsub:=aEh (id:=id) (s:=s) (es:=es) hfl h.len
    refine ⟨sN fl c0.H.length id s es c,rfl,by simp [sN,oU],aGb hs0 h hfl,aQs hs0 hs h hfl hid hob,?_⟩
    refine ⟨by simpa using htm.1,fun u y hy => ?_⟩
    simp only at hy
    rw [List.getElem?_set] at hy
    split at hy
    ·rename_i hut
     subst hut
     split at hy
     ·rename_i hlt
      cases hy
      have hlt' : t < tm.length:=by
       have e1:=htm.1
       have e2:=htr.1
       simp only [List.length_map] at hlt
       omega
      obtain ⟨cv,g1,g2⟩:=htr.2 t tm[t] (List.getElem?_eq_getElem hlt')
      have e : tm[t] = .ms id tot off len:=by
       simp only [kG,List.getElem?_eq_getElem hlt'] at hx
       exact hx
      rw [e] at g2
      refine ⟨cv,g1,aNm (c':=sN fl c0.H.length id s es c) (m:=c0.H.length) (es':=es.map fun e => e.map (uW c0.H.length)) hob ?_ (by simp) rfl (by simp [sN]) g2⟩
      rw [wC hfl h.len,if_neg (by omega),if_pos rfl]
      rfl
     ·cases hy
    ·simp only [List.getElem?_map,Option.map_eq_some_iff] at hy
     obtain ⟨z,hz,rfl⟩:=hy
     obtain ⟨v,g1,g2⟩:=htm.2 u z hz
     exact ⟨v,g1,aG9 hsub g2⟩
   ·exact hdef
  ·exact hdef
 ·exact hdef
end
section
variable {P : Program} {T : List AFun} {cf : Nat → Nat → List AV → Heap → Option (AV × Heap)} {fl lf : Nat}
def uV : AExit → Exit
 | .normal => .normal
 | .exit id => .exit id
 | .ret => .ret
def aK5 [GlobT] (P : Program) (T : List AFun) (fl : Nat) (ev : St → Option (AExit × St)) (code : Code) : Prop :=
 ∀ (c : Ctx) (a : Act) (tm : List AV) (x : AExit) (st' : St) (Q : Exit → Act → World → Prop),Sim (ftOf T) c → TR (ftOf T) c tm a.tmps → fl ≤ c.H.length → ev ⟨tm,c.H⟩ = some (x,st') →
  (∀ a' c',c'.H = st'.heap → Step fl c c' → Sim (ftOf T) c' → TR (ftOf T) c' st'.tmps a'.tmps → a'.defers = a.defers → Q (uV x) a' c'.w) → code.wp P Q a c.w
theorem aDi [GlobT] {code : Code} {step : St → Option (AExit × St)} {live : Option (List Bool)} {tr : Bool} (hstep : aK5 P T fl step code) {c0 : Ctx} (hs0 : Sim (ftOf T) c0) (hfl : fl ≤ c0.H.length) {ds : List Deferred} {x : AExit} {st' : St} {Q : Exit → Act → World → Prop}
  (hQ : ∀ a' c',c'.H = st'.heap → Step fl c0 c' → Sim (ftOf T) c' → TR (ftOf T) c' st'.tmps a'.tmps → a'.defers = ds → Q (uV x) a' c'.w) :
  ∀ (n : Nat) (c : Ctx) (a : Act) (tm : List AV),Sim (ftOf T) c → Step fl c0 c → TR (ftOf T) c tm a.tmps → a.defers = ds → pE (kY live tr fl c0.H.length) step n ⟨tm,c.H⟩ = some (x,st') → Code.rounds P code Q n a c.w
 | 0,c,a,tm,_,_,_,_,hev => by cases hev
 | n + 1,c,a,tm,hs,hst,htr,hd,hev => by
  rw [rounds_succ]
  simp only [pE] at hev
  obtain ⟨c1,h1,h2,h3,h4,h5⟩:=uE (live:=live) (tr:=tr) hs0 hs hst hfl htr
  rw [← h1]
  have hst1 : (kY live tr fl c0.H.length ⟨tm,c.H⟩) = ⟨(kY live tr fl c0.H.length ⟨tm,c.H⟩).tmps,c1.H⟩:=by rw [h2]
  rw [hst1] at hev
  split at hev
  ·rename_i st2 he
   refine hstep c1 a _ .normal st2 _ h4 h5 (Nat.le_trans hfl h3.len) he ?_
   intro a' c' e1 e2 e3 e4 e5
   show Code.rounds P code Q n a' c'.w
   refine aDi (live:=live) (tr:=tr) hstep hs0 hfl hQ n c' a' st2.tmps e3 (h3.trans e2) e4 (e5.trans hd) ?_
   rw [e1]; exact hev
  ·rename_i r hne
   have key : ∀ y,uV x = y → y ≠ .normal → code.wp P (Exit.then (Code.rounds P code Q n) Q) a c1.w:=by
    intro y hy hyn
    refine hstep c1 a _ x st' _ h4 h5 (Nat.le_trans hfl h3.len) hev ?_
    intro a' c' e1 e2 e3 e4 e5
    have:=hQ a' c' e1 (h3.trans e2) e3 e4 (e5.trans hd)
    rw [hy] at this ⊢
    cases y <;> first | exact (hyn rfl).elim | exact this
   cases x with
   | normal => exact (hne st' hev).elim
   | exit id => exact key _ rfl (by simp [uV])
   | ret => exact key _ rfl (by simp [uV])
theorem vF [GlobT] {code : Code} {step : St → Option (AExit × St)} {head : St → St} (hstep : aK5 P T fl step code) {c0 : Ctx} (hfl : fl ≤ c0.H.length)
  (hhead : ∀ (c : Ctx) (tm : List AV) (tv : Array Value),Sim (ftOf T) c → Step fl c0 c → TR (ftOf T) c tm tv → ∃ c',c'.w = c.w ∧ c'.H = (head ⟨tm,c.H⟩).heap ∧ Step fl c0 c' ∧ Sim (ftOf T) c' ∧ TR (ftOf T) c' (head ⟨tm,c.H⟩).tmps tv)
  {ds : List Deferred} {x : AExit} {st' : St} {Q : Exit → Act → World → Prop}
  (hQ : ∀ a' c',c'.H = st'.heap → Step fl c0 c' → Sim (ftOf T) c' → TR (ftOf T) c' st'.tmps a'.tmps → a'.defers = ds → Q (uV x) a' c'.w) :
  ∀ (n : Nat) (c : Ctx) (a : Act) (tm : List AV),Sim (ftOf T) c → Step fl c0 c → TR (ftOf T) c tm a.tmps → a.defers = ds → pE head step n ⟨tm,c.H⟩ = some (x,st') → Code.rounds P code Q n a c.w
 | 0,c,a,tm,_,_,_,_,hev => by cases hev
 | n + 1,c,a,tm,hs,hst,htr,hd,hev => by
  rw [rounds_succ]
  simp only [pE] at hev
  obtain ⟨c1,h1,h2,h3,h4,h5⟩:=hhead c tm a.tmps hs hst htr
  rw [← h1]
  have hst1 : (head ⟨tm,c.H⟩) = ⟨(head ⟨tm,c.H⟩).tmps,c1.H⟩:=by rw [h2]
  rw [hst1] at hev
  split at hev
  ·rename_i st2 he
   refine hstep c1 a _ .normal st2 _ h4 h5 (Nat.le_trans hfl h3.len) he ?_
   intro a' c' e1 e2 e3 e4 e5
   show Code.rounds P code Q n a' c'.w
   refine vF hstep hfl hhead hQ n c' a' st2.tmps e3 (h3.trans e2) e4 (e5.trans hd) ?_
   rw [e1]; exact hev
  ·rename_i r hne
   have key : ∀ y,uV x = y → y ≠ .normal → code.wp P (Exit.then (Code.rounds P code Q n) Q) a c1.w:=by
    intro y hy hyn
    refine hstep c1 a _ x st' _ h4 h5 (Nat.le_trans hfl h3.len) hev ?_
    intro a' c' e1 e2 e3 e4 e5
    have:=hQ a' c' e1 (h3.trans e2) e3 e4 (e5.trans hd)
    rw [hy] at this ⊢
    cases y <;> first | exact (hyn rfl).elim | exact this
   cases x with
   | normal => exact (hne st' hev).elim
   | exit id => exact key _ rfl (by simp [uV])
   | ret => exact key _ rfl (by simp [uV])
theorem aNi [GlobT] {c : Ctx} {x : AV} {u : Value} (hr : RV (ftOf T) c x u) (h3 : nilK c.H x ≠ 3) : ∃ ad n cap,u = .slice ad n cap ∧ (nilK c.H x = 0 → ad = none) ∧ (nilK c.H x = 1 → ad.isNone = false):=by
 unfold nilK at h3 ⊢
 split at h3
 ·rename_i v
  have:=hr.lit_inv
  subst this
  split at h3
  ·split at h3
   ·split at h3
    ·split at h3
     ·exact ⟨none,0,0,rfl,fun _ => rfl,fun h => by simp at h⟩
     ·exact (h3 rfl).elim
    ·exact (h3 rfl).elim
   ·exact (h3 rfl).elim
  ·exact (h3 rfl).elim
 ·rename_i f es
  have hp:=hr.sl_inv
  cases hp with
  | nil _ ad cap hf => exact ⟨ad,0,cap,rfl,fun h => by simp at h,fun h => by simp at h⟩
  | sl _ _ b off cap cc Ty fz s vals g1 g2 g3 g4 g5 g6 g7 g8 => exact ⟨_,_,_,rfl,fun h => by cases es <;> simp at h,fun _ => rfl⟩
 ·rename_i id tot off len
  split at h3
  ·exact (h3 rfl).elim
  ·rename_i len'
   split at h3
   ·rename_i s es hob
    split at h3
    ·rename_i hbe
     obtain ⟨ad,cap,s0,n0,hv,g1,g2,g3,g4⟩:=hr.ms_inv
     rw [pQ hob] at g1
     cases g1
     obtain ⟨m1,m2⟩:=g4 (Nat.eq_of_beq_eq_true hbe).symm
     refine ⟨ad,_,cap,hv,fun h => by simp [hob,hbe] at h,fun _ => ?_⟩
     rcases m2 with ⟨_,m3,m4,m5⟩ | ⟨b,cc,Ty,a',m3,m4,m5,m6,m7⟩
     ·omega
     ·subst m6; rfl
    ·exact (h3 rfl).elim
   ·exact (h3 rfl).elim
 ·exact (h3 rfl).elim
theorem aNh [GlobT] (hcf : CfOK P T cf) (hfn : yJ P T) {c : Ctx} {a : Act} {tm : List AV} {ops : Array Oper} {o1 o2 : Oper} {id t d0 d1 : Nat} {Q : Exit → Act → World → Prop}
  (hops : ops.toList = [o1,o2]) (hc1 : tT P T ops ⟨some d0,.mov (.tmp t),none⟩ o1 = true) (hc2 : aIs P d0 d1 o2 = true) (hs : Sim (ftOf T) c) (htr : TR (ftOf T) c tm a.tmps) (hfl : fl ≤ c.H.length)
  (hd0 : d0 < tm.length) (h3 : nilK c.H (kG tm (.tmp t)) ≠ 3)
  (hQ : ∀ b a' c',(nilK c.H (kG tm (.tmp t)) = 0 → b = true) → (nilK c.H (kG tm (.tmp t)) = 1 → b = false) → c'.H = c.H → Step fl c c' → Sim (ftOf T) c' → TR (ftOf T) c' (rP tm t d0 d1 b) a'.tmps → a'.defers = a.defers → Q .normal a' c'.w) :
  (Code.region id ops false).wp P Q a c.w:=by
 have e1 : ops[0]? = some o1:=by rw [← Array.getElem?_toList,hops]; rfl
 have e2 : ops[1]? = some o2:=by rw [← Array.getElem?_toList,hops]; rfl
 have hsz : ops.size = 2:=by rw [← Array.length_toList,hops]; rfl
 refine wp_region ?_
 rw [hsz]
 show wpOps P ops Q [0,1] a c.w
 rw [wpOps_cons]
 have hev1 : mB P cf fl ⟨some d0,.mov (.tmp t),none⟩ ⟨tm,c.H⟩ = some ⟨tm.set d0 (kG tm (.tmp t)),c.H⟩:=rfl
 refine xV hcf hfn hs htr hfl e1 hc1 hev1 ?_
 intro a1 c1 f1 f2 f3 f4 f5 _
 rw [wpOps_cons]
 unfold aIs at hc2
 simp only [Bool.and_eq_true] at hc2
 obtain ⟨⟨h1,h2⟩,h4⟩:=hc2
 have hdst : o2.dst = some d1:=by
  split at h1
  ·rename_i d hd; rw [hd]; simpa using h1
  ·cases h1
 have hguard : o2.guard = none:=by simpa using h2
 split at h4
 ·rename_i ty x' ty' hop
  simp only [Bool.and_eq_true,beq_iff_eq] at h4
  obtain ⟨rfl,h4⟩:=h4
  split at h4
  ·rename_i e hu
   unfold wpOp
   rw [e2]
   simp only
   have hw : Region.wanted o2 (yielded ops a1.tmps) = true:=by simp [Region.wanted,hguard]
   rw [hw]
   simp only [if_true]
   left
   obtain ⟨u,k1,k2⟩:=f4.2 x' (kG tm (.tmp t)) (by simp [hd0])
   obtain ⟨ad,n,cap,hu',z0,z1⟩:=aNi k2 (by rw [f1]; exact h3)
   rw [f1] at z0 z1
   have hev : a1.eval (.tmp x') = .slice ad n cap:=by
    simp only [Act.eval,Array.getD_eq_getD_getElem?,k1,Option.getD_some,hu']
   have hrun : (execOp a1.eval o2).run P c1.w = .ok (.value (.bool ad.isNone)) c1.w:=by
    have heq : ∀ w : World,(Op.equalIn Op.maxDepth ty (.slice ad n cap) (.slice none 0 0)).run P w = .ok ad.isNone w:=by
     intro w
     have hm : Op.maxDepth = (Op.maxDepth - 1) + 1:=by decide
     rw [hm,Op.equalIn]
     cases ad <;> simp [run_underlying hu]
    simp [execOp,hop,Act.eval,k1,hu',eqGuard,binOp,Op.equal,heq]
   refine (lK (fl:=fl) (v:=.lit (.bool ad.isNone)) f3 hrun (RV.lit _)) _ _ ?_
   intro cv c2 q1 q2 q3 q4
   show Q .normal _ _
   rw [hdst]
   have hcv:=q4.lit_inv
   subst hcv
   refine hQ ad.isNone _ c2 (fun h => by rw [z0 h]; rfl) z1 (q1.trans f1) (f2.trans q2) q3 ?_ ((uB _ _ _).trans f5)
   exact TR.put (d:=some d1) (f4.step q2) q4
  ·cases h4
 ·cases h4
theorem aPh [GlobT] {c c' : Ctx} {x : AV} {v : Value} (h : empA x = true) (hr : RV (ftOf T) c x v) : RV (ftOf T) c' (.sl false []) v:=by
 unfold empA at h
 split at h
 ·rename_i u
  have:=hr.lit_inv
  subst this
  split at h
  ·split at h
   ·split at h
    ·split at h
     ·exact .pure _ _ (.nil false none 0 (by simp))
     ·cases h
    ·cases h
   ·cases h
  ·cases h
 ·split at h
  ·have hp:=hr.sl_inv
   cases hp with
   | nil _ ad cap hf => exact .pure _ _ (.nil false ad cap (by simp))
   | sl _ _ b off cap cc Ty fz s vals g1 g2 g3 g4 g5 g6 g7 g8 => exact (g1 rfl).elim
  ·cases h
 ·cases h
theorem aGe [GlobT] : ∀ (xs ys : List AV),xs.length = ys.length → (zG xs ys).length = xs.length ∧ ∀ (t : Nat) (z : AV),(zG xs ys)[t]? = some z → ∃ x y,xs[t]? = some x ∧ ys[t]? = some y ∧ z = aN5 x y
 | [],[],_ => ⟨rfl,fun t z h => by simp [zG] at h⟩
 | x :: r,y :: s,h => by
  obtain ⟨h1,h2⟩:=aGe r s (by simpa using h)
  refine ⟨by simp [zG,h1],fun t z hz => ?_⟩
  cases t with
  | zero =>
   simp only [zG,List.getElem?_cons_zero,Option.some.injEq] at hz
   exact ⟨x,y,rfl,rfl,hz.symm⟩
  | succ t =>
   simp only [zG,List.getElem?_cons_succ] at hz ⊢
   exact h2 t z hz
 | [],_ :: _,h => by simp at h
 | _ :: _,[],h => by simp at h
theorem aUs [GlobT] {c c' : Ctx} {xs ys : List AV} {tv : Array Value} (hl : xs.length = ys.length) (h : TR (ftOf T) c xs tv ∨ TR (ftOf T) c ys tv) : TR (ftOf T) c' (zG xs ys) tv:=by
 obtain ⟨h1,h2⟩:=aGe xs ys hl
 have hsz : xs.length = tv.size:=by rcases h with h | h; exact h.1; rw [hl]; exact h.1
 refine ⟨h1.trans hsz,fun t z hz => ?_⟩
 obtain ⟨x,y,g1,g2,rfl⟩:=h2 t z hz
 have hv : ∃ v,tv[t]? = some v ∧ (RV (ftOf T) c x v ∨ RV (ftOf T) c y v):=by
  rcases h with h | h
  ·obtain ⟨v,k1,k2⟩:=h.2 t x g1; exact ⟨v,k1,.inl k2⟩
  ·obtain ⟨v,k1,k2⟩:=h.2 t y g2; exact ⟨v,k1,.inr k2⟩
 obtain ⟨v,k1,k2⟩:=hv
 refine ⟨v,k1,?_⟩
 unfold aN5
 split
 ·rename_i hx
  split
  ·rename_i hy
   rcases k2 with k2 | k2
   ·exact aPh hx k2
   ·exact aPh hy k2
  ·exact RV.undef _
 ·exact RV.undef _
theorem aOg [GlobT] {FT : Nat → Option Nat} {c c1 : Ctx} (hs : Sim FT c) (hs1 : Sim FT c1) (h : Step c.H.length c c1) : ∃ c2,c2.w = c1.w ∧ c2.H = c.H ∧ Step c.H.length c c2 ∧ Sim FT c2:=by
 obtain ⟨c2,g1,g2,g3,g4,_⟩:=uE (live:=none) (tr:=true) (tm:=[]) (tv:=#[]) hs hs1 h (Nat.le_refl _) ⟨rfl,fun t x hx => by simp at hx⟩
 refine ⟨c2,g1,?_,g3,g4⟩
 rw [g2]
 simp only [kY,if_true]
 apply List.ext_getElem?
 intro i
 have hl:=h.len
 have e : (c1.H.take c.H.length).drop c.H.length = []:=List.drop_eq_nil_of_le (by simp; omega)
 rw [e,List.map_nil,List.append_nil,List.getElem?_take]
 split
 ·rename_i hi
  exact (h.floor i hi).1
 ·rename_i hi
  exact (List.getElem?_eq_none (by omega)).symm
theorem mN [GlobT] (hm : P.follows .mixedOrders = true) (hfo : FlOK cf) (hcf : CfOK P T cf) (hfn : yJ P T) : ∀ (ac : ACode) (code : Code),chkC P T ac code = true → aK5 P T fl (evC P cf lf fl ac) code
 | .skip,code,hchk => by
  cases code <;> simp only [chkC,Bool.false_eq_true] at hchk
  ·intro c a tm x st' Q hs htr hfl hev hQ
   simp only [evC,Option.some.injEq,Prod.mk.injEq] at hev
   obtain ⟨rfl,rfl⟩:=hev
   exact wp_skip (hQ a c rfl (Step.refl _ _) hs htr rfl)
  ·intro c a tm x st' Q hs htr hfl hev hQ
   simp only [evC,Option.some.injEq,Prod.mk.injEq] at hev
   obtain ⟨rfl,rfl⟩:=hev
   exact wp_label (hQ a c rfl (Step.refl _ _) hs htr rfl)
 | .scope p,code,hchk => by
  cases code <;> try (simp only [chkC,Bool.false_eq_true] at hchk; done)
  rename_i p'
  simp only [chkC] at hchk
  have hp:=mN hm hfo hcf hfn p p' hchk
  intro c a tm x st' Q hs htr hfl hev hQ
  simp only [evC] at hev
  refine wp_scope_straight (hp c a tm x st' _ hs htr hfl hev ?_)
  intro a' c' e1 e2 e3 e4 e5
  have:=hQ a' c' e1 e2 e3 e4 e5
  cases x <;> exact this
 | .nilIf t d0 d1 p q,code,hchk => by
  cases code <;> try (simp only [chkC,Bool.false_eq_true] at hchk; done)
  rename_i l q'
  cases l <;> try (simp only [chkC,Bool.false_eq_true] at hchk; done)
  rename_i r cd
  cases r <;> try (simp only [chkC,Bool.false_eq_true] at hchk; done)
  rename_i id ops draw
  cases cd <;> try (simp only [chkC,Bool.false_eq_true] at hchk; done)
  rename_i k p' sk
  cases k <;> try (simp only [chkC,Bool.false_eq_true] at hchk; done)
  rename_i e
  cases sk <;> try (simp only [chkC,Bool.false_eq_true] at hchk; done)
  simp only [chkC,Bool.and_eq_true,Bool.not_eq_true',beq_iff_eq] at hchk
  obtain ⟨⟨⟨⟨rfl,rfl⟩,ho⟩,hcp⟩,hcq⟩:=hchk
  have hp:=mN hm hfo hcf hfn p p' hcp
  have hq:=mN hm hfo hcf hfn q q' hcq
  split at ho
  ·rename_i o1 o2 hops
   simp only [Bool.and_eq_true] at ho
   intro c a tm x st' Q hs htr hfl hev hQ
   simp only [evC] at hev
   split at hev
   ·rename_i hd0
    simp only [Bool.and_eq_true] at hd0
    have hd0' : d0 < tm.length:=Nat.le_of_ble_eq_true hd0.1
    have hd1' : e < tm.length:=Nat.le_of_ble_eq_true hd0.2
    have h3 : nilK c.H (kG tm (.tmp t)) ≠ 3:=by
     intro h
     rw [h] at hev
     cases hev
    refine wp_seq (wp_seq (aNh hcf hfn hops ho.1 ho.2 hs htr hfl hd0' h3 ?_))
    intro b a' c' hb0 hb1 e1 e2 e3 e4 e5
    have hval : a'.eval (.tmp e) = .bool b:=by
     obtain ⟨v,k1,k2⟩:=e4.2 e (.lit (.bool b)) (by simp [rP,hd1'])
     simp only [Act.eval,Array.getD_eq_getD_getElem?,k1,Option.getD_some,k2.lit_inv]
    have e6 : ∀ tm' : List AV,(⟨tm',c'.H⟩ : St) = ⟨tm',c.H⟩:=fun tm' => by rw [e1]
    have joined : ∀ (pc : ACode) (tm' : List AV) (sa sb : St) (code : Code) (Q' : Exit → Act → World → Prop),aK5 P T fl (evC P cf lf fl pc) code → fl = c.H.length → sa.tmps.length = sb.tmps.length →
      (evC P cf lf fl pc ⟨tm',c.H⟩ = some (.ret,sa) ∨ evC P cf lf fl pc ⟨tm',c.H⟩ = some (.ret,sb)) → TR (ftOf T) c' tm' a'.tmps → x = .ret → st' = ⟨zG sa.tmps sb.tmps,c.H⟩ → (∀ a w,Q .ret a w → Q' .ret a w) → code.wp P Q' a' c'.w:=by
     intro pc tm' sa sb code Q' hok hflc hlen hor htr' hx hst hQ'
     subst hx hst
     have key : ∀ (s : St),evC P cf lf fl pc ⟨tm',c.H⟩ = some (.ret,s) → (s = sa ∨ s = sb) → code.wp P Q' a' c'.w:=by
      intro s hes hss
      refine hok c' a' tm' .ret s Q' e3 htr' (Nat.le_trans hfl e2.len) (by rw [e6]; exact hes) ?_
      intro a'' c'' k1 k2 k3 k4 k5
      have hst2:=e2.trans k2
      rw [hflc] at hst2
      obtain ⟨c2,m1,m2,m3,m4⟩:=aOg hs k3 hst2
      rw [← hflc] at m3
      have:=hQ a'' c2 m2 m3 m4 (aUs hlen (by rcases hss with rfl | rfl; exact .inl k4; exact .inr k4)) (k5.trans e5)
      rw [m1] at this
      exact hQ' _ _ this
     rcases hor with h | h
     ·exact key sa h (.inl rfl)
     ·exact key sb h (.inr rfl)
    show (Code.cond (.tmp e) p' .skip).wp P _ a' c'.w
    cases b with
    | true =>
     refine wp_cond_true hval ?_
     split at hev
     ·rename_i hk
      unfold wB at hev
      split at hev
      ·rename_i x1 s1 he
       split at hev
       ·cases hev
       ·rename_i hne
        cases hev
        refine hp c' a' _ x st' _ e3 e4 (Nat.le_trans hfl e2.len) (by rw [e6]; exact he) ?_
        intro a'' c'' k1 k2 k3 k4 k5
        have:=hQ a'' c'' k1 (e2.trans k2) k3 k4 (k5.trans e5)
        cases x with
        | normal => exact (hne rfl).elim
        | exit i => exact this
        | ret => exact this
      ·cases hev
     ·rename_i hk
      have:=hb1 hk
      cases this
     ·rename_i hk
      split at hev
      ·rename_i hb
       unfold aIr at hev
       split at hev
       ·rename_i sa sb h1 h2
        split at hev
        ·rename_i hl
         cases hev
         exact joined p _ sa sb p' _ hp (Nat.eq_of_beq_eq_true hb) (Nat.eq_of_beq_eq_true hl) (.inl h1) e4 rfl rfl (fun a w h => h)
        ·cases hev
       ·cases hev
      ·cases hev
     ·cases hev
    | false =>
     refine wp_cond_false hval (wp_skip ?_)
     show q'.wp P Q a' c'.w
     split at hev
     ·rename_i hk
      have:=hb0 hk
      cases this
     ·rename_i hk
      refine hq c' a' _ x st' _ e3 e4 (Nat.le_trans hfl e2.len) (by rw [e6]; exact hev) ?_
      intro a'' c'' k1 k2 k3 k4 k5
      exact hQ a'' c'' k1 (e2.trans k2) k3 k4 (k5.trans e5)
     ·rename_i hk
      split at hev
      ·rename_i hb
       unfold aIr at hev
       split at hev
       ·rename_i sa sb h1 h2
        split at hev
        ·rename_i hl
         cases hev
         exact joined q _ sa sb q' _ hq (Nat.eq_of_beq_eq_true hb) (Nat.eq_of_beq_eq_true hl) (.inr h2) e4 rfl rfl (fun a w h => h)
        ·cases hev
       ·cases hev
      ·cases hev
     ·cases hev
   ·cases hev
  ·cases ho
 | .frz t q,code,hchk => by
  have hq:=mN hm hfo hcf hfn q code (by cases code <;> (simp only [chkC] at hchk; exact hchk))
  intro c a tm x st' Q hs htr hfl hev hQ
  simp only [evC] at hev
  split at hev
  ·rename_i v H' he
   have key : ∃ c',c'.w = c.w ∧ c'.H = H' ∧ Step fl c c' ∧ Sim (ftOf T) c' ∧ ∀ cv,RV (ftOf T) c (kG tm (.tmp t)) cv → RV (ftOf T) c' v cv:=by
    simp only [evOp] at he
    split at he
    ·rename_i id tot off len hx
     split at he
     ·rename_i hle
      split at he
      ·rename_i s es hob
       split at he
       ·rename_i htot
        cases he
        exact ⟨frz c id s es,rfl,rfl,tX hle hob,aD8 hs hob,fun cv hcv => aJf hs hob htot (by rw [hx] at hcv; exact hcv)⟩
       ·cases he
      ·cases he
     ·cases he
    ·cases he
     exact ⟨c,rfl,rfl,Step.refl _ _,hs,fun _ h => h⟩
   obtain ⟨c',k1,k2,k3,k4,k5⟩:=key
   have htr' : TR (ftOf T) c' (tm.set t v) a.tmps:=by
    refine ⟨by simpa using htr.1,fun u y hy => ?_⟩
    rw [List.getElem?_set] at hy
    split at hy
    ·rename_i hut
     subst hut
     split at hy
     ·rename_i hlt
      cases hy
      obtain ⟨cv,g1,g2⟩:=htr.2 t tm[t] (List.getElem?_eq_getElem hlt)
      refine ⟨cv,g1,k5 cv ?_⟩
      simp only [kG,List.getElem?_eq_getElem hlt]
      exact g2
     ·cases hy
    ·obtain ⟨cv,g1,g2⟩:=htr.2 u y hy
     exact ⟨cv,g1,g2.step k3⟩
   have:=hq c' a (tm.set t v) x st' Q k4 htr' (Nat.le_trans hfl k3.len) (by rw [k2]; exact hev) (fun a' c'' e1 e2 e3 e4 e5 => hQ a' c'' e1 (k3.trans e2) e3 e4 e5)
   rwa [k1] at this
  ·cases hev
 | .stop,code,hchk => by
  intro c a tm x st' Q hs htr hfl hev hQ
  simp only [evC] at hev
  cases hev
 | .mask lx lr tr q,code,hchk => by
  have hq:=mN hm hfo hcf hfn q code (by cases code <;> (simp only [chkC] at hchk; exact hchk))
  intro c a tm x st' Q hs htr hfl hev hQ
  simp only [evC,lT] at hev
  split at hev
  ·rename_i x1 st1 he
   have key : ∀ y,st' = kY (some lx) tr fl c.H.length st1 → evC P cf lf fl q ⟨tm,c.H⟩ = some (y,st1) → x = y → code.wp P Q a c.w:=by
    intro y e he e'
    subst e e'
    refine hq c a tm x st1 Q hs htr hfl he ?_
    intro a' c' e1 e2 e3 e4 e5
    obtain ⟨c2,h1,h2,h3,h4,h5⟩:=uE (live:=some lx) (tr:=tr) hs e3 e2 hfl e4
    have e6 : (⟨st1.tmps,c'.H⟩ : St) = st1:=by rw [e1]
    rw [e6] at h2 h5
    have:=hQ a' c2 h2 h3 h4 h5 e5
    rwa [h1] at this
   split at hev
   ·simp only [Option.some.injEq,Prod.mk.injEq] at hev
    obtain ⟨rfl,rfl⟩:=hev
    refine hq c a tm .ret st1 Q hs htr hfl he ?_
    intro a' c' e1 e2 e3 e4 e5
    exact hQ a' c' e1 e2 e3 (aEj lr _ _ e4) e5
   ·simp only [Option.some.injEq,Prod.mk.injEq] at hev
    obtain ⟨rfl,rfl⟩:=hev
    exact key .normal rfl he rfl
   ·rename_i i
    simp only [Option.some.injEq,Prod.mk.injEq] at hev
    obtain ⟨rfl,rfl⟩:=hev
    exact key (.exit i) rfl he rfl
  ·cases hev
 | .region draw ck aops,code,hchk => by
  cases code <;> try (simp only [chkC,Bool.false_eq_true] at hchk; done)
  rename_i id ops draw'
  have hd : draw = draw':=by simp only [chkC,Bool.and_eq_true,beq_iff_eq] at hchk; exact hchk.1.1
  subst hd
  intro c a tm x st' Q hs htr hfl hev hQ
  simp only [evC] at hev
  split at hev
  ·rename_i st1 he
   simp only [Option.some.injEq,Prod.mk.injEq] at hev
   obtain ⟨rfl,rfl⟩:=hev
   exact aF0 hm hfo hcf hfn hchk hs htr hfl he hQ
  ·cases hev
 | .seq p q,code,hchk => by
  cases code <;> try (simp only [chkC,Bool.false_eq_true] at hchk; done)
  rename_i p' q'
  simp only [chkC,Bool.and_eq_true] at hchk
  have hp:=mN hm hfo hcf hfn p p' hchk.1
  have hq:=mN hm hfo hcf hfn q q' hchk.2
  intro c a tm x st' Q hs htr hfl hev hQ
  simp only [evC] at hev
  refine wp_seq ?_
  split at hev
  ·rename_i st1 he
   refine hp c a tm .normal st1 _ hs htr hfl he ?_
   intro a' c' e1 e2 e3 e4 e5
   show q'.wp P Q a' c'.w
   refine hq c' a' st1.tmps x st' Q e3 e4 (Nat.le_trans hfl e2.len) (by rw [e1]; exact hev) ?_
   intro a'' c'' f1 f2 f3 f4 f5
   exact hQ a'' c'' f1 (e2.trans f2) f3 f4 (f5.trans e5)
  ·rename_i r hne
   refine hp c a tm x st' _ hs htr hfl hev ?_
   intro a' c' e1 e2 e3 e4 e5
   have:=hQ a' c' e1 e2 e3 e4 e5
   cases x with
   | normal => exact (hne st' hev).elim
   | exit id => exact this
   | ret => exact this
 | .cond k p q,code,hchk => by
  cases code <;> try (simp only [chkC,Bool.false_eq_true] at hchk; done)
  rename_i k' p' q'
  simp only [chkC,Bool.and_eq_true] at hchk
  have hp:=mN hm hfo hcf hfn p p' hchk.1.2
  have hq:=mN hm hfo hcf hfn q q' hchk.2
  intro c a tm x st' Q hs htr hfl hev hQ
  have hk:=kO hs htr hchk.1.1
  simp only [evC] at hev
  split at hev
  ·rename_i hb
   rw [hb] at hk
   exact wp_cond_true hk.lit_inv (hp c a tm x st' Q hs htr hfl hev hQ)
  ·rename_i hb
   rw [hb] at hk
   exact wp_cond_false hk.lit_inv (hq c a tm x st' Q hs htr hfl hev hQ)
  ·cases hev
 | .block i p,code,hchk => by
  cases code <;> try (simp only [chkC,Bool.false_eq_true] at hchk; done)
  rename_i i' p'
  simp only [chkC,Bool.and_eq_true,beq_iff_eq] at hchk
  obtain ⟨rfl,hchk⟩:=hchk
  have hp:=mN hm hfo hcf hfn p p' hchk
  intro c a tm x st' Q hs htr hfl hev hQ
  simp only [evC] at hev
  refine wp_block ?_
  split at hev
  ·rename_i j st1 he
   refine hp c a tm (.exit j) st1 _ hs htr hfl he ?_
   intro a' c' e1 e2 e3 e4 e5
   simp only [uV,Exit.inBlock]
   split at hev
   ·rename_i hj
    simp only [Option.some.injEq,Prod.mk.injEq] at hev
    obtain ⟨rfl,rfl⟩:=hev
    rw [if_pos hj]
    exact hQ a' c' e1 e2 e3 e4 e5
   ·rename_i hj
    simp only [Option.some.injEq,Prod.mk.injEq] at hev
    obtain ⟨rfl,rfl⟩:=hev
    rw [if_neg hj]
    exact hQ a' c' e1 e2 e3 e4 e5
  ·rename_i r hne
   refine hp c a tm x st' _ hs htr hfl hev ?_
   intro a' c' e1 e2 e3 e4 e5
   have:=hQ a' c' e1 e2 e3 e4 e5
   cases x with
   | normal => exact this
   | exit id => exact (hne id st' hev).elim
   | ret => exact this
 | .loop live tr p,code,hchk => by
  cases code <;> try (simp only [chkC,Bool.false_eq_true] at hchk; done)
  rename_i p'
  simp only [chkC] at hchk
  have hp:=mN hm hfo hcf hfn p p' hchk
  intro c a tm x st' Q hs htr hfl hev hQ
  simp only [evC] at hev
  exact wp_loop_rounds lf (aDi hp hs hfl hQ lf c a tm hs (Step.refl _ _) htr rfl hev)
 | .loopV live lx lr t p,code,hchk => by
  cases code <;> try (simp only [chkC,Bool.false_eq_true] at hchk; done)
  rename_i p'
  simp only [chkC] at hchk
  have hp:=mN hm hfo hcf hfn p p' hchk
  intro c a tm x st' Q hs htr hfl hev hQ
  simp only [evC] at hev
  split at hev
  ·rename_i st1 hown
   obtain ⟨c1,h1,h2,h3,h4,h5⟩:=aM1 hs htr hown
   unfold aIa at hev
   split at hev
   ·rename_i x1 st2 he
    have e6 : st1 = ⟨st1.tmps,c1.H⟩:=by rw [h2]
    rw [e6] at he
    have key : ∀ y,st' = yA lx t fl c.H.length st2 → x1 = y → x = y → (Code.loop p').wp P Q a c.w:=by
     intro y e e1 e'
     subst e e1 e'
     rw [← h1]
     refine wp_loop_rounds lf (vF hp (c0:=c) hfl (fun d tm tv k1 k2 k3 => vJ hs k1 k2 hfl k3) ?_ lf c1 a _ h4 h3 h5 rfl he)
     intro a' c' e1 e2 e3 e4 e5
     obtain ⟨c2,g1,g2,g3,g4,g5⟩:=vJ (live:=lx) (t:=t) hs e3 e2 hfl e4
     have e7 : (⟨st2.tmps,c'.H⟩ : St) = st2:=by rw [e1]
     rw [e7] at g2 g5
     have:=hQ a' c2 g2 g3 g4 g5 e5
     rwa [g1] at this
    split at hev
    ·simp only [Option.some.injEq,Prod.mk.injEq] at hev
     obtain ⟨rfl,rfl⟩:=hev
     rw [← h1]
     refine wp_loop_rounds lf (vF hp (c0:=c) hfl (fun d tm tv k1 k2 k3 => vJ hs k1 k2 hfl k3) ?_ lf c1 a _ h4 h3 h5 rfl he)
     intro a' c' e1 e2 e3 e4 e5
     exact hQ a' c' e1 e2 e3 (aEj lr _ _ e4) e5
    ·simp only [Option.some.injEq,Prod.mk.injEq] at hev
     obtain ⟨rfl,rfl⟩:=hev
     exact key .normal rfl rfl rfl
    ·rename_i i
     simp only [Option.some.injEq,Prod.mk.injEq] at hev
     obtain ⟨rfl,rfl⟩:=hev
     exact key (.exit i) rfl rfl rfl
   ·cases hev
  ·cases hev
 | .exit i,code,hchk => by
  cases code <;> try (simp only [chkC,Bool.false_eq_true] at hchk; done)
  rename_i i'
  simp only [chkC,beq_iff_eq] at hchk
  subst hchk
  intro c a tm x st' Q hs htr hfl hev hQ
  simp only [evC,Option.some.injEq,Prod.mk.injEq] at hev
  obtain ⟨rfl,rfl⟩:=hev
  exact wp_exit (hQ a c rfl (Step.refl _ _) hs htr rfl)
 | .ret,code,hchk => by
  cases code <;> try (simp only [chkC,Bool.false_eq_true] at hchk; done)
  intro c a tm x st' Q hs htr hfl hev hQ
  simp only [evC,Option.some.injEq,Prod.mk.injEq] at hev
  obtain ⟨rfl,rfl⟩:=hev
  exact wp_ret (hQ a c rfl (Step.refl _ _) hs htr rfl)
end
end Go.Proofs.YtkdnaejhpcibnaaGreatDoor.Av
namespace Go.Proofs.YtkdnaejhpcibnaaGreatDoor.Av
open Go
section
variable {P : Program} {T : List AFun} {cf : Nat → Nat → List AV → Heap → Option (AV × Heap)} {fl lf : Nat}
theorem aKv [GlobT] (hfo : FlOK cf) : ∀ (l : List AOper) (st st' : St),fl ≤ st.heap.length → oP P cf fl l st = some st' → Fr fl st.heap st'.heap
 | [],st,st',h,hev => by simp only [oP] at hev; cases hev; exact .refl h
 | o :: r,st,st',h,hev => by
  simp only [oP] at hev
  split at hev
  ·rename_i st1 h1
   have k:=aG0 hfo h h1
   exact k.trans (aKv hfo r st1 st' k.2 hev)
  ·cases hev
theorem wD [GlobT] {live : Option (List Bool)} {tr : Bool} {n : Nat} {st : St} (h : fl ≤ st.heap.length) (hn : fl ≤ n) : Fr fl st.heap (kY live tr fl n st).heap:=by
 cases tr with
 | false => exact .refl h
 | true =>
  simp only [kY,if_true]
  refine ⟨?_,by simp; omega⟩
  rw [List.take_append_of_le_length (by simp; omega),List.take_take,Nat.min_self]
theorem aEz [GlobT] {live : List Bool} {t n : Nat} {st : St} (h : fl ≤ st.heap.length) (hn : fl ≤ n) : Fr fl st.heap (yA live t fl n st).heap:=by
 have hd:=wD (live:=some live) (tr:=true) h hn
 unfold yA
 split
 ·split
  ·split
   ·refine ⟨?_,by simp; omega⟩
    simp only
    rw [List.append_assoc,List.take_append_of_le_length (by simp; omega),List.take_take,Nat.min_self]
   ·exact hd
  ·exact hd
 ·exact hd
theorem aCr [GlobT] {head : St → St} {step : St → Option (AExit × St)} (hh : ∀ st,fl ≤ st.heap.length → Fr fl st.heap (head st).heap) (hs : ∀ st x st',fl ≤ st.heap.length → step st = some (x,st') → Fr fl st.heap st'.heap) :
  ∀ (n : Nat) (st : St) (x : AExit) (st' : St),fl ≤ st.heap.length → pE head step n st = some (x,st') → Fr fl st.heap st'.heap
 | 0,_,_,_,_,h => by cases h
 | n + 1,st,x,st',h,hev => by
  simp only [pE] at hev
  have k1:=hh st h
  split at hev
  ·rename_i st2 he
   have k2:=hs _ _ _ k1.2 he
   exact (k1.trans k2).trans (aCr hh hs n st2 x st' k2.2 hev)
  ·exact k1.trans (hs _ _ _ k1.2 hev)
theorem pF [GlobT] (hfo : FlOK cf) : ∀ (c : ACode) (st : St) (x : AExit) (st' : St),fl ≤ st.heap.length → evC P cf lf fl c st = some (x,st') → Fr fl st.heap st'.heap
 | .skip,st,x,st',h,hev => by simp only [evC] at hev; cases hev; exact .refl h
 | .exit _,st,x,st',h,hev => by simp only [evC] at hev; cases hev; exact .refl h
 | .ret,st,x,st',h,hev => by simp only [evC] at hev; cases hev; exact .refl h
 | .stop,st,x,st',h,hev => by simp only [evC] at hev; cases hev
 | .region _ ck ops,st,x,st',h,hev => by
  simp only [evC] at hev
  split at hev
  ·rename_i st1 he
   cases hev
   exact aKv hfo ops st _ h (aGx he)
  ·cases hev
 | .seq a b,st,x,st',h,hev => by
  simp only [evC] at hev
  split at hev
  ·rename_i st1 he
   have k:=pF hfo a st _ st1 h he
   exact k.trans (pF hfo b st1 x st' k.2 hev)
  ·exact pF hfo a st x st' h hev
 | .cond c a b,st,x,st',h,hev => by
  simp only [evC] at hev
  split at hev
  ·exact pF hfo a st x st' h hev
  ·exact pF hfo b st x st' h hev
  ·cases hev
 | .block id c,st,x,st',h,hev => by
  simp only [evC] at hev
  split at hev
  ·rename_i i st1 he
   have k:=pF hfo c st _ st1 h he
   split at hev <;> cases hev <;> exact k
  ·exact pF hfo c st x st' h hev
 | .loop live tr c,st,x,st',h,hev => by
  simp only [evC] at hev
  exact aCr (fun st k => wD k h) (fun st x st' k he => pF hfo c st x st' k he) lf st x st' h hev
 | .frz t c,st,x,st',h,hev => by
  simp only [evC] at hev
  split at hev
  ·rename_i v H he
   have k:=aPa hfo h he
   exact k.trans (pF hfo c _ x st' k.2 hev)
  ·cases hev
 | .mask lx lr tr c,st,x,st',h,hev => by
  simp only [evC,lT] at hev
  split at hev
  ·rename_i x1 st1 he
   have k:=pF hfo c st _ st1 h he
   split at hev
   ·cases hev; exact k
   ·cases hev; exact k.trans (wD k.2 h)
   ·cases hev; exact k.trans (wD k.2 h)
  ·cases hev
 | .scope c,st,x,st',h,hev => by
  simp only [evC] at hev
  exact pF hfo c st x st' h hev
 | .nilIf t d0 d1 a b,st,x,st',h,hev => by
  simp only [evC] at hev
  split at hev
  ·split at hev
   ·unfold wB at hev
    split at hev
    ·rename_i x1 s1 he
     split at hev
     ·cases hev
     ·cases hev
      exact pF hfo a ⟨rP st.tmps t d0 d1 true,st.heap⟩ _ _ h he
    ·cases hev
   ·exact pF hfo b ⟨rP st.tmps t d0 d1 false,st.heap⟩ _ _ h hev
   ·split at hev
    ·unfold aIr at hev
     split at hev
     ·split at hev
      ·cases hev; exact .refl h
      ·cases hev
     ·cases hev
    ·cases hev
   ·cases hev
  ·cases hev
 | .loopV live lx lr t c,st,x,st',h,hev => by
  simp only [evC] at hev
  split at hev
  ·rename_i st1 hown
   have k1 : Fr fl st.heap st1.heap:=by
    unfold aLg at hown
    split at hown
    ·split at hown
     ·rename_i hi
      split at hown
      ·split at hown
       ·cases hown
        exact (Fr.set h hi).trans (.app (Fr.set h hi).2)
       ·cases hown
      ·cases hown
     ·cases hown
    ·cases hown
   unfold aIa at hev
   split at hev
   ·rename_i x1 st2 he
    have k2:=aCr (fun st k => aEz k h) (fun st x st' k he => pF hfo c st x st' k he) lf st1 _ st2 k1.2 he
    have k:=k1.trans k2
    split at hev
    ·cases hev; exact k
    ·cases hev; exact k.trans (aEz k.2 h)
    ·cases hev; exact k.trans (aEz k.2 h)
   ·cases hev
  ·cases hev
end
theorem aPc [GlobT] (P : Program) (T : List AFun) (hp : FlOK aH1) : ∀ n,FlOK (evF P T n)
 | 0 => fun _ _ _ _ _ _ _ h => by cases h
 | n + 1 => fun fl vi args H r H' h hev => by
  simp only [evF] at hev
  split at hev
  ·rename_i g hg
   exact hp fl vi args H r H' h (by simp only [aH1,hg]; exact hev)
  ·split at hev
   ·cases hev
   split at hev
   ·rename_i st he
    split at hev
    ·cases hev; exact pF (aPc P T hp n) _ _ _ _ h he
    ·cases hev
   ·rename_i st he
    split at hev
    ·cases hev; exact pF (aPc P T hp n) _ _ _ _ h he
    ·cases hev
   ·cases hev
end Go.Proofs.YtkdnaejhpcibnaaGreatDoor.Av
namespace Go.Proofs.YtkdnaejhpcibnaaGreatDoor.Av
open Go
section
variable {P : Program} {T : List AFun}
theorem aAd [GlobT] {c : Ctx} {tv : Array Value} {st : St} (hs : Sim (ftOf T) c) (hH : c.H = st.heap) (htr : TR (ftOf T) c st.tmps tv) : ∀ (rs : List ARes) (qs : List ResultVar) (vs : List AV),uX P rs qs = true → uL st rs = some vs →
  ∃ us : List Value,us.length = vs.length ∧ (∀ (i : Nat) (x : AV),vs[i]? = some x → ∃ u,us[i]? = some u ∧ RV (ftOf T) c x u) ∧
   (qs.mapM (fun
    | .tmp t => pure (tv.getD t undef)
    | .cell a t => do loadVar t (← asAddr (tv.getD a undef)) : ResultVar → Sem Value)).run P c.w = .ok us c.w
 | [],[],vs,_,h => by
  simp only [uL,Option.some.injEq] at h
  subst h
  exact ⟨[],rfl,fun i x hx => by simp at hx,by simp⟩
 | .tmp t :: r,q :: s,vs,hc,h => by
  cases q with
  | cell a ty => simp [uX] at hc
  | tmp u =>
   simp only [uX,Bool.and_eq_true,beq_iff_eq] at hc
   obtain ⟨rfl,hc⟩:=hc
   simp only [uL,aIy] at h
   split at h
   ·rename_i vs' hvs
    cases h
    obtain ⟨us,h1,h2,h3⟩:=aAd hs hH htr r s vs' hc hvs
    have hr:=kO (a:=⟨tv,[]⟩) hs htr (x:=.tmp t) (y:=.tmp t) (by simp [kN])
    refine ⟨tv.getD t undef :: us,by simp [h1],fun i x hx => ?_,?_⟩
    ·cases i with
     | zero =>
      simp only [List.getElem?_cons_zero,Option.some.injEq] at hx
      subst hx
      exact ⟨tv.getD t undef,by rw [List.getElem?_cons_zero],hr⟩
     | succ i =>
      simp only [List.getElem?_cons_succ] at hx ⊢
      exact h2 i x hx
    ·rw [List.mapM_cons]
     simp only [Sem.run_bind,Sem.run_pure,Result.andThen_ok,h3]
   ·cases h
 | .cell t n agg :: r,q :: s,vs,hc,h => by
  cases q with
  | tmp u => simp [uX] at hc
  | cell u ty =>
   simp only [uX,Bool.and_eq_true,beq_iff_eq] at hc
   obtain ⟨⟨⟨⟨rfl,c1⟩,c2⟩,c3⟩,hc⟩:=hc
   simp only [uL] at h
   split at h
   ·rename_i v hv
    split at h
    ·rename_i vs' hvs
     cases h
     obtain ⟨us,h1,h2,h3⟩:=aAd hs hH htr r s vs' hc hvs
     have hr:=kO (a:=⟨tv,[]⟩) hs htr (x:=.tmp t) (y:=.tmp t) (by simp [kN])
     have hload : ∃ u,(do loadVar ty (← asAddr (tv.getD t undef)) : Sem Value).run P c.w = .ok u c.w ∧ RV (ftOf T) c v u:=by
      simp only [aIy] at hv
      split at hv
      ·rename_i cs hcs
       rw [← hH] at hcs
       obtain ⟨ad,ws,hp,hn,hca⟩:=xW hs hr hcs
       have hp' : tv.getD t undef = .pointer (some ad):=hp
       cases agg with
       | true =>
        simp only [if_true,Option.some.injEq] at hv
        subst hv
        exact ⟨_,by simp only [hp',asAddr,Sem.run_bind,Sem.run_pure,Result.andThen_ok,qM hca hn c2 c1 rfl],sY hca⟩
       | false =>
        simp only [Bool.false_eq_true,if_false] at hv
        split at hv
        ·cases hv
         obtain ⟨u,g1,g2,g3⟩:=hca.2.2 0 v (by simp)
         have hcell:=hca.2.1 0 u g1
         have e0 : ad.add 0 = ad:=by simp [Addr.add]
         rw [e0] at hcell
         exact ⟨u,by simp only [hp',asAddr,Sem.run_bind,Sem.run_pure,Result.andThen_ok,sZ hcell c2],g3⟩
        ·cases hv
      ·cases hv
     obtain ⟨u,k1,k2⟩:=hload
     refine ⟨u :: us,by simp [h1],fun i x hx => ?_,?_⟩
     ·cases i with
      | zero =>
       simp only [List.getElem?_cons_zero,Option.some.injEq] at hx
       subst hx
       exact ⟨u,by simp,k2⟩
      | succ i =>
       simp only [List.getElem?_cons_succ] at hx ⊢
       exact h2 i x hx
     ·rw [List.mapM_cons]
      simp only [Sem.run_bind,Sem.run_pure,Result.andThen_ok,h3] at k1 ⊢
      rw [k1]
      simp only [Result.andThen_ok,h3]
    ·cases h
   ·cases h
 | [],_ :: _,_,hc,_ => by cases hc
 | .tmp _ :: _,[],_,hc,_ => by cases hc
 | .cell _ _ _ :: _,[],_,hc,_ => by cases hc
theorem aHz [GlobT] {c : Ctx} {tv : Array Value} {st : St} {fn : Func} {rs : List ARes} {vs : List AV} (hs : Sim (ftOf T) c) (hH : c.H = st.heap) (htr : TR (ftOf T) c st.tmps tv) (hc : uX P rs fn.results.toList = true) (h : uL st rs = some vs) :
  ∃ v,(results fn tv).run P c.w = .ok v c.w ∧ RV (ftOf T) c (zF vs) v:=by
 obtain ⟨us,h1,h2,h3⟩:=aAd hs hH htr rs fn.results.toList vs hc h
 refine ⟨if hh : us.toArray.size = 1 then us.toArray[0] else .tuple us.toArray,?_,?_⟩
 ·unfold results
  rw [Array.mapM_eq_mapM_toList]
  simp only [Sem.run_bind,Sem.run_map,Sem.run_pure]
  refine Eq.trans (congrArg (fun r => (Result.andThen (Result.andThen r _) _)) (Eq.trans ?_ h3)) rfl
  congr 2
 ·unfold zF
  split
  ·rename_i v
   have hl : us.length = 1:=by simpa using h1
   obtain ⟨u,g1,g2⟩:=h2 0 v (by simp)
   have hsz : us.toArray.size = 1:=by simpa using hl
   rw [dif_pos hsz]
   have : us.toArray[0] = u:=by
    have : us.toArray[0]? = some u:=by simpa using g1
    rw [Array.getElem?_eq_getElem (by omega)] at this
    exact Option.some.inj this
   rw [this]; exact g2
  ·rename_i hne
   have hsz : ¬ us.toArray.size = 1:=by
    intro e
    have hl : vs.length = 1:=by rw [← h1]; simpa using e
    match vs,hl with
    | [v],_ => exact hne v rfl
   rw [dif_neg hsz]
   refine .tup vs us.toArray (fun i => (us[i]?).getD lI) (by simpa using h1) ?_ ?_
   ·intro i x hx
    obtain ⟨u,g1,_⟩:=h2 i x hx
    simp [g1]
   ·intro i x hx
    obtain ⟨u,g1,g2⟩:=h2 i x hx
    simpa [g1] using g2
theorem aCu {F : AFun} (h : kJ P T F = true) : ∃ fn code, P.funcs[F.fid]? = some fn ∧ fn.body = some code ∧ chkC P T F.body code = true ∧ fn.ntmps = F.nt ∧ uX P F.rets fn.results.toList = true ∧ (fn.name == "runtime.NumGoroutine") = false := by
 unfold kJ at h
 split at h
 ·rename_i fn hf
  split at h
  ·rename_i code hb
   simp only [Bool.and_eq_true,beq_iff_eq,Bool.not_eq_true'] at h
   exact ⟨fn,code,hf,hb,h.1.1.1,h.1.1.2,h.1.2,h.2⟩
  ·cases h
 ·cases h
def Checked (P : Program) (T : List AFun) : Prop:=∀ F ∈ T,kJ P T F = true
theorem aQ0 [GlobT] (h : Checked P T) : yJ P T:=by
 intro vi f hf
 unfold ftOf at hf
 split at hf
 ·rename_i F hF
  cases hf
  obtain ⟨fn,code,h1,h2,_,_,_,h6⟩:=aCu (h F (List.mem_of_getElem? hF))
  exact ⟨fn,h1,by simp [h2],h6⟩
 ·cases hf
structure PrimOK [GlobT] (P : Program) (T : List AFun) : Prop where
 fl : FlOK aH1
 ok : CfOK P T aH1
theorem aG2 [GlobT] (hm : P.follows .mixedOrders = true) (hT : Checked P T) (hp : PrimOK P T) : ∀ n,CfOK P T (evF P T n)
 | 0 => by
  intro fl vi f args r H' c vs hev
  cases hev
 | n + 1 => by
  have ih:=aG2 hm hT hp n
  intro fl vi f args r H' c vs hev hf hs hfl hargs
  simp only [evF] at hev
  split at hev
  ·rename_i g hg
   exact hp.ok fl vi f args r H' c vs (by simp only [aH1,hg]; exact hev) hf hs hfl hargs
  split at hev
  ·cases hev
  ·rename_i F hF
   have hff : f = F.fid:=by
    unfold ftOf at hf
    rw [hF] at hf
    exact (Option.some.inj hf).symm
   subst hff
   obtain ⟨fn,code,h1,h2,h3,h4,h5,_⟩:=aCu (hT F (List.mem_of_getElem? hF))
   refine calls_of_wp h1 h2 ?_
   have htr : TR (ftOf T) c (args ++ List.replicate (F.nt - args.length) (.lit lI)) (vs ++ Array.replicate (fn.ntmps - vs.size) undef):=by
    refine ⟨by simp [hargs.1,h4],fun t x hx => ?_⟩
    rw [List.getElem?_append] at hx
    rw [Array.getElem?_append,hargs.1]
    split at hx
    ·rename_i ht
     rw [if_pos ht]
     exact hargs.2 t x hx
    ·rename_i ht
     rw [if_neg ht]
     rw [List.getElem?_replicate] at hx
     split at hx
     ·rename_i hlt
      cases hx
      refine ⟨undef,?_,RV.lit _⟩
      rw [Array.getElem?_replicate,if_pos (by rw [h4]; exact hlt)]
     ·cases hx
   have hbody:=mN (fl:=fl) (lf:=n) hm (aPc P T hp.fl n) ih (aQ0 hT) F.body code h3
   have fin : ∀ (x : AExit) (st : St),(x = .normal ∨ x = .ret) → evC P (evF P T n) n fl F.body ⟨args ++ List.replicate (F.nt - args.length) (.lit lI),c.H⟩ = some (x,st) →
     (match uL st F.rets with | some us => some (zF us,st.heap) | none => none) = some (r,H') →
     code.wp P (bodyPost P fn fun e w' => ∃ v c',e = .returned v ∧ c'.w = w' ∧ c'.H = H' ∧ c'.X = c.X ∧ Step fl c c' ∧ Sim (ftOf T) c' ∧ RV (ftOf T) c' r v)
      { tmps:=vs ++ Array.replicate (fn.ntmps - vs.size) undef,defers:=[] } c.w:=by
    intro x st hx he hr
    split at hr
    ·rename_i us hus
     simp only [Option.some.injEq,Prod.mk.injEq] at hr
     obtain ⟨rfl,rfl⟩:=hr
     refine hbody c _ _ x st _ hs htr hfl he ?_
     intro a' c' e1 e2 e3 e4 e5
     obtain ⟨v,k1,k2⟩:=aHz (fn:=fn) e3 e1 e4 h5 hus
     rcases hx with rfl | rfl
     ·exact ⟨e5,v,k1,v,c',rfl,rfl,e1,e2.X,e2,e3,k2⟩
     ·exact ⟨e5,v,k1,v,c',rfl,rfl,e1,e2.X,e2,e3,k2⟩
    ·cases hr
   split at hev
   ·rename_i st he
    exact fin .normal st (.inl rfl) he hev
   ·rename_i st he
    exact fin .ret st (.inr rfl) he hev
   ·cases hev
end
end Go.Proofs.YtkdnaejhpcibnaaGreatDoor.Av
namespace Go.Proofs.YtkdnaejhpcibnaaGreatDoor.Av
open Go Go.RowKit
def nV (P : Program) : Nat → TypeId → List AV → Prop
 | 0,_,_ => False
 | n + 1,t,xs =>
  match P.underlying t with
  | some .bool => ∃ b,xs = [.lit (.bool b)]
  | some (.int k) => ∃ z,(Lit.int k z).wf = true ∧ xs = [.lit (.int k z)]
  | some .string => ∃ s : ByteArray,s.size ≤ maxLen ∧ xs = [.lit (.string s)]
  | some (.slice e) => ∃ es : List (List AV),xs = [.sl false es] ∧ es.length ≤ maxLen ∧ ∀ x ∈ es,nV P n e x
  | some (.struct fs) => ∃ ps : List (List AV),xs = ps.flatten ∧ ps.length = fs.size ∧ ∀ (i : Nat) (f : Field) (p : List AV),fs[i]? = some f → ps[i]? = some p → nV P n f.type p
  | some (.array m e) => ∃ ps : List (List AV),xs = ps.flatten ∧ ps.length = m ∧ ∀ p ∈ ps,nV P n e p
  | _ => False
def aG5 (P : Program) : Nat → List Field → Nat → Bool
 | o,[],tot => o == tot
 | o,f :: r,tot => f.offset == o && aG5 P (o + P.cellsOf f.type) r tot
def okT (P : Program) : Nat → TypeId → Bool
 | 0,_ => false
 | n + 1,t =>
  match P.underlying t with
  | some .bool => true
  | some (.int _) => true
  | some .string => true
  | some (.slice e) => decide (0 < P.cellsOf e) && okT P n e
  | some (.struct fs) => aG5 P 0 fs.toList (P.cellsOf t) && fs.toList.all fun f => okT P n f.type
  | some (.array m e) => P.cellsOf t == m * P.cellsOf e && okT P n e
  | _ => false
def CR (w : World) (xs : List AV) (cs : List Value) : Prop :=
 xs.length = cs.length ∧ ∀ (j : Nat) (x : AV),xs[j]? = some x → ∃ v,cs[j]? = some v ∧ lB v = true ∧ RP w (fun _ => True) x v
theorem CR.nil {w : World} : CR w [] []:=⟨rfl,fun j x h => by simp at h⟩
theorem CR.one {w : World} {x : AV} {v : Value} (hs : lB v = true) (h : RP w (fun _ => True) x v) : CR w [x] [v] :=
 ⟨rfl,fun j y hy => by
  cases j with
  | zero => simp only [List.getElem?_cons_zero,Option.some.injEq] at hy; subst hy; exact ⟨v,by simp,hs,h⟩
  | succ j => simp at hy⟩
theorem CR.append {w : World} {xs ys : List AV} {cs ds : List Value} (h : CR w xs cs) (k : CR w ys ds) : CR w (xs ++ ys) (cs ++ ds) :=
 ⟨by simp [h.1,k.1],fun j x hx => by
  rw [List.getElem?_append] at hx ⊢
  rw [h.1] at hx
  split at hx
  ·rename_i hlt; rw [if_pos hlt]; exact h.2 j x hx
  ·rename_i hlt; rw [if_neg hlt]; exact k.2 _ x hx⟩
theorem CR.flatten [GlobT] {w : World} : ∀ {ps : List (List AV)} {qs : List (List Value)},ps.length = qs.length → (∀ (i : Nat) p q,ps[i]? = some p → qs[i]? = some q → CR w p q) → CR w ps.flatten qs.flatten
 | [],[],_,_ => CR.nil
 | [],_ :: _,h,_ => by simp at h
 | _ :: _,[],h,_ => by simp at h
 | p :: ps,q :: qs,h,k => by
  simp only [List.flatten_cons]
  exact (k 0 p q rfl rfl).append (CR.flatten (by simpa using h) fun i p' q' h1 h2 => k (i + 1) p' q' (by simpa using h1) (by simpa using h2))
theorem sD [GlobT] {α : Type} {Q : Nat → α → Prop} : ∀ n,(∀ i,i < n → ∃ x,Q i x) → ∃ l : List α,l.length = n ∧ ∀ i x,l[i]? = some x → Q i x
 | 0,_ => ⟨[],rfl,fun i x h => by simp at h⟩
 | n + 1,h => by
  obtain ⟨l,h1,h2⟩:=sD n fun i hi => h i (by omega)
  obtain ⟨x,hx⟩:=h n (by omega)
  refine ⟨l ++ [x],by simp [h1],fun i y hy => ?_⟩
  rw [List.getElem?_append] at hy
  split at hy
  ·exact h2 i y hy
  ·have : i = n:=by
    rcases Nat.lt_or_ge (i - l.length) 1 with h | h
    ·omega
    ·rw [List.getElem?_eq_none (by simpa using h)] at hy; cases hy
   subst this
   rw [h1] at hy
   simp at hy
   subst hy
   exact hx
theorem aCs [GlobT] {P : Program} {α : Type} (cs : List α) {tot : Nat} (hl : cs.length = tot) : ∀ (fs : List Field) (o : Nat),aG5 P o fs tot = true →
  cs.drop o = (fs.map fun f => (cs.drop f.offset).take (P.cellsOf f.type)).flatten
 | [],o,h => by
  simp only [aG5,beq_iff_eq] at h
  simp only [List.map_nil,List.flatten_nil,List.drop_eq_nil_iff]
  omega
 | f :: r,o,h => by
  simp only [aG5,Bool.and_eq_true,beq_iff_eq] at h
  obtain ⟨h1,h2⟩:=h
  have ih:=aCs cs hl r _ h2
  simp only [List.map_cons,List.flatten_cons,← ih,h1]
  rw [← List.drop_drop,List.take_append_drop]
theorem yH [GlobT] {α : Type} (s : Nat) : ∀ (m o : Nat) (cs : List α),cs.length = o + m * s →
  cs.drop o = ((List.range m).map fun i => (cs.drop (o + i * s)).take s).flatten
 | 0,o,cs,h => by simp [List.drop_eq_nil_iff]; omega
 | m + 1,o,cs,h => by
  have ih:=yH s m (o + s) cs (by rw [h,Nat.succ_mul]; omega)
  rw [List.range_succ_eq_map]
  simp only [List.map_cons,List.map_map,List.flatten_cons]
  have e : ((List.range m).map ((fun i => (cs.drop (o + i * s)).take s) ∘ Nat.succ)) = (List.range m).map fun i => (cs.drop (o + s + i * s)).take s:=by
   refine List.map_congr_left fun i _ => ?_
   simp only [Function.comp,Nat.succ_mul]
   congr 2
   omega
  rw [e,← ih,Nat.zero_mul,Nat.add_zero,← List.drop_drop,List.take_append_drop]
section
variable {H : Type} {enc : TypeId × Value → H} {P : Program} {w : World} {base : Nat} {spare : Nat → Bool} {held : Bool}
theorem cells?_get {a : Addr} {n : Nat} {l : List Value} (h : w.cells? base a n = some l) : l.length = n ∧ ∀ i,i < n → w.cell? (a.add i) = l[i]?:=by
 unfold World.cells? at h
 split at h
 ·exact ⟨by simpa using mapM_some_length h,fun i hi => mapM_some_get h i i (by simp [hi])⟩
 ·cases h
theorem cell?_inv {a : Addr} {v : Value} (h : w.cell? a = some v) : ∃ c T fz,w.heap[a.block]? = some (.cells c T fz) ∧ a.spot = none ∧ c[a.off]? = some v:=by
 unfold World.cell? at h
 split at h
 ·rename_i c T fz hb
  split at h
  ·cases h
  ·rename_i hs
   exact ⟨c,T,fz,hb,by simpa using hs,h⟩
 ·cases h
theorem aPz (a : Addr) (n : Nat) : (a.add n).off = a.off + n:=by
 unfold Addr.add; split
 ·rename_i h; simp [h]
 ·rfl
theorem tW [GlobT] : ∀ (n : Nat) (t : TypeId) (cs : List Value) (x : DataW H × List MemPlace) (fuel : Nat),okT P n t = true → DataW.trod enc P w base spare held fuel t cs = some x → ∃ xs,nV P n t xs ∧ CR w xs cs
 | 0,t,cs,x,fuel,hk,_ => by simp [okT] at hk
 | n + 1,t,cs,x,fuel,hk,h => by
  unfold okT at hk
  unfold nV
  split at hk
  ·rename_i ht
   obtain ⟨b,rfl,_⟩:=DataW.trod_bool ht h
   exact ⟨_,⟨b,rfl⟩,CR.one rfl (.lit _)⟩
  ·rename_i k ht
   obtain ⟨z,rfl,_,hw⟩:=DataW.trod_int ht h
   exact ⟨_,⟨z,hw,rfl⟩,CR.one rfl (.lit _)⟩
  ·rename_i ht
   obtain ⟨z,rfl,_,hw⟩:=DataW.trod_string ht h
   exact ⟨_,⟨z,hw,rfl⟩,CR.one rfl (.lit _)⟩
  ·rename_i e ht
   simp only [Bool.and_eq_true,decide_eq_true_eq] at hk
   obtain ⟨hpos,hk⟩:=hk
   rcases DataW.trod_slice ht h with ⟨rfl,_⟩ | ⟨a,len,cap,elems,rest,m,_,rfl,_,_,hlc,hcm,hel,hat,_,_⟩
   ·exact ⟨_,⟨[],rfl,by simp,fun x hx => by cases hx⟩,CR.one rfl (.nil _ _ _ (by simp))⟩
   ·have hall : ∀ i,i < len → ∃ y : List AV,nV P n e y ∧ ∃ l,w.cells? base (a.add (i * P.cellsOf e)) (P.cellsOf e) = some l ∧ CR w y l:=by
     intro i hi
     have h1:=hat i hi
     have h2 : elems[i]? = some elems[i]:=List.getElem?_eq_getElem (by omega)
     rw [h2] at h1
     cases hc : w.cells? base (a.add (i * P.cellsOf e)) (P.cellsOf e) with
     | none => rw [hc] at h1; simp at h1
     | some l =>
      rw [hc] at h1
      obtain ⟨y,k1,k2⟩:=tW n e l _ m hk (by simpa using h1)
      exact ⟨y,k1,l,rfl,k2⟩
    obtain ⟨es,hlen,hes⟩:=sD len hall
    refine ⟨[.sl false es],⟨es,rfl,by omega,fun y hy => ?_⟩,CR.one rfl ?_⟩
    ·obtain ⟨i,hi,rfl⟩:=List.mem_iff_getElem.1 hy
     exact (hes i _ (List.getElem?_eq_getElem hi)).1
    ·by_cases h0 : es = []
     ·subst h0
      simp at hlen
      subst hlen
      exact .nil _ _ _ (by simp)
     ·have hpl : 0 < len:=by
       rcases Nat.eq_zero_or_pos len with h | h
       ·rw [h] at hlen; exact absurd (List.length_eq_zero_iff.1 hlen) h0
       ·exact h
      have hcell : ∀ i j x,mA es i j = some x → ∃ v,w.cell? ((a.add (i * P.cellsOf e)).add j) = some v ∧ lB v = true ∧ RP w (fun _ => True) x v ∧ j < P.cellsOf e:=by
       intro i j x hx
       unfold mA at hx
       cases hi : es[i]? with
       | none => rw [hi] at hx; cases hx
       | some y =>
        rw [hi] at hx
        obtain ⟨_,l,k1,k2⟩:=hes i y hi
        obtain ⟨v,g1,g2,g3⟩:=k2.2 j x hx
        obtain ⟨c1,c2⟩:=cells?_get k1
        have hj : j < P.cellsOf e:=by
         rcases Nat.lt_or_ge j (P.cellsOf e) with h | h
         ·exact h
         ·rw [List.getElem?_eq_none (by omega)] at g1; cases g1
        exact ⟨v,(c2 j hj).trans g1,g2,g3,hj⟩
      have helen : ∀ y ∈ es,y.length = P.cellsOf e:=by
       intro y hy
       obtain ⟨i,hi,rfl⟩:=List.mem_iff_getElem.1 hy
       obtain ⟨_,l,k1,k2⟩:=hes i _ (List.getElem?_eq_getElem hi)
       rw [k2.1]; exact (cells?_get k1).1
      have hx0 : ∃ x,mA es 0 0 = some x:=by
       cases es with
       | nil => exact absurd rfl h0
       | cons y r =>
        have:=helen y (by simp)
        exact ⟨y[0],by simp [mA]⟩
      obtain ⟨x0,hx0⟩:=hx0
      obtain ⟨v0,g1,_,_,_⟩:=hcell 0 0 x0 hx0
      obtain ⟨c,T,fz,hb,hsp,_⟩:=cell?_inv g1
      simp only [Nat.zero_mul,Addr.add,if_true] at hb hsp
      obtain ⟨ab,ao,asp⟩:=a
      simp only at hb hsp
      subst hsp
      have hoff : ∀ i j x,mA es i j = some x → ∃ v,c[ao + (i * P.cellsOf e + j)]? = some v ∧ lB v = true ∧ RP w (fun _ => True) x v:=by
       intro i j x hx
       obtain ⟨v,g1,g2,g3,_⟩:=hcell i j x hx
       obtain ⟨c',T',fz',k1,_,k3⟩:=cell?_inv g1
       rw [ChangeShapes.block_add,ChangeShapes.block_add] at k1
       rw [hb] at k1
       cases k1
       rw [aPz,aPz,Nat.add_assoc] at k3
       exact ⟨v,k3,g2,g3⟩
      have hr : RP w (fun _ => True) (.sl false es) (.slice (some ⟨ab,ao,none⟩) es.length cap):=by
       refine .sl false es ab ao cap c T fz (P.cellsOf e) (fun i j => (c[ao + (i * P.cellsOf e + j)]?).getD undef) h0 trivial hb helen (by omega) (by simp) ?_ ?_
       ·intro i j x hx
        obtain ⟨v,g1,g2,g3⟩:=hoff i j x hx
        exact ⟨by rw [g1]; rfl,by rw [g1]; exact g2⟩
       ·intro i j x hx
        obtain ⟨v,g1,g2,g3⟩:=hoff i j x hx
        show RP w _ x ((c[ao + (i * P.cellsOf e + j)]?).getD undef)
        rw [g1]; exact g3
      rw [hlen] at hr
      exact hr
  ·rename_i fs ht
   simp only [Bool.and_eq_true,List.all_eq_true] at hk
   obtain ⟨hcon,hk⟩:=hk
   obtain ⟨ys,m,_,_,hl,hyl,hat⟩:=DataW.trod_struct ht h
   have hall : ∀ i,i < fs.size → ∃ y : List AV,∃ f,fs[i]? = some f ∧ nV P n f.type y ∧ CR w y ((cs.drop f.offset).take (P.cellsOf f.type)):=by
    intro i hi
    have hf : fs[i]? = some fs[i]:=by simp [hi]
    have h1:=hat i _ hf
    rw [List.getElem?_eq_getElem (by omega)] at h1
    obtain ⟨y,k1,k2⟩:=tW n _ _ _ m (hk fs[i] (by simp)) h1
    exact ⟨y,_,hf,k1,k2⟩
   obtain ⟨ps,hlen,hps⟩:=sD fs.size hall
   refine ⟨ps.flatten,⟨ps,rfl,hlen,fun i f p hf hp => ?_⟩,?_⟩
   ·obtain ⟨f',g1,g2,_⟩:=hps i p hp
    rw [hf] at g1
    cases g1
    exact g2
   ·have e:=aCs (P:=P) cs hl fs.toList 0 hcon
    rw [List.drop_zero] at e
    rw [e]
    refine CR.flatten (by simp [hlen]) fun i p q hp hq => ?_
    obtain ⟨f,g1,_,g3⟩:=hps i p hp
    rw [List.getElem?_map] at hq
    have : fs.toList[i]? = some f:=by simpa using g1
    rw [this] at hq
    simp only [Option.map_some,Option.some.injEq] at hq
    subst hq
    exact g3
  ·rename_i m e ht
   simp only [Bool.and_eq_true,beq_iff_eq] at hk
   obtain ⟨hcon,hk⟩:=hk
   obtain ⟨ys,m',_,_,hl,hyl,hat⟩:=DataW.trod_array ht h
   have hall : ∀ i,i < m → ∃ y : List AV,nV P n e y ∧ CR w y ((cs.drop (i * P.cellsOf e)).take (P.cellsOf e)):=by
    intro i hi
    have h1:=hat i hi
    rw [List.getElem?_eq_getElem (by omega)] at h1
    obtain ⟨y,k1,k2⟩:=tW n _ _ _ m' hk h1
    exact ⟨y,k1,k2⟩
   obtain ⟨ps,hlen,hps⟩:=sD m hall
   refine ⟨ps.flatten,⟨ps,rfl,hlen,fun p hp => ?_⟩,?_⟩
   ·obtain ⟨i,hi,rfl⟩:=List.mem_iff_getElem.1 hp
    exact (hps i _ (List.getElem?_eq_getElem hi)).1
   ·have e':=yH (P.cellsOf e) m 0 cs (by rw [hl,hcon]; omega)
    rw [List.drop_zero] at e'
    rw [e']
    refine CR.flatten (by simp [hlen]) fun i p q hp hq => ?_
    obtain ⟨_,g3⟩:=hps i p hp
    rw [List.getElem?_map] at hq
    have hi : i < m:=by
     rcases Nat.lt_or_ge i m with h | h
     ·exact h
     ·rw [List.getElem?_eq_none (by omega)] at hp; cases hp
    rw [List.getElem?_range hi] at hq
    simp only [Option.map_some,Option.some.injEq,Nat.zero_add] at hq
    subst hq
    exact g3
  ·cases hk
def isAgg (P : Program) (t : TypeId) : Bool :=
 match P.underlying t with
 | some (.struct _) => true
 | some (.array _ _) => true
 | _ => false
def yI (P : Program) (t : TypeId) (xs : List AV) : AV :=
 match isAgg P t with
 | true => .agg xs
 | false => xs.headD .undef
def zS (P : Program) (n : Nat) : List TypeId → List AV → Prop
 | [],[] => True
 | t :: ts,x :: xs => (∃ ys,nV P n t ys ∧ x = yI P t ys) ∧ zS P n ts xs
 | _,_ => False
def top (W : World) : Ctx:=⟨W,fun _ => False,fun _ => none,[]⟩
theorem aHp (W : World) (b : Nat) : Imm (top W) b:=⟨fun h => h,fun id h => by cases h⟩
theorem aT2 [GlobT] (FT : Nat → Option Nat) (W : World) (hg : GlobInv (top W)) : Sim FT (top W) where
 gl:=hg
 inj:=fun _ _ _ h => by cases h
 dom:=fun _ _ h => by cases h
 nx:=fun _ _ h => by cases h
 fresh:=fun _ _ h => h
 lens:=fun id s es h => by simp [top] at h
 blk:=fun id s es b h => by simp [top] at h
 map:=fun id es b h => by simp [top] at h
 raw:=fun id q b h => by simp [top] at h
theorem aWf [GlobT] {FT : Nat → Option Nat} {n base' : Nat} {t : TypeId} {v : Value} {d : DataW H} {ps : List MemPlace} (hok : Value.okWide P w .any base' t v) (hT : okT P n t = true)
  (h : DataW.Trod enc P w base spare held t v d ps) : ∃ ys,nV P n t ys ∧ RV FT (top w) (yI P t ys) v:=by
 obtain ⟨fuel,h⟩:=h
 obtain ⟨ys,h1,h2⟩:=tW n t _ _ fuel hT h
 refine ⟨ys,h1,?_⟩
 have hup : ∀ {x : AV} {u : Value},RP w (fun _ => True) x u → RP (top w).w (Imm (top w)) x u:=fun hr => hr.mono fun b o _ hb => ⟨aHp w b,hb⟩
 have hagg : ∀ cs : Array Value,v = .agg cs → RV FT (top w) (.agg ys) v:=by
  intro cs e
  subst e
  simp only [Value.cells] at h2
  refine .agg ys cs (fun i => (cs[i]?).getD undef) (by have:=h2.1; simpa using this.symm) (fun i x hx => ?_) (fun i x hx => ?_)
  ·obtain ⟨u,g1,g2,g3⟩:=h2.2 i x hx
   have : cs[i]? = some u:=by simpa using g1
   exact ⟨by rw [this]; rfl,by rw [this]; exact g2⟩
  ·obtain ⟨u,g1,g2,g3⟩:=h2.2 i x hx
   have : cs[i]? = some u:=by simpa using g1
   show RV FT (top w) x ((cs[i]?).getD undef)
   rw [this]
   exact .pure _ _ (hup g3)
 unfold Value.okWide at hok
 unfold yI isAgg
 split at hok
 ·rename_i fs ht
  obtain ⟨cs,rfl,_⟩:=hok
  simp only [ht]
  exact hagg cs rfl
 ·rename_i m e ht
  obtain ⟨cs,rfl,_⟩:=hok
  simp only [ht]
  exact hagg cs rfl
 ·rename_i hn1 hn2
  have hne : ∀ cs,v ≠ .agg cs:=by
   intro cs e
   subst e
   unfold Cell.okWide Cell.ok at hok
   revert hok
   cases P.underlying t with
   | none => simp
   | some u => cases u <;> simp
  have hcells : v.cells = #[v]:=by
   cases v <;> first | rfl | exact absurd rfl (hne _)
  rw [hcells] at h2
  have : (match P.underlying t with | some (.struct _) => true | some (.array _ _) => true | _ => false) = false:=by
   split
   ·rename_i ht; exact absurd ht (hn1 _)
   ·rename_i ht; exact absurd ht (hn2 _ _)
   ·rfl
  rw [this]
  obtain ⟨g0,g⟩:=h2
  match ys,g0,g with
  | [],g0,_ => simp at g0
  | y :: r,_,g =>
   obtain ⟨u,g1,_,g3⟩:=g 0 y rfl
   simp at g1
   subst g1
   exact .pure _ _ (hup g3)
theorem aMs [GlobT] {FT : Nat → Option Nat} {n base' : Nat} : ∀ (ts : List TypeId) (vs : List Value) (ds : List (DataW H)) (ps : List MemPlace),
  (∀ (j : Nat) t v,ts[j]? = some t → vs[j]? = some v → Value.okWide P w .any base' t v) → ts.all (okT P n) = true → DataW.TrodAll enc P w base spare held ts vs ds ps →
  ∃ xs,zS P n ts xs ∧ xs.length = vs.length ∧ ∀ (i : Nat) x,xs[i]? = some x → ∃ v,vs[i]? = some v ∧ RV FT (top w) x v
 | [],[],[],_,_,_,_ => ⟨[],trivial,rfl,fun i x hx => by simp at hx⟩
 | t :: ts,v :: vs,d :: ds,ps,hok,hT,h => by
  obtain ⟨p,q,h1,h2,_⟩:=h
  simp only [List.all_cons,Bool.and_eq_true] at hT
  obtain ⟨ys,k1,k2⟩:=aWf (FT:=FT) (hok 0 t v rfl rfl) hT.1 h1
  obtain ⟨xs,g1,g2,g3⟩:=aMs ts vs ds q (fun j t' v' e1 e2 => hok (j + 1) t' v' (by simpa using e1) (by simpa using e2)) hT.2 h2
  refine ⟨yI P t ys :: xs,⟨⟨ys,k1,rfl⟩,g1⟩,by simp [g2],fun i x hx => ?_⟩
  cases i with
  | zero =>
   simp only [List.getElem?_cons_zero,Option.some.injEq] at hx
   subst hx
   exact ⟨v,rfl,k2⟩
  | succ i =>
   simp only [List.getElem?_cons_succ] at hx ⊢
   exact g3 i x hx
 | [],[],_ :: _,_,_,_,h => h.elim
 | [],_ :: _,_,_,_,_,h => h.elim
 | _ :: _,[],_,_,_,_,h => h.elim
 | _ :: _,_ :: _,[],_,_,_,h => h.elim
theorem vU [GlobT] {ts : List TypeId} (hl : laidOutB P = true) {W W' : World} (hb : Below W.heap.size W W') : ∀ (ts : List TypeId) (vs : List Value) (ds : List (DataW H)) (ps : List MemPlace),
  (∀ t ∈ ts,P.readableRec t = true ∧ t < P.types.size) → (∀ x ∈ ps,x.block < W.heap.size) → DataW.TrodAll enc P W 0 (fun _ => true) true ts vs ds ps →
  DataW.TrodAll enc P W' 0 (fun b => decide (b < W.heap.size)) true ts vs ds ps
 | [],[],[],_,_,_,h => h
 | t :: ts,v :: vs,d :: ds,ps,hr,hlt,h => by
  obtain ⟨p,q,h1,h2,rfl⟩:=h
  exact ⟨p,q,Below.trod hl (hr t (by simp)).1 (hr t (by simp)).2 h1 hb fun x hx => hlt x (by simp [hx]),
   vU (ts:=ts) hl hb ts vs ds q (fun t' ht' => hr t' (by simp [ht'])) (fun x hx => hlt x (by simp [hx])) h2,rfl⟩
 | [],[],_ :: _,_,_,_,h => h.elim
 | [],_ :: _,_,_,_,_,h => h.elim
 | _ :: _,[],_,_,_,_,h => h.elim
 | _ :: _,_ :: _,[],_,_,_,h => h.elim
theorem aGd [GlobT] {T : List AFun} (hm : P.follows .mixedOrders = true) (hT : Checked P T) (hPr : PrimOK P T) {vi f n : Nat} {fn : Func} (hvi : ftOf T vi = some f) {s : ChangeSpec} (hvars : s.vars = []) {tb : TypeId} (hrt : fn.resultTypes = #[tb]) (htb : P.underlying tb = some .bool)
  (hl : laidOutB P = true) (hts : ∀ t ∈ fn.params.toList,P.readableRec t = true ∧ t < P.types.size) (hok : fn.params.toList.all (okT P n) = true)
  (hev : ∀ xs,zS P n fn.params.toList xs → ∃ k H',evF P T k 0 vi xs [] = some (.lit (.bool true),H'))
  {W : World} {base' : Nat} {args : Array Value} {ds gs : List (DataW H)} {before : List MemPlace} {fresh handsOn : Bool} (hgl : GlobInv (top W))
  (hfn : (s.fn H (ds ++ gs)).results = [.lit (.bool true)] ∧ (s.fn H (ds ++ gs)).args = ds ∧ (s.fn H (ds ++ gs)).vars = [])
  (hval : ∀ (j : Nat) t v,fn.params[j]? = some t → args[j]? = some v → Value.okWide P W .any base' t v)
  (hW : DataW.Whole enc P fn.params.toList s.vars false W args.toList ds gs before) :
  Calls P f args W fun e W' => ∃ v,e = .returned v ∧ s.post enc P fn false fresh handsOn false W args v W':=by
 have hW':=hW
 obtain ⟨p,q,hA,hV,rfl,hfz,hnd⟩:=hW
 obtain ⟨xs,g1,g2,g3⟩:=aMs (FT:=ftOf T) (n:=n) fn.params.toList args.toList ds p (fun j t v e1 e2 => hval j t v (by simpa using e1) (by simpa using e2)) hok hA
 obtain ⟨k,H',he⟩:=hev xs g1
 have hargs : aC8 (ftOf T) (top W) xs args:=⟨by simpa using g2.symm,fun i x hx => by
  obtain ⟨v,h1,h2⟩:=g3 i x hx
  exact ⟨v,by simpa using h1,h2⟩⟩
 refine (aG2 hm hT hPr k 0 vi f xs _ H' (top W) args he hvi (aT2 _ W hgl) (Nat.zero_le _) hargs).mono fun e W' hq => ?_
 obtain ⟨v,c',rfl,rfl,_,_,hst,_,hrv⟩:=hq
 have hv : v = .bool true:=hrv.lit_inv
 subst hv
 have hb : Below W.heap.size W c'.w:=⟨hst.os,hst.tape,hst.output,hst.size,fun i hi => hst.frame i hi (fun id h => by cases h)⟩
 have hq0 : gs = [] ∧ q = []:=by
  rw [hvars] at hV
  cases gs with
  | nil => exact ⟨rfl,hV⟩
  | cons _ _ => exact hV.elim
 obtain ⟨rfl,rfl⟩:=hq0
 have hlt : ∀ x ∈ p,x.block < W.heap.size:=fun x hx => hW'.lt x (by simpa using hx)
 have hA':=vU (ts:=[]) hl hb fn.params.toList args.toList ds p hts hlt hA
 refine ⟨_,rfl,ds,[],p ++ [],[],p,[],hW',?_,?_,?_,hb.frame _,fun h => by cases h⟩
 ·rw [hfn.1,hrt]
  exact ⟨[],[],shut_bool htb _,rfl,rfl⟩
 ·rw [hfn.2.1]
  exact hA'
 ·rw [hvars,hfn.2.2]
  rfl
end
end Go.Proofs.YtkdnaejhpcibnaaGreatDoor.Av
namespace Go.Proofs.YtkdnaejhpcibnaaGreatDoor.Av
open Go
def pv [GlobT] (P : Program) (T : List AFun) (n vi : Nat) (args : List AV) : Option AV :=
 match evF P T n 0 vi args [] with
 | some (r,H') => some (nW H' 0 r)
 | none => none
theorem aRu [GlobT] {P : Program} {T : List AFun} {n fl vi : Nat} {args : List AV} {H : Heap} :
  nH (evF P T n) fl true vi args H = match mW args with
   | true => (match pv P T n vi (args.map nrm2) with | some r => some (r,H) | none => none)
   | false => (match evF P T n H.length vi (args.map nrm2) H with | some (r,H') => some (nW H' H.length r,H) | none => none):=by
 unfold nH pv
 cases mW args with
 | false => rfl
 | true =>
  simp only
  cases evF P T n 0 vi (args.map nrm2) [] with
  | none => rfl
  | some x => rfl
def finA [GlobT] (F : AFun) : Option (AExit × St) → Option (AV × Heap)
 | some (.normal,st) => match uL st F.rets with
  | some vs => some (zF vs,st.heap)
  | none => none
 | some (.ret,st) => match uL st F.rets with
  | some vs => some (zF vs,st.heap)
  | none => none
 | _ => none
theorem aS9 [GlobT] {P : Program} {T : List AFun} {n fl vi : Nat} {args : List AV} {H : Heap} (F : AFun) (h : getF T vi = some F) :
  evF P T (n + 1) fl vi args H = finA F (evC P (evF P T n) n fl F.body ⟨args ++ List.replicate (F.nt - args.length) (.lit lI),H⟩):=by
 have hp : GlobT.prim vi = none:=by
  unfold getF at h
  split at h
  ·cases h
  ·assumption
 have h' : T[vi]? = some F:=by simpa only [getF,hp] using h
 simp only [evF,hp,h',finA]
 split <;> split <;> simp_all
def aP6 : Option (AV × Heap) → Option AV
 | some (r,H') => some (nW H' 0 r)
 | none => none
theorem aWg [GlobT] {P : Program} {T : List AFun} {n vi : Nat} {args : List AV} (F : AFun) (h : getF T vi = some F) :
  pv P T (n + 1) vi args = aP6 (finA F (evC P (evF P T n) n 0 F.body ⟨args ++ List.replicate (F.nt - args.length) (.lit lI),[]⟩)):=by
 unfold pv
 rw [aS9 F h]
 rfl
theorem aPb [GlobT] {P : Program} {T : List AFun} {n vi : Nat} {args : List AV} {b : Bool} (h : pv P T n vi args = some (.lit (.bool b))) : ∃ H',evF P T n 0 vi args [] = some (.lit (.bool b),H'):=by
 unfold pv at h
 split at h
 ·rename_i r H' he
  simp only [Option.some.injEq] at h
  refine ⟨H',?_⟩
  rw [he]
  cases r with
  | lit v =>
   simp only [nW,pA,mV,nrmV] at h
   revert h
   split
   ·split
    ·split
     ·split
      ·intro h; cases h
      ·intro h; cases h
     ·intro h; cases h
    ·intro h; cases h
   ·intro h; simp only [AV.lit.injEq] at h; rw [h]
  | agg cs => simp [nW,pA] at h
  | tup cs => simp [nW] at h
  | fn vi caps => cases caps <;> simp [nW,pA,mV] at h
  | ms id tot off len =>
   simp only [nW,pA,mV,Nat.not_lt_zero,if_false,vY,rJ,Nat.zero_le,if_true] at h
   split at h <;> cases h
  | ptr => simp [nW,pA,mV] at h
  | mp => simp [nW,pA,mV] at h
  | it => simp [nW,pA,mV] at h
  | _ => simp [nW,pA,mV] at h
 ·cases h
def aNl (head : St → St) : Option (AExit × St) → St → Prop
 | some (.normal,st),s => head st = s
 | _,_ => False
theorem aNk {head : St → St} {r : Option (AExit × St)} {s : St} (h : aNl head r s) : ∃ st',r = some (.normal,st') ∧ head st' = s:=by
 unfold aNl at h
 split at h
 ·exact ⟨_,rfl,h⟩
 ·exact h.elim
section
variable {P : Program} {cf : Nat → Nat → List AV → Heap → Option (AV × Heap)} {lf fl : Nat} {st : St}
end
theorem aWj {P : Program} (a b : Int) : kM P (Builtin.max_ #[] 0 #[.int .i64 a,.int .i64 b]) = some (.int .i64 (if a < b then b else a)):=by
 by_cases h : a < b <;> simp [Builtin.max_,Builtin.max2,h] <;> rfl
theorem aWi {P : Program} {t : TypeId} (a b : ByteArray) : kM P (binOp .eql t (.string a) (.string b)) = some (.bool (a.toList == b.toList)):=rfl
theorem aWh {P : Program} {t : TypeId} (a b : ByteArray) : kM P (binOp .neq t (.string a) (.string b)) = some (.bool (!(a.toList == b.toList))):=rfl
theorem aWk {P : Program} {t : TypeId} {op : BinOp} (x y : Operand) (a b : ByteArray) : kM P (eqGuard op t x y (.string a) (.string b)) = some ():=by cases op <;> rfl
theorem aMd {fl id s bytes tot : Nat} {H : Heap} {es ys : List (List AV)} (hid : H[id]? = some (.blk s es)) (hes : es.length = tot) (hys : pG s ys = true) (hs : 0 < s) (hr : room ys.length bytes = true)
  (hr2 : room (tot + ys.length) bytes = true) (hfl : fl ≤ id) :
  lW fl H s bytes (.ms id tot 0 tot) ys = some (.ms id (tot + ys.length) 0 (tot + ys.length),H.set id (.blk s (es ++ ys))):=by
 have hlt : id < H.length:=by
  rcases Nat.lt_or_ge id H.length with h | h
  ·exact h
  ·rw [List.getElem?_eq_none h] at hid; cases hid
 unfold lW
 simp only [hys,hs,hr,hid,hes,hr2,hfl,and_self,if_true]
 by_cases h0 : ys.length = 0
 ·have : ys = []:=List.length_eq_zero_iff.1 h0
  subst this
  simp only [List.length_nil,Nat.add_zero,List.append_nil,if_true,Option.some.injEq,Prod.mk.injEq,true_and]
  apply List.ext_getElem?
  intro i
  rw [List.getElem?_set]
  split
  ·rename_i hi; subst hi; first | exact hid | (rw [if_pos hlt]; exact hid)
  ·rfl
 ·simp only [h0,if_false]
end Go.Proofs.YtkdnaejhpcibnaaGreatDoor.Av
namespace Go.Proofs.YtkdnaejhpcibnaaGreatDoor.Av
open Go
section
variable {P : Program} {cf cf' : Nat → Nat → List AV → Heap → Option (AV × Heap)}
def Le (cf cf' : Nat → Nat → List AV → Heap → Option (AV × Heap)) : Prop:=∀ fl vi args H x,cf fl vi args H = some x → cf' fl vi args H = some x
theorem aD2 (h : Le cf cf') {fl vi : Nat} {pu : Bool} {args : List AV} {H : Heap} {x : AV × Heap} (hx : nH cf fl pu vi args H = some x) : nH cf' fl pu vi args H = some x:=by
 unfold nH at hx ⊢
 cases pu with
 | true =>
  simp only at hx ⊢
  cases hp : mW args with
  | true =>
   rw [hp] at hx
   simp only at hx ⊢
   split at hx
   ·rename_i r H' he; rw [h _ _ _ _ _ he]; exact hx
   ·cases hx
  | false =>
   rw [hp] at hx
   simp only at hx ⊢
   split at hx
   ·rename_i r H' he; rw [h _ _ _ _ _ he]; exact hx
   ·cases hx
 | false => exact h _ _ _ _ _ hx
theorem aG1 [GlobT] (h : Le cf cf') {fl : Nat} {op : AOp} {tm : List AV} {H : Heap} {x : AV × Heap} (hx : evOp P cf fl op tm H = some x) : evOp P cf' fl op tm H = some x:=by
 cases op with
 | call pu vi args => exact aD2 h hx
 | callv pu y args =>
  simp only [evOp] at hx ⊢
  split at hx
  ·rename_i vi caps he
   exact aD2 h hx
  ·cases hx
 | callF vi args => exact h _ _ _ _ _ hx
 | callS vi args =>
  simp only [evOp] at hx ⊢
  split at hx
  ·rename_i r H1 he
   rw [h _ _ _ _ _ he]; exact hx
  ·cases hx
 | _ => exact hx
theorem aCq [GlobT] (h : Le cf cf') {fl : Nat} {o : AOper} {st st' : St} (hx : mB P cf fl o st = some st') : mB P cf' fl o st = some st':=by
 unfold mB at hx ⊢
 split at hx
 ·split at hx
  ·rename_i v H he
   rw [aG1 h he]; exact hx
  ·cases hx
 ·exact hx
 ·cases hx
theorem aDs [GlobT] (h : Le cf cf') {fl : Nat} : ∀ (l : List AOper) {st st' : St},oP P cf fl l st = some st' → oP P cf' fl l st = some st'
 | [],_,_,hx => hx
 | o :: r,st,st',hx => by
  simp only [oP] at hx ⊢
  split at hx
  ·rename_i s1 he
   rw [aCq h he]; exact aDs h r hx
  ·cases hx
theorem aCp [GlobT] (h : Le cf cf') {fl : Nat} : ∀ (l : List AOper) {st : St} {q : List St},pX P cf fl l st = some q → pX P cf' fl l st = some q
 | [],_,_,hx => hx
 | o :: r,st,q,hx => by
  simp only [pX] at hx ⊢
  split at hx
  ·rename_i s1 he
   rw [aCq h he]
   simp only
   split at hx
   ·rename_i l1 h1
    rw [aCp h r h1]; exact hx
   ·cases hx
  ·cases hx
theorem aL3 [GlobT] (h : Le cf cf') {fl : Nat} {ck : List (Nat × Nat)} {ops : List AOper} {st st' : St} (hx : sP P cf fl ck ops st = some st') : sP P cf' fl ck ops st = some st':=by
 cases ck with
 | nil => exact aDs h ops hx
 | cons c r =>
  simp only [sP] at hx ⊢
  split at hx
  ·rename_i l he
   rw [aCp h ops he]; exact hx
  ·cases hx
theorem vQ [GlobT] {head : St → St} {step step' : St → Option (AExit × St)} (hs : ∀ st x,step st = some x → step' st = some x) : ∀ (n m : Nat) (st : St) (x : AExit × St),n ≤ m → pE head step n st = some x → pE head step' m st = some x
 | 0,_,_,_,_,hx => by cases hx
 | n + 1,m,st,x,hnm,hx => by
  obtain ⟨m,rfl⟩ : ∃ q,m = q + 1:=⟨m - 1,by omega⟩
  simp only [pE] at hx ⊢
  cases he : step (head st) with
  | none => rw [he] at hx; cases hx
  | some r =>
   rw [he] at hx
   rw [hs _ _ he]
   obtain ⟨y,s⟩:=r
   cases y with
   | normal => exact vQ hs n m s x (by omega) hx
   | exit i => exact hx
   | ret => exact hx
theorem aLr {lx lr : List Bool} {tr : Bool} {fl n : Nat} {r r' : Option (AExit × St)} {x : AExit × St} (h : ∀ y,r = some y → r' = some y) (hx : lT lx lr tr fl n r = some x) : lT lx lr tr fl n r' = some x:=by
 cases r with
 | none => cases hx
 | some y => rw [h y rfl]; exact hx
theorem aLq [GlobT] {lx lr : List Bool} {t fl n : Nat} {r r' : Option (AExit × St)} {x : AExit × St} (h : ∀ y,r = some y → r' = some y) (hx : aIa lx lr t fl n r = some x) : aIa lx lr t fl n r' = some x:=by
 cases r with
 | none => cases hx
 | some y => rw [h y rfl]; exact hx
theorem nC [GlobT] (h : Le cf cf') {lf lf' fl : Nat} (hl : lf ≤ lf') : ∀ (c : ACode) (st : St) (x : AExit × St),evC P cf lf fl c st = some x → evC P cf' lf' fl c st = some x
 | .skip,_,_,hx => hx
 | .exit _,_,_,hx => hx
 | .ret,_,_,hx => hx
 | .stop,_,_,hx => hx
 | .region _ ck ops,st,x,hx => by
  simp only [evC] at hx ⊢
  split at hx
  ·rename_i s1 he
   rw [aL3 h he]; exact hx
  ·cases hx
 | .seq a b,st,x,hx => by
  simp only [evC] at hx ⊢
  cases he : evC P cf lf fl a st with
  | none => rw [he] at hx; cases hx
  | some r =>
   rw [he] at hx
   rw [nC h hl a st r he]
   obtain ⟨y,s⟩:=r
   cases y with
   | normal => exact nC h hl b s x hx
   | exit i => exact hx
   | ret => exact hx
 | .cond c a b,st,x,hx => by
  simp only [evC] at hx ⊢
  split at hx
  ·exact nC h hl a st x hx
  ·exact nC h hl b st x hx
  ·cases hx
 | .block id c,st,x,hx => by
  simp only [evC] at hx ⊢
  cases he : evC P cf lf fl c st with
  | none => rw [he] at hx; cases hx
  | some r =>
   rw [he] at hx
   rw [nC h hl c st r he]
   exact hx
 | .loop live tr c,st,x,hx => by
  simp only [evC] at hx ⊢
  exact vQ (fun st x hs => nC h hl c st x hs) lf lf' st x hl hx
 | .frz t c,st,x,hx => by
  simp only [evC] at hx ⊢
  split at hx
  ·rename_i v H he
   rw [aG1 h he]
   exact nC h hl c _ x hx
  ·cases hx
 | .mask lx lr tr c,st,x,hx => by
  simp only [evC] at hx ⊢
  exact aLr (fun y hy => nC h hl c st y hy) hx
 | .scope c,st,x,hx => by
  simp only [evC] at hx ⊢
  exact nC h hl c st x hx
 | .nilIf t d0 d1 a b,st,x,hx => by
  simp only [evC] at hx ⊢
  split at hx
  ·split at hx
   ·cases he : evC P cf lf fl a ⟨rP st.tmps t d0 d1 true,st.heap⟩ with
    | none => rw [he] at hx; cases hx
    | some r => rw [he] at hx; rw [nC h hl a _ r he]; exact hx
   ·exact nC h hl b _ x hx
   ·split at hx
    ·cases he : evC P cf lf fl a ⟨rP st.tmps t d0 d1 true,st.heap⟩ with
     | none => rw [he] at hx; cases hx
     | some r =>
      cases he2 : evC P cf lf fl b ⟨rP st.tmps t d0 d1 false,st.heap⟩ with
      | none => rw [he,he2] at hx; obtain ⟨y,s⟩:=r; cases y <;> cases hx
      | some r2 => rw [he,he2] at hx; rw [nC h hl a _ r he,nC h hl b _ r2 he2]; exact hx
    ·cases hx
   ·cases hx
  ·cases hx
 | .loopV live lx lr t c,st,x,hx => by
  simp only [evC] at hx ⊢
  split at hx
  ·rename_i s1 he
   exact aLq (fun y hy => vQ (fun st x hs => nC h hl c st x hs) lf lf' s1 y hl hy) hx
  ·cases hx
end
theorem aS8 [GlobT] (P : Program) (T : List AFun) : ∀ n,Le (evF P T n) (evF P T (n + 1))
 | 0 => fun _ _ _ _ _ h => by cases h
 | n + 1 => fun fl vi args H x hx => by
  rw [evF] at hx ⊢
  split at hx
  ·exact hx
  split at hx
  ·cases hx
  ·rename_i F hF
   cases he : evC P (evF P T n) n fl F.body ⟨args ++ List.replicate (F.nt - args.length) (.lit lI),H⟩ with
   | none => rw [he] at hx; cases hx
   | some r =>
    rw [he] at hx
    rw [nC (aS8 P T n) (Nat.le_succ n) F.body _ r he]
    exact hx
theorem aRk [GlobT] {P : Program} {T : List AFun} {n m fl vi : Nat} {args : List AV} {H : Heap} {x : AV × Heap} (hnm : n ≤ m) (hx : evF P T n fl vi args H = some x) : evF P T m fl vi args H = some x:=by
 induction hnm with
 | refl => exact hx
 | step _ ih => exact aS8 P T _ _ _ _ _ _ ih
theorem aH0 [GlobT] {P : Program} {T : List AFun} {n m vi : Nat} {args : List AV} {r : AV} (hnm : n ≤ m) (hx : pv P T n vi args = some r) : pv P T m vi args = some r:=by
 unfold pv at hx ⊢
 split at hx
 ·rename_i r' H' he
  rw [aRk hnm he]; exact hx
 ·cases hx
def aVm : Value → Value → Bool
 | .int k a,.int k' b => k == k' && (match Int.decEq a b with | .isTrue _ => true | .isFalse _ => false)
 | .bool a,.bool b => a == b
 | .string a,.string b => decide (a = b)
 | .slice none 0 0,.slice none 0 0 => true
 | .pointer none,.pointer none => true
 | .map none,.map none => true
 | _,_ => false
theorem aRl {v u : Value} (h : aVm v u = true) : v = u:=by
 unfold aVm at h
 split at h
 ·rename_i k a k' b
  simp only [Bool.and_eq_true,beq_iff_eq] at h
  obtain ⟨rfl,h2⟩:=h
  split at h2
  ·rename_i e _; rw [e]
  ·cases h2
 ·rename_i a b; simp only [beq_iff_eq] at h; rw [h]
 ·rename_i a b; rw [of_decide_eq_true h]
 ·rfl
 ·rfl
 ·rfl
 ·cases h
def eqL {α : Type} (f : α → α → Bool) : List α → List α → Bool
 | [],[] => true
 | x :: r,y :: s => match f x y with
  | true => eqL f r s
  | false => false
 | _,_ => false
theorem aG3 [GlobT] {α : Type} {f : α → α → Bool} (hf : ∀ x y,f x y = true → x = y) : ∀ (l m : List α),eqL f l m = true → l = m
 | [],[],_ => rfl
 | x :: r,y :: s,h => by
  simp only [eqL] at h
  split at h
  ·rename_i he
   rw [hf x y he,aG3 hf r s h]
  ·cases h
 | [],_ :: _,h => by cases h
 | _ :: _,[],h => by cases h
def eqAV : Nat → AV → AV → Bool
 | 0,_,_ => false
 | d + 1,x,y => match x with
  | .lit v => match y with
   | .lit u => aVm v u
   | _ => false
  | .sl f es => match y with
   | .sl g fs => f == g && eqL (eqL (eqAV d)) es fs
   | _ => false
  | .agg cs => match y with
   | .agg ds => eqL (eqAV d) cs ds
   | _ => false
  | .fn v [] => match y with
   | .fn u [] => Nat.beq v u
   | _ => false
  | .undef => match y with
   | .undef => true
   | _ => false
  | _ => false
theorem aPf [GlobT] : ∀ (d : Nat) (x y : AV),eqAV d x y = true → x = y
 | 0,_,_,h => by cases h
 | d + 1,x,y,h => by
  have ih:=aPf d
  unfold eqAV at h
  split at h
  ·split at h
   ·rw [aRl h]
   ·cases h
  ·split at h
   ·simp only [Bool.and_eq_true,beq_iff_eq] at h
    rw [h.1,aG3 (aG3 ih) _ _ h.2]
   ·cases h
  ·split at h
   ·rw [aG3 ih _ _ h]
   ·cases h
  ·split at h
   ·rw [Nat.eq_of_beq_eq_true h]
   ·cases h
  ·split at h
   ·rfl
   ·cases h
  ·cases h
abbrev Memo:=List (Nat × Nat × List AV × AV)
def aIc (n vi : Nat) (args : List AV) : Memo → Option AV
 | [] => none
 | (b,w,as,r) :: m => match Nat.beq vi w with
  | true => match Nat.ble b n with
   | true => match eqL (eqAV 9) args as with
    | true => some r
    | false => aIc n vi args m
   | false => aIc n vi args m
  | false => aIc n vi args m
def mF [GlobT] (P : Program) (T : List AFun) : Memo → Prop
 | [] => True
 | (b,w,as,r) :: m => pv P T b w as = some r ∧ mF P T m
theorem zM [GlobT] {P : Program} {T : List AFun} {n vi : Nat} {args : List AV} {r : AV} : ∀ (M : Memo),mF P T M → aIc n vi args M = some r → pv P T n vi args = some r
 | [],_,h => by cases h
 | (b,w,as,r') :: m,hM,h => by
  simp only [aIc] at h
  split at h
  ·rename_i h1
   split at h
   ·rename_i h2
    split at h
    ·rename_i h3
     cases h
     have e1:=Nat.eq_of_beq_eq_true h1
     have e2:=aG3 (aPf 9) _ _ h3
     subst e1 e2
     exact aH0 (Nat.le_of_ble_eq_true h2) hM.1
    ·exact zM m hM.2 h
   ·exact zM m hM.2 h
  ·exact zM m hM.2 h
end Go.Proofs.YtkdnaejhpcibnaaGreatDoor.Av
namespace Go.Proofs.YtkdnaejhpcibnaaGreatDoor.Av
open Go
def AllP : List Prop → Prop
 | [] => True
 | p :: r => p ∧ AllP r
structure Orc where
 O : List (Nat × AV × Option Heap)
 B : List (Nat × Bool)
structure OSt where
 st : St
 L : List (AExit × St)
 M : List (Option Heap)
 ps : List Prop
def look {α : Type} (t : Nat) : List (Nat × α) → Option α
 | [] => none
 | (u,a) :: r => match Nat.beq u t with | true => some a | false => look t r
def isB (x : AV) (b : Bool) : Prop:=match x with
 | .lit (.bool y) => y = b
 | _ => False
theorem aJt {x : AV} {b : Bool} (h : isB x b) : x = .lit (.bool b):=by
 unfold isB at h
 split at h
 ·rw [h]
 ·exact h.elim
def pvc (cf : Nat → Nat → List AV → Heap → Option (AV × Heap)) (vi : Nat) (args : List AV) : Option AV :=
 match cf 0 vi args [] with
 | some (r,H') => some (nW H' 0 r)
 | none => none
def idxA (H : Heap) (s : Nat) (x i : AV) : Option AV :=
 match oI i with
 | some i => match x with
  | .sl _ es => match es[i]? with
   | some e => if e.length = s then some (.rptr e) else none
   | none => none
  | .ms id tot off len => match H[id]? with
   | some (.blk s' es) => if s' = s ∧ es.length = tot ∧ i < len then some (.ptr id tot (off + i) 0) else none
   | _ => none
  | _ => none
 | none => none
def ibA (op : BinOp) (x y : AV) : Option AV :=
 match x,y with
 | .lit (.int k a),.lit (.int k' b) => if k = k' then match aLt op k a b with
   | some v => some (.lit v)
   | none => none
  else none
 | _,_ => none
section
variable (P : Program) (cf : Nat → Nat → List AV → Heap → Option (AV × Heap)) (fl : Nat)
def getO [GlobT] (tm : List AV) : Option AOpd → AV
 | none => .undef
 | some x => kG tm x
def stk [GlobT] (op : AOp) (tm : List AV) (H : Heap) (v : AV) (h : Option Heap) : Prop :=
 match op with
 | .call pu vi args =>
  match pu with
  | true => match mW (args.map (kG tm)) with
   | true => match h with
    | none => pvc cf vi ((args.map (kG tm)).map nrm2) = some v
    | some _ => False
   | false => nH cf fl true vi (args.map (kG tm)) H = some (v,h.getD H)
  | false => cf fl vi (args.map (kG tm)) H = some (v,h.getD H)
 | .callv pu x args => match kG tm x with
  | .fn vi caps => nH cf fl pu vi (args.map (kG tm) ++ caps) H = some (v,h.getD H)
  | _ => False
 | .idxAddr s x i => match h with
  | none => idxA H s (kG tm x) (kG tm i) = some v
  | some _ => False
 | .ibin op x y => match h with
  | none => ibA op (kG tm x) (kG tm y) = some v
  | some _ => False
 | .append s bytes x y => (match rd H (kG tm y) with | some ys => lW fl H s bytes (kG tm x) ys | none => none) = some (v,h.getD H)
 | .lenS x => evOp P cf fl (.lenS (.tmp 0)) [kG tm x] H = some (v,h.getD H)
 | .un op x => evOp P cf fl (.un op (.tmp 0)) [kG tm x] H = some (v,h.getD H)
 | .bin op t x y => evOp P cf fl (.bin op t (.tmp 0) (.tmp 1)) [kG tm x,kG tm y] H = some (v,h.getD H)
 | .lookup kt z m k ok => evOp P cf fl (.lookup kt (.tmp 2) (.tmp 0) (.tmp 1) ok) [kG tm m,kG tm k,kG tm z] H = some (v,h.getD H)
 | .load agg n x => evOp P cf fl (.load agg n (.tmp 0)) [kG tm x] H = some (v,h.getD H)
 | .appendZ s b z x n => evOp P cf fl (.appendZ s b z (.tmp 0) (.tmp 1)) [kG tm x,kG tm n] H = some (v,h.getD H)
 | .mkSlice s z b x n => evOp P cf fl (.mkSlice s z b (.tmp 0) (.tmp 1)) [kG tm x,kG tm n] H = some (v,h.getD H)
 | .minmax mx xs => evOp P cf fl (.minmax mx ((List.range xs.length).map .tmp)) (xs.map (kG tm)) H = some (v,h.getD H)
 | .slice s x lo hi mx => evOp P cf fl (.slice s (.tmp 0) (lo.map fun _ => .tmp 1) (hi.map fun _ => .tmp 2) (mx.map fun _ => .tmp 3)) [kG tm x,getO tm lo,getO tm hi,getO tm mx] H = some (v,h.getD H)
 | .strSlice t x lo hi => evOp P cf fl (.strSlice t (.tmp 0) (lo.map fun _ => .tmp 1) (hi.map fun _ => .tmp 2)) [kG tm x,getO tm lo,getO tm hi] H = some (v,h.getD H)
 | .strIdx t x i => evOp P cf fl (.strIdx t (.tmp 0) (.tmp 1)) [kG tm x,kG tm i] H = some (v,h.getD H)
 | .lenStr t x => evOp P cf fl (.lenStr t (.tmp 0)) [kG tm x] H = some (v,h.getD H)
 | .conv a b x => evOp P cf fl (.conv a b (.tmp 0)) [kG tm x] H = some (v,h.getD H)
 | .lenM x => evOp P cf fl (.lenM (.tmp 0)) [kG tm x] H = some (v,h.getD H)
 | .copy s x y => evOp P cf fl (.copy s (.tmp 0) (.tmp 1)) [kG tm x,kG tm y] H = some (v,h.getD H)
 | .index agg s n x i => evOp P cf fl (.index agg s n (.tmp 0) (.tmp 1)) [kG tm x,kG tm i] H = some (v,h.getD H)
 | .nextStr x => evOp P cf fl (.nextStr (.tmp 0)) [kG tm x] H = some (v,h.getD H)
 | .loadF n q x => evOp P cf fl (.loadF n q (.tmp 0)) [kG tm x] H = some (v,h.getD H)
 | .appendP s b x y => evOp P cf fl (.appendP s b (.tmp 0) (.tmp 1)) [kG tm x,kG tm y] H = some (v,h.getD H)
 | op => evOp P cf fl op tm H = some (v,h.getD H)
def stn [GlobT] (op : AOp) (tm : List AV) (H H' : Heap) : Prop :=
 match op with
 | .mapUpd kt m k v => evOp P cf fl (.mapUpd kt (.tmp 0) (.tmp 1) (.tmp 2)) [kG tm m,kG tm k,kG tm v] H = some (.lit lI,H')
 | .store n x v => evOp P cf fl (.store n (.tmp 0) (.tmp 1)) [kG tm x,kG tm v] H = some (.lit lI,H')
 | .call pu vi args => ∃ v,nH cf fl pu vi (args.map (kG tm)) H = some (v,H')
 | .callv pu x args => match kG tm x with
  | .fn vi caps => ∃ v,nH cf fl pu vi (args.map (kG tm) ++ caps) H = some (v,H')
  | _ => False
 | op => ∃ v,evOp P cf fl op tm H = some (v,H')
theorem aV6 [GlobT] {op : AOp} {tm : List AV} {H H' : Heap} (k : stn P cf fl op tm H H') : ∃ v,evOp P cf fl op tm H = some (v,H'):=by
 unfold stn at k
 split at k
 ·exact ⟨_,k⟩
 ·exact ⟨_,k⟩
 ·exact k
 ·rename_i pu x args
  split at k
  ·rename_i vi caps hx
   simp only [evOp,hx]
   exact k
  ·exact k.elim
 ·exact k
theorem aGi [GlobT] (xs : List AV) : ((List.range xs.length).map AOpd.tmp).map (kG xs) = xs:=by
 apply List.ext_getElem?
 intro i
 simp only [List.getElem?_map]
 rcases Nat.lt_or_ge i xs.length with h | h
 ·rw [List.getElem?_range h,List.getElem?_eq_getElem h]
  simp [kG,List.getElem?_eq_getElem h]
 ·rw [List.getElem?_eq_none (by simpa using h),List.getElem?_eq_none h]
  rfl
theorem aV7 [GlobT] {op : AOp} {tm : List AV} {H : Heap} {v : AV} {h : Option Heap} (k : stk P cf fl op tm H v h) : evOp P cf fl op tm H = some (v,h.getD H):=by
 unfold stk at k
 split at k
 ·rename_i pu vi args
  show nH cf fl pu vi (args.map (kG tm)) H = _
  split at k
  ·split at k
   ·rename_i hp
    split at k
    ·unfold pvc at k
     unfold nH
     simp only [hp]
     split at k
     ·rename_i r H' he
      rw [he]
      simp only [Option.some.injEq] at k
      simp [k]
     ·cases k
    ·exact k.elim
   ·exact k
  ·exact k
 ·rename_i pu x args
  split at k
  ·rename_i vi caps hx
   simp only [evOp,hx]
   exact k
  ·exact k.elim
 ·rename_i s x i
  split at k
  ·unfold idxA at k
   simp only [evOp]
   split at k
   ·rename_i j hj
    simp only [hj]
    split at k
    ·rename_i es hx
     simp only [hx]
     split at k
     ·rename_i e he
      simp only [he]
      split at k
      ·rename_i hl
       simp only [hl,if_true]
       cases k
       rfl
      ·cases k
     ·cases k
    ·rename_i id tot off len hx
     simp only [hx]
     split at k
     ·rename_i s' es he
      simp only [he]
      split at k
      ·rename_i hl
       rw [if_pos hl]
       cases k
       rfl
      ·cases k
     ·cases k
    ·cases k
   ·cases k
  ·exact k.elim
 ·rename_i op x y
  split at k
  ·unfold ibA at k
   simp only [evOp]
   split at k
   ·rename_i k1 a k2 b h1 h2
    simp only [h1,h2]
    split at k
    ·rename_i hk
     rw [if_pos hk]
     split at k
     ·rename_i u hu
      simp only [hu]
      cases k
      rfl
     ·cases k
    ·cases k
   ·cases k
  ·exact k.elim
 ·simp only [evOp]
  split at k
  ·rename_i ys hy
   simp only [hy]
   exact k
  ·cases k
 ·exact k
 ·exact k
 ·exact k
 ·exact k
 ·exact k
 ·exact k
 ·exact k
 ·rename_i mx xs
  simp only [evOp] at k ⊢
  have:=aGi (xs.map (kG tm))
  rw [List.length_map] at this
  rw [this] at k
  exact k
 ·rename_i s x lo hi mx
  cases lo <;> cases hi <;> cases mx <;> exact k
 ·rename_i t x lo hi
  cases lo <;> cases hi <;> exact k
 ·exact k
 ·exact k
 ·exact k
 ·exact k
 ·exact k
 ·exact k
 ·exact k
 ·exact k
 ·exact k
 ·exact k
def kW (head : St → St) (step : St → Option (AExit × St)) : Nat → St → Option (AExit × St)
 | 0,_ => none
 | n + 1,st => match step st with
  | some (.normal,st) => pE head step n st
  | r => r
theorem uH {head : St → St} {step : St → Option (AExit × St)} (n : Nat) (st : St) : pE head step n st = kW head step n (head st):=by
 cases n <;> rfl
def kV (tr : Bool) (fl n : Nat) (H : Heap) : Prop:=match tr with
 | true => (H.drop fl).map (lC n) = H.drop fl
 | false => True
def vK (live : Option (List Bool)) (tr : Bool) (n : Nat) (st : St) : St:=match tr with
 | true => ⟨(aNo live st.tmps).map (aD1 n),st.heap.take n⟩
 | false => ⟨aNo live st.tmps,st.heap⟩
theorem rQ {live : Option (List Bool)} {tr : Bool} {fl n : Nat} {st : St} (hn : Nat.ble fl n = true) (h : kV tr fl n (vK live tr n st).heap) : kY live tr fl n st = vK live tr n st:=by
 cases tr with
 | false => rfl
 | true =>
  simp only [kV,vK] at h
  simp only [kY,vK,if_true,h]
  congr 1
  have : st.heap.take fl = (st.heap.take n).take fl:=by rw [List.take_take,Nat.min_eq_left (Nat.le_of_ble_eq_true hn)]
  rw [this,List.take_append_drop]
def aAl (lx lr : List Bool) (tr : Bool) (n : Nat) (x : AExit) (st : St) : St:=match x with
 | .ret => ⟨sO lr st.tmps,st.heap⟩
 | .normal => vK (some lx) tr n st
 | .exit _ => vK (some lx) tr n st
def aG8 (tr : Bool) (fl n : Nat) (x : AExit) (H : Heap) : Prop:=match x with
 | .ret => True
 | .normal => kV tr fl n H
 | .exit _ => kV tr fl n H
theorem aGc [GlobT] {lx lr : List Bool} {tr : Bool} {fl n : Nat} {x : AExit} {st : St} (hn : Nat.ble fl n = true) (h : aG8 tr fl n x (aAl lx lr tr n x st).heap) : lT lx lr tr fl n (some (x,st)) = some (x,aAl lx lr tr n x st):=by
 cases x with
 | ret => rfl
 | normal => simp only [lT,aAl]; rw [rQ hn h]
 | exit i => simp only [lT,aAl]; rw [rQ hn h]
def aGg [GlobT] (live : List Bool) (t n : Nat) (st : St) : St :=
 match kG st.tmps (.tmp t) with
 | .ms id tot off len => match Nat.ble n id with
  | true => match st.heap[id]? with
   | some (.blk s es) => ⟨((sO live st.tmps).map (aD1 n)).set t (.ms n tot off len),st.heap.take n ++ [.blk s es]⟩
   | _ => vK (some live) true n st
  | false => vK (some live) true n st
 | _ => vK (some live) true n st
theorem aOf [GlobT] {live : List Bool} {t fl n : Nat} {st : St} (hn : Nat.ble fl n = true) (h : kV true fl n (aGg live t n st).heap) : yA live t fl n st = aGg live t n st:=by
 have hfn:=Nat.le_of_ble_eq_true hn
 unfold aGg at h ⊢
 unfold yA
 split
 ·rename_i id tot off len hx
  simp only [hx] at h ⊢
  split
  ·rename_i hid
   rw [Nat.ble_eq_true_of_le hid] at h ⊢
   simp only at h ⊢
   split
   ·rename_i s es hob
    simp only [hob,kV] at h
    have hlt : id < st.heap.length:=(List.getElem?_eq_some_iff.1 hob).1
    have hl : (st.heap.take n).length = n:=by simp; omega
    rw [List.drop_append_of_le_length (by omega),List.map_append] at h
    have h1:=List.append_inj_left' h (by simp)
    have h2:=List.append_inj_right' h (by simp)
    simp only [List.map_cons,List.map_nil,List.cons.injEq,and_true] at h2
    have hh : st.heap.take fl ++ (st.heap.take n).drop fl = st.heap.take n:=by
     have : st.heap.take fl = (st.heap.take n).take fl:=by rw [List.take_take,Nat.min_eq_left hfn]
     rw [this,List.take_append_drop]
    simp only [hob,h1,h2,hh]
   ·rename_i hob
    split at h
    ·rename_i s es hob'
     exact (hob s es hob').elim
    ·exact rQ hn h
  ·rename_i hid
   have : Nat.ble n id = false:=by
    cases hb : Nat.ble n id with
    | false => rfl
    | true => exact (hid (Nat.le_of_ble_eq_true hb)).elim
   rw [this] at h ⊢
   exact rQ hn h
 ·rename_i hx
  split at h
  ·rename_i id tot off len hx'
   exact (hx id tot off len hx').elim
  ·exact rQ hn h
def aNq : ACode → Option (Option (List Bool) × Bool × ACode)
 | .loop live tr c => some (live,tr,c)
 | _ => none
theorem aNp {c : ACode} {live : Option (List Bool)} {tr : Bool} {b : ACode} (h : aNq c = some (live,tr,b)) : c = .loop live tr b:=by
 cases c <;> simp [aNq] at h
 obtain ⟨rfl,rfl,rfl⟩:=h
 rfl
variable (o : Orc)
def oRun [GlobT] (a : AOper) (s : OSt) : Option OSt :=
 match a.dst with
 | some d => match look d o.O with
  | some (v,h) => some ⟨⟨s.st.tmps.set d v,h.getD s.st.heap⟩,s.L,s.M,stk P cf fl a.op s.st.tmps s.st.heap v h :: s.ps⟩
  | none => match evOp P cf fl a.op s.st.tmps s.st.heap with
   | some (v,H) => some ⟨⟨s.st.tmps.set d v,H⟩,s.L,s.M,s.ps⟩
   | none => none
 | none => match s.M with
  | some H' :: M => some ⟨⟨s.st.tmps,H'⟩,s.L,M,stn P cf fl a.op s.st.tmps s.st.heap H' :: s.ps⟩
  | none :: M => match evOp P cf fl a.op s.st.tmps s.st.heap with
   | some (_,H) => some ⟨⟨s.st.tmps,H⟩,s.L,M,s.ps⟩
   | none => none
  | [] => match evOp P cf fl a.op s.st.tmps s.st.heap with
   | some (_,H) => some ⟨⟨s.st.tmps,H⟩,s.L,[],s.ps⟩
   | none => none
def aQr [GlobT] (a : AOper) (s : OSt) : Option OSt :=
 match a.guard with
 | none => oRun P cf fl o a s
 | some (t,want) => match look t o.B with
  | some b => match b == want with
   | true => oRun P cf fl o a ⟨s.st,s.L,s.M,isB (kG s.st.tmps (.tmp t)) b :: s.ps⟩
   | false => some ⟨⟨putA s.st.tmps a.dst (.lit lI),s.st.heap⟩,s.L,s.M,isB (kG s.st.tmps (.tmp t)) b :: s.ps⟩
  | none => match oL s.st.tmps (some (t,want)) with
   | some true => oRun P cf fl o a s
   | some false => some ⟨⟨putA s.st.tmps a.dst (.lit lI),s.st.heap⟩,s.L,s.M,s.ps⟩
   | none => none
def oOps [GlobT] : List AOper → OSt → Option OSt
 | [],s => some s
 | a :: r,s => match aQr P cf fl o a s with
  | some s => oOps r s
  | none => none
def aH9 [GlobT] : List AOper → OSt → Option (List OSt)
 | [],s => some [s]
 | a :: r,s => match aQr P cf fl o a s with
  | some s1 => match aH9 r s1 with
   | some l => some (s :: l)
   | none => none
  | none => none
def aHs : List OSt → List St
 | [] => []
 | s :: r => s.st :: aHs r
def oReg [GlobT] (ck : List (Nat × Nat)) (ops : List AOper) (s : OSt) : Option OSt:=match ck with
 | [] => oOps P cf fl o ops s
 | c :: r => match aH9 P cf fl o ops s with
  | some l => match aL8 ops (aHs l) (c :: r) with
   | true => l.getLast?
   | false => none
  | none => none
def bD7 (c : AOpd) : Option Bool:=match c with
 | .tmp t => look t o.B
 | _ => none
def oC [GlobT] (lf : Nat) : ACode → OSt → Option (AExit × OSt)
 | .skip,s => some (.normal,s)
 | .region _ ck ops,s => match oReg P cf fl o ck ops s with
  | some s => some (.normal,s)
  | none => none
 | .seq a b,s => match oC lf a s with
  | some (.normal,s) => oC lf b s
  | r => r
 | .cond c a b,s => match bD7 o c with
  | some true => oC lf a ⟨s.st,s.L,s.M,isB (kG s.st.tmps c) true :: s.ps⟩
  | some false => oC lf b ⟨s.st,s.L,s.M,isB (kG s.st.tmps c) false :: s.ps⟩
  | none => match kG s.st.tmps c with
   | .lit (.bool true) => oC lf a s
   | .lit (.bool false) => oC lf b s
   | _ => none
 | .block id c,s => match oC lf c s with
  | some (.exit i,s) => if i = id then some (.normal,s) else some (.exit i,s)
  | r => r
 | .loop live tr c,s => match s.L with
  | (x,st) :: L => some (x,⟨st,L,s.M,(kW (kY live tr fl s.st.heap.length) (evC P cf lf fl c) lf (kY live tr fl s.st.heap.length s.st) = some (x,st)) :: s.ps⟩)
  | [] => none
 | .exit id,s => some (.exit id,s)
 | .ret,s => some (.ret,s)
 | .frz t c,s => match look (t + 100000) o.O with
  | some (v,h) => oC lf c ⟨⟨s.st.tmps.set t v,h.getD s.st.heap⟩,s.L,s.M,(evOp P cf fl (.freeze (.tmp 0)) [kG s.st.tmps (.tmp t)] s.st.heap = some (v,h.getD s.st.heap)) :: s.ps⟩
  | none => match evOp P cf fl (.freeze (.tmp t)) s.st.tmps s.st.heap with
   | some (v,H) => oC lf c ⟨⟨s.st.tmps.set t v,H⟩,s.L,s.M,s.ps⟩
   | none => none
 | .mask lx lr tr c,s => match Nat.ble fl s.st.heap.length with
  | true => match aNq c with
   | some (live,tr',b) => match s.L with
    | (x,st) :: L => some (x,⟨st,L,s.M,(lT lx lr tr fl s.st.heap.length (kW (kY live tr' fl s.st.heap.length) (evC P cf lf fl b) lf (vK live tr' s.st.heap.length s.st)) = some (x,st)) :: kV tr' fl s.st.heap.length (vK live tr' s.st.heap.length s.st).heap :: s.ps⟩)
    | [] => none
   | none => match oC lf c s with
    | some (x,s') => some (x,⟨aAl lx lr tr s.st.heap.length x s'.st,s'.L,s'.M,aG8 tr fl s.st.heap.length x (aAl lx lr tr s.st.heap.length x s'.st).heap :: s'.ps⟩)
    | none => none
  | false => none
 | .scope c,s => oC lf c s
 | .nilIf _ _ _ _ _,_ => none
 | .loopV live lx lr t c,s => match Nat.ble fl s.st.heap.length with
  | true => match s.L with
   | (_,st1) :: (x,st) :: L => some (x,⟨st,L,s.M,(aIa lx lr t fl s.st.heap.length (kW (yA live t fl s.st.heap.length) (evC P cf lf fl c) lf (aGg live t s.st.heap.length st1)) = some (x,st)) :: kV true fl s.st.heap.length (aGg live t s.st.heap.length st1).heap :: (aLg fl t s.st = some st1) :: s.ps⟩)
   | _ => none
  | false => none
 | .stop,_ => none
theorem aH8 [GlobT] {a : AOper} {s s' : OSt} (h : oRun P cf fl o a s = some s') (hp : AllP s'.ps) : (match evOp P cf fl a.op s.st.tmps s.st.heap with
   | some (v,H) => some (⟨putA s.st.tmps a.dst v,H⟩ : St)
   | none => none) = some s'.st ∧ AllP s.ps:=by
 unfold oRun at h
 split at h
 ·rename_i d hd
  split at h
  ·rename_i v h' hl
   cases h
   obtain ⟨h1,h2⟩:=hp
   rw [aV7 P cf fl h1]
   simp only [putA,hd]
   exact ⟨trivial,h2⟩
  ·split at h
   ·rename_i v H he
    cases h
    simp only [putA,hd]
    exact ⟨trivial,hp⟩
   ·cases h
 ·rename_i hd
  simp only [putA,hd]
  split at h
  ·rename_i H' M hM
   cases h
   obtain ⟨h1,h2⟩:=hp
   obtain ⟨v,h3⟩:=aV6 P cf fl h1
   rw [h3]
   exact ⟨rfl,h2⟩
  ·split at h
   ·rename_i u H he
    cases h
    simp only
    exact ⟨trivial,hp⟩
   ·cases h
  ·split at h
   ·rename_i u H he
    cases h
    simp only
    exact ⟨trivial,hp⟩
   ·cases h
theorem aJn [GlobT] {a : AOper} {s s' : OSt} (h : aQr P cf fl o a s = some s') (hp : AllP s'.ps) : mB P cf fl a s.st = some s'.st ∧ AllP s.ps:=by
 unfold aQr at h
 unfold mB
 split at h
 ·rename_i hg
  rw [hg]
  simp only [oL]
  exact aH8 P cf fl o h hp
 ·rename_i t want hg
  rw [hg]
  split at h
  ·rename_i b hb
   split at h
   ·rename_i hw
    obtain ⟨h1,h2⟩:=aH8 P cf fl o h hp
    obtain ⟨h3,h4⟩:=h2
    have h5:=aJt h3
    simp only [oL,h5,hw]
    exact ⟨h1,h4⟩
   ·rename_i hw
    cases h
    obtain ⟨h3,h4⟩:=hp
    have h5:=aJt h3
    simp only [oL,h5,hw]
    exact ⟨trivial,h4⟩
  ·split at h
   ·rename_i hw
    rw [hw]
    exact aH8 P cf fl o h hp
   ·rename_i hw
    rw [hw]
    cases h
    exact ⟨rfl,hp⟩
   ·cases h
theorem aNf [GlobT] : ∀ (l : List AOper) (s s' : OSt),oOps P cf fl o l s = some s' → AllP s'.ps → oP P cf fl l s.st = some s'.st ∧ AllP s.ps
 | [],s,s',h,hp => by cases h; exact ⟨rfl,hp⟩
 | a :: r,s,s',h,hp => by
  simp only [oOps] at h
  split at h
  ·rename_i s1 h1
   obtain ⟨k1,k2⟩:=aNf r s1 s' h hp
   obtain ⟨k3,k4⟩:=aJn P cf fl o h1 k2
   simp only [oP,k3]
   exact ⟨k1,k4⟩
  ·cases h
theorem aJm [GlobT] : ∀ (l : List AOper) (s : OSt) (q : List OSt) (s' : OSt),aH9 P cf fl o l s = some q → q.getLast? = some s' → AllP s'.ps → pX P cf fl l s.st = some (aHs q) ∧ (aHs q).getLast? = some s'.st ∧ AllP s.ps
 | [],s,q,s',h,hl,hp => by
  simp only [aH9,Option.some.injEq] at h
  subst h
  simp only [List.getLast?_singleton,Option.some.injEq] at hl
  subst hl
  exact ⟨rfl,rfl,hp⟩
 | a :: r,s,q,s',h,hl,hp => by
  simp only [aH9] at h
  split at h
  ·rename_i s1 h1
   split at h
   ·rename_i l1 h2
    cases h
    have hne : l1 ≠ []:=by
     intro e
     subst e
     cases r with
     | nil => simp [aH9] at h2
     | cons b r =>
      simp only [aH9] at h2
      split at h2
      ·split at h2 <;> cases h2
      ·cases h2
    rw [List.getLast?_cons_of_ne_nil hne] at hl
    obtain ⟨k1,k2,k3⟩:=aJm r s1 l1 s' h2 hl hp
    obtain ⟨k4,k5⟩:=aJn P cf fl o h1 k3
    have hne2 : aHs l1 ≠ []:=by
     cases l1 with
     | nil => exact (hne rfl).elim
     | cons b r => simp [aHs]
    refine ⟨by simp only [pX,k4,k1]; rfl,?_,k5⟩
    show (s.st :: aHs l1).getLast? = _
    rw [List.getLast?_cons_of_ne_nil hne2]
    exact k2
   ·cases h
  ·cases h
theorem aUj [GlobT] {ck : List (Nat × Nat)} {ops : List AOper} {s s' : OSt} (h : oReg P cf fl o ck ops s = some s') (hp : AllP s'.ps) : sP P cf fl ck ops s.st = some s'.st ∧ AllP s.ps:=by
 unfold oReg at h
 unfold sP
 split at h
 ·exact aNf P cf fl o ops s s' h hp
 ·split at h
  ·rename_i l hl
   split at h
   ·rename_i hck
    obtain ⟨k1,k2,k3⟩:=aJm P cf fl o ops s l s' hl h hp
    simp only [k1,hck]
    exact ⟨k2,k3⟩
   ·cases h
  ·cases h
theorem tB [GlobT] (lf : Nat) : ∀ (c : ACode) (s : OSt) (x : AExit) (s' : OSt),oC P cf fl o lf c s = some (x,s') → AllP s'.ps → evC P cf lf fl c s.st = some (x,s'.st) ∧ AllP s.ps
 | .skip,s,x,s',h,hp => by cases h; exact ⟨rfl,hp⟩
 | .region _ ck ops,s,x,s',h,hp => by
  simp only [oC] at h
  split at h
  ·rename_i s1 h1
   cases h
   obtain ⟨k1,k2⟩:=aUj P cf fl o h1 hp
   simp only [evC,k1]
   exact ⟨trivial,k2⟩
  ·cases h
 | .seq a b,s,x,s',h,hp => by
  simp only [oC] at h
  split at h
  ·rename_i s1 h1
   obtain ⟨k1,k2⟩:=tB lf b s1 x s' h hp
   obtain ⟨k3,k4⟩:=tB lf a s _ s1 h1 k2
   simp only [evC,k3]
   exact ⟨k1,k4⟩
  ·rename_i hn
   obtain ⟨k3,k4⟩:=tB lf a s x s' h hp
   simp only [evC,k3]
   cases x with
   | normal => exact (hn _ h).elim
   | exit => exact ⟨rfl,k4⟩
   | ret => exact ⟨rfl,k4⟩
 | .cond c a b,s,x,s',h,hp => by
  simp only [oC] at h
  split at h
  ·obtain ⟨k1,k2,k3⟩:=tB lf a _ x s' h hp
   simp only [evC,aJt k2]
   exact ⟨k1,k3⟩
  ·obtain ⟨k1,k2,k3⟩:=tB lf b _ x s' h hp
   simp only [evC,aJt k2]
   exact ⟨k1,k3⟩
  ·split at h
   ·rename_i hg
    obtain ⟨k1,k2⟩:=tB lf a _ x s' h hp
    simp only [evC,hg]
    exact ⟨k1,k2⟩
   ·rename_i hg
    obtain ⟨k1,k2⟩:=tB lf b _ x s' h hp
    simp only [evC,hg]
    exact ⟨k1,k2⟩
   ·cases h
 | .block id c,s,x,s',h,hp => by
  simp only [oC] at h
  split at h
  ·rename_i i s1 h1
   have hs : s1 = s':=by
    split at h
    ·cases h; rfl
    ·cases h; rfl
   subst hs
   obtain ⟨k1,k2⟩:=tB lf c s _ s1 h1 hp
   simp only [evC,k1]
   split at h
   ·rename_i hi; cases h; rw [if_pos hi]; exact ⟨rfl,k2⟩
   ·rename_i hi; cases h; rw [if_neg hi]; exact ⟨rfl,k2⟩
  ·rename_i hn
   obtain ⟨k3,k4⟩:=tB lf c s x s' h hp
   simp only [evC,k3]
   cases x with
   | normal => exact ⟨rfl,k4⟩
   | exit i => exact (hn _ _ h).elim
   | ret => exact ⟨rfl,k4⟩
 | .loop live tr c,s,x,s',h,hp => by
  simp only [oC] at h
  split at h
  ·rename_i y st L hL
   cases h
   obtain ⟨h1,h2⟩:=hp
   exact ⟨by simp only [evC]; rw [uH]; exact h1,h2⟩
  ·cases h
 | .exit id,s,x,s',h,hp => by cases h; exact ⟨rfl,hp⟩
 | .ret,s,x,s',h,hp => by cases h; exact ⟨rfl,hp⟩
 | .frz t c,s,x,s',h,hp => by
  simp only [oC] at h
  split at h
  ·rename_i v h' hl
   obtain ⟨k1,k2,k3⟩:=tB lf c _ x s' h hp
   have k2' : evOp P cf fl (.freeze (.tmp t)) s.st.tmps s.st.heap = some (v,h'.getD s.st.heap):=k2
   simp only [evC,k2']
   exact ⟨k1,k3⟩
  ·split at h
   ·rename_i v H he
    obtain ⟨k1,k2⟩:=tB lf c _ x s' h hp
    simp only [evC,he]
    exact ⟨k1,k2⟩
   ·cases h
 | .mask lx lr tr c,s,x,s',h,hp => by
  simp only [oC] at h
  split at h
  ·rename_i hn
   split at h
   ·rename_i live tr' b hl
    have:=aNp hl
    subst this
    split at h
    ·rename_i y st L hL
     cases h
     obtain ⟨h1,h2,h3⟩:=hp
     refine ⟨?_,h3⟩
     simp only [evC]
     rw [uH,rQ hn h2]
     exact h1
    ·cases h
   ·split at h
    ·rename_i y s1 h1
     cases h
     obtain ⟨h2,h3⟩:=hp
     obtain ⟨k1,k2⟩:=tB lf c s _ s1 h1 h3
     simp only [evC,k1]
     exact ⟨aGc hn h2,k2⟩
    ·cases h
  ·cases h
 | .nilIf _ _ _ _ _,s,x,s',h,hp => by simp only [oC] at h; cases h
 | .scope c,s,x,s',h,hp => by
  simp only [oC] at h
  simp only [evC]
  exact tB lf c s x s' h hp
 | .loopV live lx lr t c,s,x,s',h,hp => by
  simp only [oC] at h
  split at h
  ·rename_i hn
   split at h
   ·rename_i y0 st1 y st L hL
    cases h
    obtain ⟨h1,h2,h3,h4⟩:=hp
    refine ⟨?_,h4⟩
    simp only [evC,h3]
    rw [uH,aOf hn h2]
    exact h1
   ·cases h
  ·cases h
 | .stop,s,x,s',h,hp => by simp only [oC] at h; cases h
end
def oF [GlobT] (P : Program) (T : List AFun) (n : Nat) (o : Orc) (L : List (AExit × St)) (M : List (Option Heap)) (F : AFun) (args : List AV) : Option (AV × List Prop) :=
 match oC P (evF P T n) 0 o n F.body ⟨⟨args ++ List.replicate (F.nt - args.length) (.lit lI),[]⟩,L,M,[]⟩ with
 | some (x,s) => match aP6 (finA F (some (x,s.st))) with
  | some r => some (r,s.ps)
  | none => none
 | none => none
theorem pv_o [GlobT] {P : Program} {T : List AFun} {n vi : Nat} {args : List AV} {r : AV} {ps : List Prop} {F : AFun} (o : Orc) (L : List (AExit × St)) (M : List (Option Heap)) (hF : getF T vi = some F) (h : oF P T n o L M F args = some (r,ps)) (hp : AllP ps) : pv P T (n + 1) vi args = some r:=by
 rw [aWg F hF]
 unfold oF at h
 split at h
 ·rename_i x s hs
  split at h
  ·rename_i r' hr
   cases h
   obtain ⟨k,_⟩:=tB P (evF P T n) 0 o n F.body _ x s hs hp
   rw [k]
   exact hr
  ·cases h
 ·cases h
def oE [GlobT] (P : Program) (T : List AFun) (n : Nat) (o : Orc) (L : List (AExit × St)) (M : List (Option Heap)) (F : AFun) (fl : Nat) (args : List AV) (H : Heap) : Option (AV × Heap × List Prop) :=
 match oC P (evF P T n) fl o n F.body ⟨⟨args ++ List.replicate (F.nt - args.length) (.lit lI),H⟩,L,M,[]⟩ with
 | some (x,s) => match finA F (some (x,s.st)) with
  | some (r,H') => some (r,H',s.ps)
  | none => none
 | none => none
theorem bD0 [GlobT] {P : Program} {T : List AFun} {n fl vi : Nat} {args : List AV} {H H' : Heap} {r : AV} {ps : List Prop} {F : AFun} (o : Orc) (L : List (AExit × St)) (M : List (Option Heap)) (hF : getF T vi = some F) (h : oE P T n o L M F fl args H = some (r,H',ps)) (hp : AllP ps) : evF P T (n + 1) fl vi args H = some (r,H'):=by
 rw [aS9 F hF]
 unfold oE at h
 split at h
 ·rename_i x s hs
  split at h
  ·rename_i r' H'' hr
   cases h
   obtain ⟨k,_⟩:=tB P (evF P T n) fl o n F.body _ x s hs hp
   rw [k]
   exact hr
  ·cases h
 ·cases h
def oB [GlobT] (P : Program) (cf : Nat → Nat → List AV → Heap → Option (AV × Heap)) (lf fl : Nat) (head : St → St) (o : Orc) (L : List (AExit × St)) (M : List (Option Heap)) (c : ACode) (st : St) : Option (AExit × St × List Prop) :=
 match oC P cf fl o lf c ⟨st,L,M,[]⟩ with
 | some (.normal,s) => some (.normal,head s.st,s.ps)
 | some (x,s) => some (x,s.st,s.ps)
 | none => none
theorem aWs [GlobT] {P : Program} {cf : Nat → Nat → List AV → Heap → Option (AV × Heap)} {lf fl : Nat} {head : St → St} {c : ACode} {st st' : St} {ps : List Prop} (o : Orc) (L : List (AExit × St)) (M : List (Option Heap)) (h : oB P cf lf fl head o L M c st = some (.normal,st',ps)) (hp : AllP ps) : aNl head (evC P cf lf fl c st) st':=by
 unfold oB at h
 split at h
 ·rename_i s hs
  cases h
  obtain ⟨k,_⟩:=tB P cf fl o lf c _ _ s hs hp
  rw [k]
  rfl
 ·rename_i x s hn hs
  cases h
  exact (hn rfl).elim
 ·cases h
theorem aWt [GlobT] {P : Program} {cf : Nat → Nat → List AV → Heap → Option (AV × Heap)} {lf fl n m : Nat} {live : Option (List Bool)} {tr : Bool} {c : ACode} {st st' : St} {ps : List Prop} {r : Option (AExit × St)} (o : Orc) (L : List (AExit × St)) (M : List (Option Heap)) (hn : Nat.ble fl n = true) (h : oB P cf lf fl (vK live tr n) o L M c st = some (.normal,st',ps)) (hp : AllP ps)
  (hc : kV tr fl n st'.heap) (hr : kW (kY live tr fl n) (evC P cf lf fl c) m st' = r) : kW (kY live tr fl n) (evC P cf lf fl c) (m + 1) st = r:=by
 have:=aWs o L M h hp
 obtain ⟨s,e1,e2⟩:=aNk this
 subst e2
 simp only [kW,e1]
 rw [uH,rQ hn hc]
 exact hr
def oX [GlobT] (P : Program) (cf : Nat → Nat → List AV → Heap → Option (AV × Heap)) (lf fl n : Nat) (lx lr : List Bool) (tr : Bool) (o : Orc) (L : List (AExit × St)) (M : List (Option Heap)) (c : ACode) (st : St) : Option (AExit × St × List Prop) :=
 match oC P cf fl o lf c ⟨st,L,M,[]⟩ with
 | some (x,s) => match x with
  | .normal => none
  | x => some (x,aAl lx lr tr n x s.st,s.ps)
 | none => none
theorem aWy [GlobT] {P : Program} {cf : Nat → Nat → List AV → Heap → Option (AV × Heap)} {lf fl n m : Nat} {live : Option (List Bool)} {tr tr' : Bool} {lx lr : List Bool} {c : ACode} {st st' : St} {x : AExit} {ps : List Prop} (o : Orc) (L : List (AExit × St)) (M : List (Option Heap)) (hn : Nat.ble fl n = true) (h : oX P cf lf fl n lx lr tr o L M c st = some (x,st',ps)) (hp : AllP ps)
  (hc : aG8 tr fl n x st'.heap) : lT lx lr tr fl n (kW (kY live tr' fl n) (evC P cf lf fl c) (m + 1) st) = some (x,st'):=by
 unfold oX at h
 split at h
 ·rename_i y s hs
  have hk:=(tB P cf fl o lf c _ _ s hs (by
   split at h
   ·cases h
   ·cases h; exact hp)).1
  split at h
  ·cases h
  ·rename_i hne
   cases h
   have : kW (kY live tr' fl n) (evC P cf lf fl c) (m + 1) st = some (x,s.st):=by
    simp only [kW,hk]
    cases x with
    | normal => exact (hne rfl).elim
    | exit i => rfl
    | ret => rfl
   rw [this]
   exact aGc hn hc
 ·cases h
end Go.Proofs.YtkdnaejhpcibnaaGreatDoor.Av
namespace Go.Proofs.YtkdnaejhpcibnaaGreatDoor.Av
open Go
abbrev iv (n : Int) : AV:=.lit (.int .i64 n)
abbrev bv (b : Bool) : AV:=.lit (.bool b)
abbrev sv (s : ByteArray) : AV:=.lit (.string s)
def bnd {α β : Type} (x : Option α) (f : α → Option β) : Option β:=match x with
 | some a => f a
 | none => none
theorem kE {α β : Type} {x : Option α} {f : α → Option β} {r : β} (h : bnd x f = some r) : ∃ a,x = some a ∧ f a = some r:=by
 cases x with
 | none => cases h
 | some a => exact ⟨a,rfl,h⟩
theorem kK {α β : Type} {x : Option α} {f : α → Option β} {a : α} (h : x = some a) : bnd x f = f a:=by rw [h]; rfl
def bnd2 {α β γ : Type} (x : Option (α ⊕ β)) (f : α → Option γ) (g : β → Option γ) : Option γ:=match x with
 | some (.inl a) => f a
 | some (.inr b) => g b
 | none => none
theorem kQ {α β γ : Type} {x : Option (α ⊕ β)} {f : α → Option γ} {g : β → Option γ} {r : γ} (h : bnd2 x f g = some r) : (∃ a,x = some (.inl a) ∧ f a = some r) ∨ (∃ a,x = some (.inr a) ∧ g a = some r):=by
 match x,h with
 | some (.inl a),h => exact .inl ⟨a,rfl,h⟩
 | some (.inr a),h => exact .inr ⟨a,rfl,h⟩
def cnd {α : Type} (b : Bool) (x y : α) : α:=match b with
 | true => x
 | false => y
theorem sF {α : Type} {b : Bool} {x y : α} : cnd b x y = if b then x else y:=by cases b <;> rfl
theorem lV {e b : Bool} (h : e = b) : some (AV.lit (.bool e)) = some (AV.lit (.bool b)):=by rw [h]
theorem uO [GlobT] {P : Program} {T : List AFun} {n vi : Nat} {args : List AV} {r r' : AV} {H' : Heap} (h : evF P T n 0 vi args [] = some (r,H')) (hs : nW H' 0 r = r') : pv P T n vi args = some r':=by
 unfold pv; rw [h,← hs]
def imax (a b : Int) : Int:=if a < b then b else a
theorem aMi (a b : ByteArray) : (a.toList == b.toList) = decide (a = b):=by
 by_cases h : a = b
 ·subst h; simp
 ·rw [decide_eq_false h]
  simp only [beq_eq_false_iff_ne,ne_eq]
  intro e
  apply h
  simp only [ByteArray.toList_eq] at e
  exact ByteArray.ext (Array.toList_inj.1 e)
section
variable {P : Program} {cf : Nat → Nat → List AV → Heap → Option (AV × Heap)} {fl : Nat} {H : Heap} {t : TypeId} {a b : ByteArray} {r : Bool}
theorem lL [GlobT] (h : decide (a = b) = r) : evOp P cf fl (.bin .eql t (.tmp 0) (.tmp 1)) [sv a,sv b] H = some (bv r,H):=by
 simp only [evOp,kG,List.getElem?_cons_zero,List.getElem?_cons_succ,lits,qS,if_true,aWk,aWi,aMi,h]
theorem lF [GlobT] (h : decide (a = b) = r) : evOp P cf fl (.bin .neq t (.tmp 0) (.tmp 1)) [sv a,sv b] H = some (bv (!r),H):=by
 simp only [evOp,kG,List.getElem?_cons_zero,List.getElem?_cons_succ,lits,qS,if_true,aWk,aWh,aMi,h]
end
def idx {α : Type} (l : List α) (i : Int) : Option α:=if 0 ≤ i then l[i.toNat]? else none
theorem aOb {α : Type} (l : List α) (i : Nat) : idx l (i : Int) = l[i]?:=by simp [idx]
theorem aJv {α : Type} {l : List α} {i : Int} {x : α} (h : idx l i = some x) : 0 ≤ i ∧ l[i.toNat]? = some x ∧ i.toNat < l.length:=by
 unfold idx at h
 split at h
 ·rename_i hi
  refine ⟨hi,h,?_⟩
  rcases Nat.lt_or_ge i.toNat l.length with h1 | h1
  ·exact h1
  ·rw [List.getElem?_eq_none h1] at h; cases h
 ·cases h
section
variable {α : Type} {c : α → List AV} {H : Heap} {fl id s : Nat} {l l' m : List α} {i : Int} {x : α} {f : Bool}
theorem idxl [GlobT] (h : idx l i = some x) (hs : (c x).length = s) : idxA H s (.sl f (l.map c)) (.lit (.int .i64 i)) = some (.rptr (c x)):=by
 obtain ⟨h1,h2,_⟩:=aJv h
 simp [idxA,oI,h1,h2,hs]
def idxK {α : Type} (l : List α) (k : Nat) (i : Int) : Option α:=if 0 ≤ i ∧ i.toNat < k then l[i.toNat]? else none
theorem aAw {k : Nat} (h : idxK l k i = some x) : 0 ≤ i ∧ i.toNat < k ∧ l[i.toNat]? = some x ∧ i.toNat < l.length:=by
 unfold idxK at h
 split at h
 ·rename_i hi
  refine ⟨hi.1,hi.2,h,?_⟩
  rcases Nat.lt_or_ge i.toNat l.length with h1 | h1
  ·exact h1
  ·rw [List.getElem?_eq_none h1] at h; cases h
 ·cases h
theorem uP [GlobT] {k : Nat} (h : idxK l k i = some x) (hH : H[id]? = some (.blk s (l.map c))) : idxA H s (.ms id l.length 0 k) (.lit (.int .i64 i)) = some (.ptr id l.length (0 + i.toNat) 0):=by
 obtain ⟨h1,h2,_,_⟩:=aAw h
 simp [idxA,oI,h1,hH,h2]
theorem kP [GlobT] {P : Program} {cf : Nat → Nat → List AV → Heap → Option (AV × Heap)} : evOp P cf fl (.lenS (.tmp 0)) [.sl f (l.map c)] H = some (iv l.length,H):=by
 show some (AV.lit (.int .i64 ((l.map c).length : Nat)),H) = _
 rw [List.length_map]
def app {α : Type} (l m : List α) : Option (List α):=if l.length + m.length ≤ 1000000 then some (l ++ m) else none
theorem aFm (h : app l m = some l') : l' = l ++ m ∧ l.length + m.length ≤ 1000000:=by
 unfold app at h
 split at h
 ·cases h; exact ⟨rfl,by assumption⟩
 ·cases h
theorem qK (h : l.length + m.length ≤ 1000000) : app l m = some (l ++ m):=by simp [app,h]
theorem uK (hc : ∀ x,(c x).length = s) : pG s (l.map c) = true:=by
 simp [pG,hc]
theorem xM [GlobT] {bytes : Nat} (h : app l m = some l') (hH : H[id]? = some (.blk s (l.map c))) (hc : ∀ x,(c x).length = s) (hs : 0 < s) (hb : bytes ≤ 100000) (hfl : fl ≤ id) :
  lW fl H s bytes (.ms id l.length 0 l.length) (m.map c) = some (.ms id l'.length 0 l'.length,H.set id (.blk s (l'.map c))):=by
 obtain ⟨rfl,hl⟩:=aFm h
 have hmul : ∀ a,a ≤ 1000000 → a * bytes ≤ 2 ^ 40:=by
  intro a ha
  have:=Nat.mul_le_mul ha hb
  omega
 have h1:=aMd (fl:=fl) (bytes:=bytes) (tot:=l.length) (ys:=m.map c) hH (by simp) (uK hc) hs (by simp [room]; exact ⟨hmul _ (by omega),by omega⟩) (by simp [room]; exact ⟨hmul _ (by omega),by omega⟩) hfl
 rw [h1]
 simp
theorem aRx {bytes : Nat} {x : AV} (h : List.isEmpty m = true) (hc : ∀ x,(c x).length = s) (hs : 0 < s) (hx : x = .lit nilS ∨ x = .sl true []) : lW fl H s bytes x (m.map c) = some (x,H):=by
 have : m = []:=List.isEmpty_iff.1 h
 subst this
 rcases hx with rfl | rfl <;> simp [lW,pG,hs,room,nilS]
theorem aMe [GlobT] {bytes : Nat} {x : AV} (h : app ([] : List α) m = some l') (he : List.isEmpty m = false) (hc : ∀ x,(c x).length = s) (hs : 0 < s) (hb : bytes ≤ 100000) (hx : x = .lit nilS ∨ x = .sl true []) :
  lW fl H s bytes x (m.map c) = some (.ms H.length l'.length 0 l'.length,H ++ [.blk s (l'.map c)]):=by
 obtain ⟨e,hl⟩:=aFm h
 rw [List.nil_append] at e
 subst e
 have h0 : (l'.map c).length ≠ 0:=by
  intro h1
  have : l' = []:=by simpa using h1
  rw [this] at he
  simp at he
 have hmul : ∀ a,a ≤ 1000000 → a * bytes ≤ 2 ^ 40:=by
  intro a ha
  have:=Nat.mul_le_mul ha hb
  omega
 simp only [List.length_nil,Nat.zero_add] at hl
 have r1 : room (l'.map c).length bytes = true:=by simp [room]; exact ⟨hmul _ (by omega),by omega⟩
 rcases hx with rfl | rfl
 ·unfold lW nilS
  simp only [uK hc,hs,r1,h0,and_self,if_true,if_false]
  simp only [List.length_map]
 ·unfold lW
  have ha : pG s ([] : List (List AV)) = true:=rfl
  simp only [uK hc,hs,r1,h0,ha,and_self,if_true,if_false,List.length_nil,Nat.zero_add,List.nil_append]
  simp only [List.length_map]
theorem aT3 [GlobT] {P : Program} {cf : Nat → Nat → List AV → Heap → Option (AV × Heap)} {off n k : Nat} {x' : α} {v : AV} {cs : List AV} (h : idxK l k i = some x) (hH : H[id]? = some (.blk s (l.map c))) (hfl : fl ≤ id) (hv : cellsOf v = some cs) (hx : lG (c x) off (cs.map nrm) = c x') (hn : cs.length = n ∧ off + cs.length ≤ (c x).length) (hnrm : cs.map nrm = cs) :
  evOp P cf fl (.store n (.tmp 0) (.tmp 1)) [.ptr id l.length (0 + i.toNat) off,v] H = some (.lit lI,H.set id (.blk s ((l.set i.toNat x').map c))):=by
 obtain ⟨h1,h2,h3,h4⟩:=aAw h
 have h5 : (l.map c)[0 + i.toNat]? = some (c x):=by simp [h3]
 rw [hnrm] at hx
 simp only [evOp,kG,List.getElem?_cons_zero,List.getElem?_cons_succ,hv,hn.1,if_true,vA,hfl,hH,List.length_map,h5,hn.2,hx]
 have : (l.map c).set (0 + i.toNat) (c x') = (l.set i.toNat x').map c:=by rw [Nat.zero_add,List.map_set]
 have h6 : off + n ≤ (c x).length:=by have:=hn.2; rw [hn.1] at this; exact this
 rw [this,if_pos h6]
def grd (b : Bool) : Option Unit:=match b with
 | true => some ()
 | false => none
theorem aQx {b : Bool} {u : Unit} (h : grd b = some u) : b = true:=by cases b <;> first | rfl | cases h
def prd (n : Nat) : Option Nat:=match n with
 | 0 => none
 | k + 1 => some k
theorem lD {n k : Nat} (h : prd n = some k) : n = k + 1:=by
 cases n with
 | zero => cases h
 | succ n => cases h; rfl
def cut {α : Type} (l : List α) (lo hi : Int) : Option (List α):=if 0 ≤ lo ∧ lo ≤ hi ∧ hi ≤ l.length then some ((l.take hi.toNat).drop lo.toNat) else none
theorem aIt (hc : ∀ x,(c x).length = s) : vL s (l.map c) = true:=by
 cases l with
 | nil => rfl
 | cons x r => simp [vL,hc]
theorem yN [GlobT] {lo hi : Option Nat} {L Hh : Nat} (hl : lo.getD 0 = L) (hh : hi.getD l.length = Hh) (h1 : L ≤ Hh) (h2 : Hh ≤ l.length) (hc : ∀ x,(c x).length = s) : uN H s (.sl false (l.map c)) lo hi none = some (.sl false (((l.take Hh).drop L).map c)):=by
 unfold uN
 simp only [List.length_map,hl,hh,h1,h2,aIt hc,and_self,if_true,Bool.false_and,List.map_drop,List.map_take]
section
variable {P : Program} {cf : Nat → Nat → List AV → Heap → Option (AV × Heap)} {lo hi : Int} {w y z : AV}
theorem aDa [GlobT] (h : cut l lo ((l.length : Nat) : Int) = some l') (hc : ∀ x,(c x).length = s) : evOp P cf fl (.slice s (.tmp 0) (some (.tmp 1)) none none) [.sl false (l.map c),iv lo,y,z] H = some (.sl false (l'.map c),H):=by
 unfold cut at h
 split at h
 ·rename_i hb
  cases h
  simp only [evOp,kG,nY,oI,List.getElem?_cons_zero,List.getElem?_cons_succ,hb.1,if_true]
  rw [yN (L:=lo.toNat) (Hh:=l.length) rfl rfl (by omega) (by omega) hc]
  simp
 ·cases h
theorem aLa [GlobT] (h : cut l 0 hi = some l') (hc : ∀ x,(c x).length = s) : evOp P cf fl (.slice s (.tmp 0) none (some (.tmp 2)) none) [.sl false (l.map c),w,iv hi,z] H = some (.sl false (l'.map c),H):=by
 unfold cut at h
 split at h
 ·rename_i hb
  cases h
  have h1 : (0 : Int) ≤ hi:=by omega
  simp only [evOp,kG,nY,oI,List.getElem?_cons_zero,List.getElem?_cons_succ,h1,if_true]
  rw [yN (L:=0) (Hh:=hi.toNat) rfl rfl (by omega) (by omega) hc]
  simp
 ·cases h
theorem aWl [GlobT] {a b : Int} : evOp P cf fl (.minmax true [.tmp 0,.tmp 1]) [iv a,iv b] H = some (iv (imax a b),H):=by
 simp [evOp,kG,litL,aWj,imax]
end
theorem oJ (hH : H[id]? = some (.blk s (l.map c))) (hp : ∀ x,(c x).map (rJ H 0 5) = c x) : mV H 0 (.ms id l.length 0 l.length) = .sl false (l.map c):=by
 have h1 : (l.map c).length = l.length:=by simp
 simp only [mV,Nat.not_lt_zero,if_false,vY,rJ,Nat.zero_le,if_true,rd,hH,h1,List.drop_zero]
 rw [List.take_of_length_le (by omega)]
 congr 1
 rw [List.map_map]
 exact List.map_congr_left fun x _ => hp x
theorem aIe [GlobT] {P : Program} {cf : Nat → Nat → List AV → Heap → Option (AV × Heap)} {off n k : Nat} {agg : Bool} {v : AV} (h : idxK l k i = some x) (hH : H[id]? = some (.blk s (l.map c))) (ho : off + n ≤ (c x).length)
  (hv : (if agg then some (AV.agg (((c x).drop off).take n)) else match ((c x).drop off).take n with | [y] => some y | _ => none) = some v) :
  evOp P cf fl (.load agg n (.tmp 0)) [.ptr id l.length (0 + i.toNat) off] H = some (v,H):=by
 obtain ⟨h1,h2,h3,h5⟩:=aAw h
 have h4 : (l.map c)[0 + i.toNat]? = some (c x):=by simp [h3]
 simp only [evOp,kG,List.getElem?_cons_zero,oD,hH,List.length_map,if_true,h4,ho]
 cases agg with
 | true => simp only [if_true] at hv ⊢; cases hv; rfl
 | false =>
  simp only [Bool.false_eq_true,if_false] at hv ⊢
  split at hv
  ·rename_i y hy
   cases hv
   rw [hy]
  ·cases hv
end
end Go.Proofs.YtkdnaejhpcibnaaGreatDoor.Av
namespace Go.Proofs.YtkdnaejhpcibnaaGreatDoor.Av
open Go
section
variable {K V : Type} [DecidableEq K]
def mget (m : List (K × V)) (k : K) : Option V:=match m with
 | [] => none
 | (k',v) :: r => if k' = k then some v else mget r k
def mput (m : List (K × V)) (k : K) (v : V) : List (K × V):=match m with
 | [] => [(k,v)]
 | (k',v') :: r => if k' = k then (k,v) :: r else (k',v') :: mput r k v
theorem aJp [GlobT] (k k' : K) (v : V) : ∀ m : List (K × V),mget (mput m k v) k' = if k = k' then some v else mget m k'
 | [] => by simp [mput,mget]
 | (a,b) :: r => by
  simp only [mput]
  split
  ·rename_i h
   subst h
   simp only [mget]
   split <;> rfl
  ·rename_i h
   simp only [mget,aJp k k' v r]
   split
   ·rename_i h1
    subst h1
    rw [if_neg fun h2 => h h2.symm]
   ·rfl
def entL (kv : K → Value) (va : V → AV) (m : List (K × V)) : List (Value × AV):=m.map fun p => (kv p.1,va p.2)
structure KeyOK (P : Program) (kt : TypeId) (kv : K → Value) : Prop where
 find : ∀ (k : K) (ks : List K),pT P kt (kv k) (ks.map fun x => (kv x,AV.undef)) = some (ks.findIdx? fun x => decide (x = k))
 chk : ∀ (e : Bool) (k : K),kM P (Instr.checkKey e 10000 kt (kv k)) = some ()
 same : ∀ k : K,Instr.sameBits 10000 (kv k) (kv k) = true
theorem aLw {P : Program} {kt : TypeId} {k : Value} {e1 e2 : List (Value × AV)} (h : e1.map (·.1) = e2.map (·.1)) : pT P kt k e1 = pT P kt k e2:=by
 unfold pT
 have : (e1.map fun e => ({ key:=e.1,val:=.bool false,born:=0 } : MapEntry)) = e2.map fun e => { key:=e.1,val:=.bool false,born:=0 }:=by
  have e : ∀ l : List (Value × AV),(l.map fun e => ({ key:=e.1,val:=.bool false,born:=0 } : MapEntry)) = (l.map (·.1)).map fun k => { key:=k,val:=.bool false,born:=0 }:=fun l => by simp
  rw [e,e,h]
 rw [this]
theorem aJz [GlobT] {P : Program} {kt : TypeId} {kv : K → Value} (hk : KeyOK P kt kv) (va : V → AV) (k : K) (m : List (K × V)) : pT P kt (kv k) (entL kv va m) = some (m.findIdx? fun p => decide (p.1 = k)):=by
 rw [aLw (e2:=(m.map (·.1)).map fun x => (kv x,AV.undef)) (by simp [entL]),hk.find]
 congr 1
 rw [List.findIdx?_map]
 rfl
theorem aEi [GlobT] (k : K) : ∀ m : List (K × V),(mget m k = none ∧ m.findIdx? (fun p => decide (p.1 = k)) = none) ∨ ∃ i v,mget m k = some v ∧ m.findIdx? (fun p => decide (p.1 = k)) = some i ∧ m[i]? = some (k,v)
 | [] => .inl ⟨rfl,rfl⟩
 | (a,b) :: r => by
  simp only [mget,List.findIdx?_cons]
  by_cases h : a = k
  ·subst h
   exact .inr ⟨0,b,by simp,by simp,rfl⟩
  ·rw [if_neg h,decide_eq_false h]
   simp only [Bool.false_eq_true,if_false]
   rcases aEi k r with ⟨h1,h2⟩ | ⟨i,v,h1,h2,h3⟩
   ·exact .inl ⟨h1,by simp [h2]⟩
   ·exact .inr ⟨i + 1,v,h1,by simp [h2],by simpa using h3⟩
theorem aJo [GlobT] (k : K) (v : V) : ∀ m : List (K × V),mput m k v = match m.findIdx? (fun p => decide (p.1 = k)) with | some i => m.set i (k,v) | none => m ++ [(k,v)]
 | [] => rfl
 | (a,b) :: r => by
  simp only [mput,List.findIdx?_cons]
  by_cases h : a = k
  ·subst h
   simp
  ·rw [if_neg h,decide_eq_false h,aJo k v r]
   simp only [Bool.false_eq_true,if_false]
   cases r.findIdx? fun p => decide (p.1 = k) with
   | none => simp
   | some i => simp
variable {P : Program} {cf : Nat → Nat → List AV → Heap → Option (AV × Heap)} {fl id : Nat} {H : Heap} {kt : TypeId} {kv : K → Value} {va : V → AV} {m : List (K × V)} {x : AV} {k : K}
theorem aEk [GlobT] (hk : KeyOK P kt kv) (z : V) (hx : lits x = some (kv k)) (hH : H[id]? = some (.mp (entL kv va m))) : evOp P cf fl (.lookup kt (.tmp 2) (.tmp 0) (.tmp 1) false) [.mp id,x,va z] H = some (va ((mget m k).getD z),H):=by
 simp only [evOp,kG,List.getElem?_cons_zero,List.getElem?_cons_succ,hx,hH,hk.chk,aJz hk]
 rcases aEi k m with ⟨h1,h2⟩ | ⟨i,v,h1,h2,h3⟩
 ·simp [h1,h2]
 ·have : (entL kv va m)[i]? = some (kv k,va v):=by simp [entL,h3]
  simp [h1,h2,this]
theorem aR4 [GlobT] (hk : KeyOK P kt kv) (v : V) (hx : lits x = some (kv k)) (hfl : fl ≤ id) (hH : H[id]? = some (.mp (entL kv va m))) : evOp P cf fl (.mapUpd kt (.tmp 0) (.tmp 1) (.tmp 2)) [.mp id,x,va v] H = some (.lit lI,H.set id (.mp (entL kv va (mput m k v)))):=by
 simp only [evOp,kG,List.getElem?_cons_zero,List.getElem?_cons_succ,hx,hH,hk.chk,aJz hk,hfl,if_true,aJo]
 rcases aEi k m with ⟨h1,h2⟩ | ⟨i,u,h1,h2,h3⟩
 ·simp [h2,entL]
 ·have : (entL kv va m)[i]? = some (kv k,va u):=by simp [entL,h3]
  simp only [h2,this,hk.same,if_true]
  simp [entL,List.map_set]
end
theorem aPo {K V : Type} {kv : K → Value} {va : V → AV} {n : Nat} {m : List (K × V)} (h : ∀ v,zA n (va v) = va v) : (entL kv va m).map (fun e => (e.1,zA n e.2)) = entL kv va m:=by
 simp [entL,h]
end Go.Proofs.YtkdnaejhpcibnaaGreatDoor.Av
namespace Go.Proofs.YtkdnaejhpcibnaaGreatDoor.Av
open Go
abbrev U : AV:=.undef
abbrev V : AV:=.lit lI
abbrev bt : AV:=.lit (.bool true)
abbrev bf : AV:=.lit (.bool false)
structure PZ where
 ps : List Prop
 ok : AllP ps
theorem pv_z [GlobT] {P : Program} {T : List AFun} {n vi : Nat} {args : List AV} {r : AV} {F : AFun} (o : Orc) (L : List (AExit × St)) (M : List (Option Heap)) (hF : getF T vi = some F) (z : PZ) (h : oF P T n o L M F args = some (r,z.ps)) : pv P T (n + 1) vi args = some r:=pv_o o L M hF h z.ok
theorem bDz [GlobT] {P : Program} {T : List AFun} {n fl vi : Nat} {args : List AV} {H H' : Heap} {r : AV} {F : AFun} (o : Orc) (L : List (AExit × St)) (M : List (Option Heap)) (hF : getF T vi = some F) (z : PZ) (h : oE P T n o L M F fl args H = some (r,H',z.ps)) : evF P T (n + 1) fl vi args H = some (r,H'):=bD0 o L M hF h z.ok
theorem aWq [GlobT] {P : Program} {cf : Nat → Nat → List AV → Heap → Option (AV × Heap)} {lf fl n m : Nat} {live : Option (List Bool)} {tr : Bool} {c : ACode} {st st' : St} {r : Option (AExit × St)} (o : Orc) (L : List (AExit × St)) (M : List (Option Heap)) (hn : Nat.ble fl n = true) (z : PZ) (h : oB P cf lf fl (vK live tr n) o L M c st = some (.normal,st',z.ps))
  (hc : kV tr fl n st'.heap) (hr : kW (kY live tr fl n) (evC P cf lf fl c) m st' = r) : kW (kY live tr fl n) (evC P cf lf fl c) (m + 1) st = r:=aWt o L M hn h z.ok hc hr
theorem aWx [GlobT] {P : Program} {cf : Nat → Nat → List AV → Heap → Option (AV × Heap)} {lf fl n m : Nat} {live : Option (List Bool)} {tr tr' : Bool} {lx lr : List Bool} {c : ACode} {st st' : St} {x : AExit} (o : Orc) (L : List (AExit × St)) (M : List (Option Heap)) (hn : Nat.ble fl n = true) (z : PZ) (h : oX P cf lf fl n lx lr tr o L M c st = some (x,st',z.ps))
  (hc : aG8 tr fl n x st'.heap) : lT lx lr tr fl n (kW (kY live tr' fl n) (evC P cf lf fl c) (m + 1) st) = some (x,st'):=aWy o L M hn h z.ok hc
def prdk (k n : Nat) : Option Nat:=if k ≤ n then some (n - k) else none
theorem rM {k n m : Nat} (h : prdk k n = some m) : n = m + k:=by
 unfold prdk at h
 split at h
 ·cases h; omega
 ·cases h
theorem qI {cf : Nat → Nat → List AV → Heap → Option (AV × Heap)} {fl vi : Nat} {args : List AV} {H H' : Heap} {r r' : AV} (hp : mW args = false) (hn : args.map nrm2 = args) (h : cf H.length vi args H = some (r,H')) (hr : nW H' H.length r = r') :
  nH cf fl true vi args H = some (r',H):=by
 subst hr
 unfold nH
 simp only [hp,hn,h]
def sat (s : ByteArray) (i : Int) : Option Int:=if 0 ≤ i then (s.data.toList[i.toNat]?).map (fun b => (b.toNat : Int)) else none
theorem aP8 {s : ByteArray} {i b : Int} (h : sat s i = some b) : 0 ≤ i ∧ ∃ c : UInt8,s[i.toNat]? = some c ∧ b = (c.toNat : Int):=by
 unfold sat at h
 split at h
 ·rename_i hi
  simp only [Option.map_eq_some_iff] at h
  obtain ⟨c,h1,h2⟩:=h
  refine ⟨hi,c,?_,h2.symm⟩
  rw [← h1]
  simp [getElem?_def,ByteArray.getElem_eq_getElem_data]
 ·cases h
def cutS (s : ByteArray) (lo hi : Int) : Option ByteArray:=if 0 ≤ lo ∧ lo ≤ hi ∧ hi.toNat ≤ s.size then some (s.extract lo.toNat hi.toNat) else none
section
variable {P : Program} {cf : Nat → Nat → List AV → Heap → Option (AV × Heap)} {fl : Nat} {H : Heap} {t : TypeId} {s r : ByteArray} {i b lo hi : Int} {k : IntKind}
theorem aQf (P : Program) (t : TypeId) {d : TypeDesc} (ht : P.underlying t = some d) {β : Type} (f : TypeDesc → Sem β) : kM P (underlying t >>= f) = kM P (f d):=by
 simp only [underlying]
 show kM P (Sem.program fun P => _) = _
 simp only [kM]
 show kM P ((match P.underlying t with | some d => pure d | none => stuck "no such type" : Sem TypeDesc).bind f) = _
 rw [ht]
 rfl
theorem oV [GlobT] (ht : P.underlying t = some .string) (h : sat s i = some b) : evOp P cf fl (.strIdx t (.tmp 0) (.tmp 1)) [sv s,iv i] H = some (.lit (.int .u8 b),H):=by
 obtain ⟨h1,c,h2,rfl⟩:=aP8 h
 have hp : kM P (Instr.index t (.string s) (.int .i64 i)) = some (.int .u8 c.toNat):=by
  unfold Instr.index
  show kM P (underlying t >>= _) = _
  rw [aQf P t ht]
  simp only [h1,if_true,h2]
  rfl
 simp only [evOp,kG,List.getElem?_cons_zero,List.getElem?_cons_succ,hp]
theorem aJa [GlobT] (h : cutS s lo hi = some r) : evOp P cf fl (.strSlice t (.tmp 0) (some (.tmp 1)) (some (.tmp 2))) [sv s,iv lo,iv hi] H = some (sv r,H):=by
 unfold cutS at h
 split at h
 ·rename_i hc
  cases h
  have h0 : (0 : Int) ≤ hi:=by omega
  have h1 : lo.toNat ≤ hi.toNat:=by omega
  simp [evOp,kG,nY,oI,hc.1,h0,h1,hc.2.2]
 ·cases h
theorem aMx [GlobT] {a d : Int} (hd : d ≠ 0) : evOp P cf fl (.bin .quo t (.tmp 0) (.tmp 1)) [.lit (.int k a),.lit (.int k d)] H = some (.lit (.int k (k.wrap (a.tdiv d))),H):=by
 have h1 : kM P (eqGuard .quo t (.tmp 0) (.tmp 0) (.int k a) (.int k d)) = some ():=rfl
 have h2 : kM P (binOp .quo t (.int k a) (.int k d)) = some (.int k (k.wrap (a.tdiv d))):=by
  simp [binOp,Op.intDiv,hd]
  rfl
 simp only [evOp,kG,List.getElem?_cons_zero,List.getElem?_cons_succ,lits,qS,if_true,h1,h2]
theorem yO [GlobT] {a d : Int} (hd : d ≠ 0) : evOp P cf fl (.bin .rem t (.tmp 0) (.tmp 1)) [.lit (.int k a),.lit (.int k d)] H = some (.lit (.int k (a.tmod d)),H):=by
 have h1 : kM P (eqGuard .rem t (.tmp 0) (.tmp 0) (.int k a) (.int k d)) = some ():=rfl
 have h2 : kM P (binOp .rem t (.int k a) (.int k d)) = some (.int k (a.tmod d)):=by
  simp [binOp,Op.intDiv,hd]
  rfl
 simp only [evOp,kG,List.getElem?_cons_zero,List.getElem?_cons_succ,lits,qS,if_true,h1,h2]
theorem aVi [GlobT] {α : Type} {c : α → List AV} {l : List α} {x : α} {s n : Nat} (h : idx l i = some x) (hc : ∀ x,(c x).length = s) (hn : l.length = n) (cs : List AV) (he : cs = l.flatMap c) :
  evOp P cf fl (.index true s n (.tmp 0) (.tmp 1)) [.agg cs,iv i] H = some (.agg (c x),H):=by
 obtain ⟨h1,h2,h3⟩:=aJv h
 subst he
 have key : ∀ (l : List α) (k : Nat) (x : α),l[k]? = some x → ((l.flatMap c).drop (k * s)).take s = c x ∧ k * s + s ≤ (l.flatMap c).length:=by
  intro l
  induction l with
  | nil => intro k x hx; simp at hx
  | cons y r ih =>
   intro k x hx
   cases k with
   | zero =>
    simp only [List.getElem?_cons_zero,Option.some.injEq] at hx
    subst hx
    constructor
    ·rw [Nat.zero_mul,List.drop_zero,List.flatMap_cons,List.take_append_of_le_length (by rw [hc]; exact Nat.le_refl _),List.take_of_length_le (by rw [hc]; exact Nat.le_refl _)]
    ·simp [hc]
   | succ k =>
    simp only [List.getElem?_cons_succ] at hx
    obtain ⟨k1,k2⟩:=ih k x hx
    constructor
    ·have e : (k + 1) * s = (c y).length + k * s:=by rw [hc,Nat.add_mul]; omega
     rw [List.flatMap_cons,e,List.drop_append,List.drop_eq_nil_of_le (by omega)]
     have e2 : (c y).length + k * s - (c y).length = k * s:=by omega
     rw [e2,List.nil_append]
     exact k1
    ·have e : (k + 1) * s = s + k * s:=by rw [Nat.add_mul]; omega
     rw [List.flatMap_cons,List.length_append,hc]
     omega
 obtain ⟨k1,k2⟩:=key l i.toNat x h2
 have hlt : i.toNat < n:=by omega
 have hno : oI (iv i) = some i.toNat:=by simp [oI,h1]
 simp only [evOp,kG,List.getElem?_cons_zero,List.getElem?_cons_succ,hno,hlt,if_true,k2,k1]
theorem aWr [GlobT] {id : Nat} {p : Nat} (hH : H[id]? = some (.raw (.stringIter s p))) (hf : fl ≤ id) (hp : decide (p < s.size) = true) :
  evOp P cf fl (.nextStr (.tmp 0)) [.it id] H = some (.tup [.lit (.bool true),.lit (.int .i64 p),.lit (.int .i32 (Utf8.decode s p).1)],H.set id (.raw (.stringIter s (p + (Utf8.decode s p).2)))):=by
 have hp' : p < s.size:=of_decide_eq_true hp
 simp [evOp,kG,hf,hH,hp']
theorem aWu [GlobT] {id : Nat} {p : Nat} (hH : H[id]? = some (.raw (.stringIter s p))) (hf : fl ≤ id) (hp : decide (p < s.size) = false) :
  evOp P cf fl (.nextStr (.tmp 0)) [.it id] H = some (.tup [.lit (.bool false)],H):=by
 have hp' : ¬ p < s.size:=of_decide_eq_false hp
 simp [evOp,kG,hf,hH,hp']
end
end Go.Proofs.YtkdnaejhpcibnaaGreatDoor.Av
