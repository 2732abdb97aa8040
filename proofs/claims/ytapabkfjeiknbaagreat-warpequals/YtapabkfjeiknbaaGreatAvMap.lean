/- A part of the proof of a law of the chapter warp: an evaluator of the program, proved sound, and what it says. -/
import Derived.Test.YtapabkfjeiknbaaGreatAvDraw2
import Derived.Scope
import Derived.Control
import Derived.WalkKit
import Derived.ProofKit
import Derived.OpenShut
set_option linter.unusedVariables false
set_option linter.unusedSimpArgs false
namespace Go.Proofs.YtapabkfjeiknbaaGreat.Av
open Go
section
variable {FT : Nat→Option Nat}
theorem aF4 [GlobT] {c : Ctx} : ∀ (l : List Bool) (tm : List AV) (tv : Array Value),TR FT c tm tv→TR FT c (xE l tm) tv:=by
 intro l tm tv h
 have key : ∀ (l : List Bool) (tm : List AV),(xE l tm).length=tm.length∧∀ (t : Nat) (x : AV),(xE l tm)[t]? = some x→x=.undef ∨ tm[t]? = some x:=by
  intro l
  induction l with
  | nil =>
   intro tm
   cases tm with
   | nil=>exact ⟨rfl,fun t x hx=>by simp [xE] at hx⟩
   | cons v vs =>
    refine ⟨by simp [xE],fun t x hx=>?_⟩
    simp only [xE,List.getElem?_map,Option.map_eq_some_iff] at hx
    obtain ⟨_,_,rfl⟩:=hx
    exact .inl rfl
  | cons b bs ih =>
   intro tm
   cases tm with
   | nil=>exact ⟨rfl,fun t x hx=>by simp [xE] at hx⟩
   | cons v vs =>
    obtain ⟨h1,h2⟩:=ih vs
    refine ⟨by simp [xE,h1],fun t x hx=>?_⟩
    cases t with
    | zero =>
     simp only [xE,List.getElem?_cons_zero,Option.some.injEq] at hx ⊢
     split at hx
     ·exact .inr hx
     ·exact .inl hx.symm
    | succ t =>
     simp only [xE,List.getElem?_cons_succ] at hx ⊢
     exact h2 t x hx
 obtain ⟨h1,h2⟩:=key l tm
 refine ⟨h1.trans h.1,fun t x hx=>?_⟩
 rcases h2 t x hx with rfl | h3
 ·have hlt : t < tv.size:=by rw [← h.1,← h1]; exact (List.getElem?_eq_some_iff.1 hx).1
  exact ⟨tv[t],by simp,RV.undef _⟩
 ·exact h.2 t x h3
structure Sub (n : Nat) (c c' : Ctx) : Prop where
 w : c'.w=c.w
 X : c'.X=c.X
 lo : ∀ id,id < n→c'.β id=c.β id
 img : ∀ id b,c'.β id=some b→∃ i,c.β i=some b
 shp : ∀ id,id < n→shp c'.H id=shp c.H id
 mp : ∀ id,id < n→aGz c.H id→aGz c'.H id
theorem Sub.imm {n : Nat} {c c' : Ctx} (h : Sub n c c') {b : Nat} (hi : Imm c b) : Imm c' b:=by
 refine ⟨by rw [h.X]; exact hi.1,fun id hid=>?_⟩
 obtain ⟨i,hi'⟩:=h.img id b hid
 exact hi.2 i hi'
theorem Sub.vis {n : Nat} {c c' : Ctx} (h : Sub n c c') {b : Nat} (hi : Vis c b) : Vis c' b:=by
 intro id hid
 obtain ⟨i,hi'⟩:=h.img id b hid
 exact hi i hi'
theorem Sub.rp [GlobT] {n : Nat} {c c' : Ctx} (h : Sub n c c') {x : AV} {v : Value} (hr : RP c.w (Imm c) x v) : RP c'.w (Imm c') x v :=
 hr.mono fun b o hi hb=>⟨h.imm hi,by rw [h.w]; exact hb⟩
theorem aQe [GlobT] {n : Nat} {c c' : Ctx} (h : Sub n c c') {x : AV} {v : Value} (hr : RV FT c x v) : RV FT c' (aIx n x) v:=by
 cases hr with
 | pure _ _ hp =>
  have hp':=h.rp hp
  cases hp' with
  | undef v=>exact .pure _ _ (.undef v)
  | lit v=>exact .pure _ _ (.lit v)
  | nil f a cap hf=>exact .pure _ _ (.nil f a cap hf)
  | sl f es b off cap cc T fz s vals h1 h2 h3 h4 h5 h6 h7 h8=>exact .pure _ _ (.sl f es b off cap cc T fz s vals h1 h2 h3 h4 h5 h6 h7 h8)
  | sptr cs b off cc T fz vals h1 h2 h3 h4=>exact .pure _ _ (.sptr cs b off cc T fz vals h1 h2 h3 h4)
  | rmp ents b es clk vals h1 h2 h3 h4 h5 h6=>exact .pure _ _ (.rmp ents b es clk vals h1 h2 h3 h4 h5 h6)
 | ms id tot off len a cap s m g1 g2 g3 g4 =>
  simp only [aIx]
  split
  ·rename_i hid
   refine .ms id tot off len a cap s m ((h.shp id hid).trans g1) g2 g3 fun e=>?_
   obtain ⟨m1,m2⟩:=g4 e
   refine ⟨m1,?_⟩
   rcases m2 with ⟨m3,m4,m5,m6⟩ | ⟨b,cs,T,a',m3,m4,m5,m6,m7⟩
   ·exact .inl ⟨(h.lo id hid).trans m3,m4,m5,m6⟩
   ·exact .inr ⟨b,cs,T,a',(h.lo id hid).trans m3,by rw [h.w]; exact m4,m5,m6,m7⟩
  ·exact RV.undef _
 | ptr id tot idx off a s m g1 g2 g3 =>
  simp only [aIx]
  split
  ·rename_i hid
   refine .ptr id tot idx off a s m ((h.shp id hid).trans g1) g2 fun e=>?_
   obtain ⟨b,hb,ha⟩:=g3 e
   exact ⟨b,(h.lo id hid).trans hb,ha⟩
  ·exact RV.undef _
 | rptr cs b off cc T fz vals g1 g2 g3 g4=>exact .rptr cs b off cc T fz vals (h.vis g1) (by rw [h.w]; exact g2) g3 fun j x hx=>h.rp (g4 j x hx)
 | vnil a cap=>exact .vnil a cap
 | vw es b off cap cc T fz s vals h1 h2 h3 h4 h5 h6 h7=>exact .vw es b off cap cc T fz s vals h1 (h.vis h2) (by rw [h.w]; exact h3) h4 h5 h6 fun i j x hx=>h.rp (h7 i j x hx)
 | mp id b g1 g2 =>
  simp only [aIx]
  split
  ·rename_i hid
   exact .mp id b (h.mp id hid g1) ((h.lo id hid).trans g2)
  ·exact RV.undef _
 | it id b g1 g2 =>
  simp only [aIx]
  split
  ·rename_i hid
   exact .it id b (h.mp id hid g1) ((h.lo id hid).trans g2)
  ·exact RV.undef _
 | fn vi f caps cv vals g1 g2 g3 g4 =>
  cases caps with
  | nil=>exact .fn vi f [] cv vals g1 g2 g3 (fun i x hx=>by simp at hx)
  | cons _ _=>exact RV.undef _
 | agg=>exact RV.undef _
 | tup=>exact RV.undef _
theorem aEb [GlobT] {n : Nat} {c c' : Ctx} (h : Sub n c c') {x : AV} {v : Value} (hr : RV FT c x v) : RV FT c' (aA7 n x) v:=by
 unfold aA7
 split
 ·rename_i vi caps
  cases hr with
  | pure _ _ hp=>cases hp
  | fn _ f _ cv vals g1 g2 g3 g4 =>
   refine .fn vi f _ cv vals g1 (by simpa using g2) ?_ ?_
   ·intro i x hx
    simp only [List.getElem?_map,Option.map_eq_some_iff] at hx
    obtain ⟨y,hy,rfl⟩:=hx
    exact g3 i y hy
   ·intro i x hx
    simp only [List.getElem?_map,Option.map_eq_some_iff] at hx
    obtain ⟨y,hy,rfl⟩:=hx
    exact aQe h (g4 i y hy)
 ·exact aQe h hr
theorem aG4 [GlobT] {n : Nat} {c c' : Ctx} (h : Sub n c c') {x : AV} {v : Value} (hr : RV FT c x v) : RV FT c' (aIw n x) v:=by
 unfold aIw
 split
 ·rename_i cs
  obtain ⟨cv,vals,rfl,g1,g2,g3⟩:=hr.agg_inv
  refine .agg _ cv vals (by simpa using g1) ?_ ?_
  ·intro i x hx
   simp only [List.getElem?_map,Option.map_eq_some_iff] at hx
   obtain ⟨y,hy,rfl⟩:=hx
   exact g2 i y hy
  ·intro i x hx
   simp only [List.getElem?_map,Option.map_eq_some_iff] at hx
   obtain ⟨y,hy,rfl⟩:=hx
   exact aEb h (g3 i y hy)
 ·exact aEb h hr
theorem aQd [GlobT] {n : Nat} {c c' : Ctx} (h : Sub n c c') {x : AV} {v : Value} (hr : RV FT c x v) : RV FT c' (aMw n x) v:=by
 unfold aMw
 split
 ·rename_i cs
  obtain ⟨cv,vals,rfl,g1,g2,g3⟩:=hr.tup_inv
  refine .tup _ cv vals (by simpa using g1) ?_ ?_
  ·intro i x hx
   simp only [List.getElem?_map,Option.map_eq_some_iff] at hx
   obtain ⟨y,hy,rfl⟩:=hx
   exact g2 i y hy
  ·intro i x hx
   simp only [List.getElem?_map,Option.map_eq_some_iff] at hx
   obtain ⟨y,hy,rfl⟩:=hx
   exact aG4 h (g3 i y hy)
 ·exact aG4 h hr
def xS (fl n : Nat) (c : Ctx) : Ctx :=
 ⟨c.w,c.X,fun id=>if id < n then c.β id else none,c.H.take fl++((c.H.take n).drop fl).map (gG n)⟩
theorem aDq {fl n : Nat} {c : Ctx} (hfn : fl ≤ n) (hn : n ≤ c.H.length) (id : Nat) :
  (xS fl n c).H[id]? = if id < fl then c.H[id]? else if id < n then (c.H[id]?).map (gG n) else none:=by
 simp only [xS]
 rw [List.getElem?_append]
 simp only [List.length_take,Nat.min_eq_left (Nat.le_trans hfn hn)]
 split
 ·rename_i h
  rw [List.getElem?_take,if_pos h]
 ·rename_i h
  rw [List.getElem?_map,List.getElem?_drop,List.getElem?_take]
  have e : fl + (id - fl)=id:=by omega
  rw [e]
  split <;> rfl
theorem xR {fl n : Nat} {c : Ctx} (hfn : fl ≤ n) (hn : n ≤ c.H.length) : (xS fl n c).H.length=n:=by
 simp only [xS,List.length_append,List.length_take,List.length_map,List.length_drop]; omega
theorem aDp [GlobT] {fl n : Nat} {c : Ctx} (hfn : fl ≤ n) (hn : n ≤ c.H.length) : Sub n c (xS fl n c) where
 w:=rfl
 X:=rfl
 lo:=fun id hid=>by simp [xS,hid]
 img:=fun id b hb=>by
  simp only [xS] at hb
  split at hb
  ·exact ⟨id,hb⟩
  ·cases hb
 shp:=fun id hid=>by
  have hg:=aDq hfn hn id
  unfold shp
  rw [hg]
  by_cases h : id < fl
  ·rw [if_pos h]
  ·rw [if_neg h,if_pos hid]
   cases c.H[id]? with
   | none=>rfl
   | some o=>cases o <;> simp [gG]
 mp:=fun id hid hm=>by
  obtain ⟨ents,he,hnb⟩:=hm
  simp only [aGz,aDq hfn hn,he]
  split
  ·exact ⟨ents,rfl,hnb⟩
  ·refine ⟨gG n ents,by simp [hid],?_⟩
   cases ents with
   | blk=>exact hnb
   | mp=>trivial
   | raw=>trivial
theorem aHk [GlobT] {fl : Nat} {c0 c : Ctx} (hs0 : Sim FT c0) (h : Step fl c0 c) (hfl : fl ≤ c0.H.length) : Step fl c0 (xS fl c0.H.length c):=by
 have hsub:=aDp hfl h.len
 have hget:=aDq hfl h.len
 have hlt : ∀ id r,shp c0.H id=some r→id < c0.H.length:=fun id r hr=>by
  rcases Nat.lt_or_ge id c0.H.length with h' | h'
  ·exact h'
  ·simp [shp,List.getElem?_eq_none h'] at hr
 refine ⟨h.X,h.os,h.tape,h.output,h.drawn,h.size,by rw [xR hfl h.len]; exact Nat.le_refl _,h.frame,?_,?_,?_,?_⟩
 ·intro id b hb
  simp only [xS] at hb
  split at hb
  ·exact h.img id b hb
  ·cases hb
 ·intro id s n hs
  obtain ⟨n',h1,h2,h3⟩:=h.blkS id s n hs
  have hid:=hlt id _ hs
  exact ⟨n',(hsub.shp id hid).trans h1,h2,fun e=>⟨(hsub.lo id hid).trans (h3 e).1,(h3 e).2⟩⟩
 ·intro id hm
  have hid : id < c0.H.length:=by
   obtain ⟨ents,he,_⟩:=hm
   rcases Nat.lt_or_ge id c0.H.length with h' | h'
   ·exact h'
   ·rw [List.getElem?_eq_none h'] at he; cases he
  obtain ⟨h1,h2⟩:=h.mpS id hm
  exact ⟨hsub.mp id hid h1,(hsub.lo id hid).trans h2⟩
 ·intro id hid
  obtain ⟨h1,h2,h3⟩:=h.floor id hid
  exact ⟨by rw [hget,if_pos hid]; exact h1,(hsub.lo id (by omega)).trans h2,h3⟩
theorem aOr [GlobT] {fl : Nat} {c0 c : Ctx} (hs0 : Sim FT c0) (hs : Sim FT c) (h : Step fl c0 c) (hfl : fl ≤ c0.H.length) : Sim FT (xS fl c0.H.length c):=by
 have hsub:=aDp hfl h.len
 have hget:=aDq hfl h.len
 have hst:=aHk hs0 h hfl
 have hβ : ∀ id b,(xS fl c0.H.length c).β id=some b→id < c0.H.length∧c.β id=some b:=by
  intro id b hb
  simp only [xS] at hb
  split at hb
  ·exact ⟨by assumption,hb⟩
  ·cases hb
 refine ⟨hs0.gl.step hst,?_,?_,?_,hs.fresh,?_,?_,?_,?_⟩
 ·intro i j b hi hj
  exact hs.inj i j b (hβ i b hi).2 (hβ j b hj).2
 ·intro id b hb
  rw [xR hfl h.len]; exact (hβ id b hb).1
 ·intro id b hb
  exact hs.nx id b (hβ id b hb).2
 ·intro id s es ho
  rw [hget] at ho
  split at ho
  ·exact hs.lens id s es ho
  ·split at ho
   ·simp only [Option.map_eq_some_iff] at ho
    obtain ⟨o,ho1,ho2⟩:=ho
    cases o with
    | blk s' es' =>
     simp only [gG,AObj.blk.injEq] at ho2
     obtain ⟨rfl,rfl⟩:=ho2
     intro e he
     simp only [List.mem_map] at he
     obtain ⟨e0,h0,rfl⟩:=he
     simpa using hs.lens id s' es' ho1 e0 h0
    | mp ents=>simp [gG] at ho2
    | raw q=>simp [gG] at ho2
   ·cases ho
 ·intro id s es b ho hb
  obtain ⟨hid,hb'⟩:=hβ id b hb
  rw [hget] at ho
  split at ho
  ·rename_i hlo
   obtain ⟨f1,f2,f3⟩:=h.floor id hlo
   rw [f1] at ho
   rw [f2] at hb'
   obtain ⟨cs,T,g1,g2,g3⟩:=hs0.blk id s es b ho hb'
   exact ⟨cs,T,(f3 b hb').trans g1,g2,fun i j x hx=>let ⟨v,k1,k2,k3⟩:=g3 i j x hx; ⟨v,k1,k2,k3.step hst⟩⟩
  ·simp only [Option.map_eq_some_iff] at ho
   obtain ⟨o,ho1,ho2⟩:=ho
   cases o with
   | blk s' es' =>
    simp only [gG,AObj.blk.injEq] at ho2
    obtain ⟨rfl,rfl⟩:=ho2
    obtain ⟨cs,T,g1,g2,g3⟩:=hs.blk id s' es' b ho1 hb'
    refine ⟨cs,T,g1,by simpa using g2,fun i j x hx=>?_⟩
    obtain ⟨y,hy,rfl⟩:=tO hx
    obtain ⟨v,k1,k2,k3⟩:=g3 i j y hy
    exact ⟨v,k1,k2,aEb hsub k3⟩
   | mp ents=>simp [gG] at ho2
   | raw q=>simp [gG] at ho2
 ·intro id ents b ho hb
  obtain ⟨hid,hb'⟩:=hβ id b hb
  rw [hget] at ho
  split at ho
  ·rename_i hlo
   obtain ⟨f1,f2,f3⟩:=h.floor id hlo
   rw [f1] at ho
   rw [f2] at hb'
   obtain ⟨es,clk,g1,g2,g3⟩:=hs0.map id ents b ho hb'
   exact ⟨es,clk,(f3 b hb').trans g1,g2,fun i k x hx=>let ⟨e,k1,k2,k3⟩:=g3 i k x hx; ⟨e,k1,k2,k3.step hst⟩⟩
  ·simp only [Option.map_eq_some_iff] at ho
   obtain ⟨o,ho1,ho2⟩:=ho
   cases o with
   | blk s' es'=>simp [gG] at ho2
   | mp ents' =>
    simp only [gG,AObj.mp.injEq] at ho2
    subst ho2
    obtain ⟨es,clk,g1,g2,g3⟩:=hs.map id ents' b ho1 hb'
    refine ⟨es,clk,g1,by simpa using g2,fun i k x hx=>?_⟩
    simp only [List.getElem?_map,Option.map_eq_some_iff] at hx
    obtain ⟨⟨k0,y⟩,hy,he⟩:=hx
    simp only [Prod.mk.injEq] at he
    obtain ⟨rfl,rfl⟩:=he
    obtain ⟨e,k1,k2,k3⟩:=g3 i k0 y hy
    exact ⟨e,k1,k2,aG4 hsub k3⟩
   | raw q=>simp [gG] at ho2
 ·intro id q b ho hb
  obtain ⟨hid,hb'⟩:=hβ id b hb
  rw [hget] at ho
  split at ho
  ·rename_i hlo
   obtain ⟨f1,f2,f3⟩:=h.floor id hlo
   rw [f1] at ho
   rw [f2] at hb'
   exact (f3 b hb').trans (hs0.raw id q b ho hb')
  ·simp only [Option.map_eq_some_iff] at ho
   obtain ⟨o,ho1,ho2⟩:=ho
   cases o with
   | blk s' es'=>simp [gG] at ho2
   | mp ents'=>simp [gG] at ho2
   | raw q' =>
    simp only [gG,AObj.raw.injEq] at ho2
    subst ho2
    exact hs.raw id q' b ho1 hb'
theorem aCa [GlobT] {fl : Nat} {live : Option (List Bool)} {tr : Bool} {c0 c : Ctx} {tm : List AV} {tv : Array Value} (hs0 : Sim FT c0) (hs : Sim FT c) (h : Step fl c0 c) (hfl : fl ≤ c0.H.length) (htr : TR FT c tm tv) :
  ∃ c',c'.w=c.w∧c'.H=(eO live tr fl c0.H.length ⟨tm,c.H⟩).heap∧Step fl c0 c'∧Sim FT c'∧TR FT c' (eO live tr fl c0.H.length ⟨tm,c.H⟩).tmps tv:=by
 have htm : TR FT c (aXb live tm) tv:=by
  cases live with
  | none=>exact htr
  | some l=>exact aF4 l tm tv htr
 cases tr with
 | false=>exact ⟨c,rfl,by simp [eO],h,hs,by simpa [eO] using htm⟩
 | true =>
  refine ⟨xS fl c0.H.length c,rfl,by simp [eO,xS],aHk hs0 h hfl,aOr hs0 hs h hfl,?_⟩
  simp only [eO,if_true]
  refine ⟨by simpa using htm.1,fun t x hx=>?_⟩
  simp only [List.getElem?_map,Option.map_eq_some_iff] at hx
  obtain ⟨y,hy,rfl⟩:=hx
  obtain ⟨v,g1,g2⟩:=htm.2 t y hy
  exact ⟨v,g1,aQd (aDp hfl h.len) g2⟩
def ownC (c : Ctx) (id s : Nat) (es : List (List AV)) : Ctx :=
 ⟨c.w,c.X,fun i=>if i=c.H.length then c.β id else if i=id then none else c.β i,c.H.set id (.blk s (es++[List.replicate s .undef]))++[.blk s es]⟩
theorem aRg {c : Ctx} {id s : Nat} {es : List (List AV)} (hob : c.H[id]? = some (.blk s es)) (i : Nat) :
  (ownC c id s es).H[i]? = if i=c.H.length then some (.blk s es) else if i=id then some (.blk s (es++[List.replicate s .undef])) else c.H[i]?:=by
 have hlt : id < c.H.length:=(List.getElem?_eq_some_iff.1 hob).1
 simp only [ownC]
 rw [List.getElem?_append]
 simp only [List.length_set]
 by_cases h1 : i < c.H.length
 ·rw [if_pos h1,if_neg (by omega),List.getElem?_set]
  by_cases h2 : id=i
  ·subst h2; simp [hlt]
  ·rw [if_neg h2,if_neg (fun h=>h2 h.symm)]
 ·rw [if_neg h1]
  by_cases h2 : i=c.H.length
  ·subst h2; simp
  ·rw [if_neg h2,if_neg (by omega),List.getElem?_eq_none (by simp; omega),List.getElem?_eq_none (by omega)]
theorem aS7 [GlobT] {fl : Nat} {c : Ctx} {id s : Nat} {es : List (List AV)} (hfl : fl ≤ id) (hob : c.H[id]? = some (.blk s es)) : Step fl c (ownC c id s es):=by
 have hlt : id < c.H.length:=(List.getElem?_eq_some_iff.1 hob).1
 have hg:=aRg hob
 have hlo : ∀ i o,c.H[i]? = some o→i < c.H.length:=fun i o h=>(List.getElem?_eq_some_iff.1 h).1
 refine ⟨rfl,rfl,rfl,rfl,Nat.le_refl _,Nat.le_refl _,by simp [ownC],fun _ _ _=>rfl,?_,?_,?_,?_⟩
 ·intro i b hb
  simp only [ownC] at hb
  split at hb
  ·exact .inr ⟨_,hb⟩
  ·split at hb
   ·cases hb
   ·exact .inr ⟨_,hb⟩
 ·intro i s' n hs
  have hi : i < c.H.length:=by
   rcases Nat.lt_or_ge i c.H.length with h' | h'
   ·exact h'
   ·simp [shp,List.getElem?_eq_none h'] at hs
  by_cases h2 : i=id
  ·subst h2
   have e : s'=s∧n=es.length:=by simp [shp,hob] at hs; omega
   obtain ⟨rfl,rfl⟩:=e
   refine ⟨es.length + 1,?_,by omega,fun e=>by omega⟩
   unfold shp
   rw [hg,if_neg (by omega),if_pos rfl]
   simp
  ·refine ⟨n,?_,Nat.le_refl _,fun _=>⟨?_,fun b cs T _ hb=>⟨cs,hb,rfl⟩⟩⟩
   ·unfold shp
    rw [hg,if_neg (by omega),if_neg h2]
    exact hs
   ·simp only [ownC]
    rw [if_neg (by omega),if_neg h2]
 ·intro i hm
  obtain ⟨o,ho,hnb⟩:=hm
  have hi:=hlo i o ho
  have h2 : i ≠ id:=by
   intro e
   subst e
   rw [hob] at ho
   cases ho
   exact hnb
  refine ⟨⟨o,by rw [hg,if_neg (by omega),if_neg h2]; exact ho,hnb⟩,?_⟩
  simp only [ownC]
  rw [if_neg (by omega),if_neg h2]
 ·intro i hi
  refine ⟨by rw [hg,if_neg (by omega),if_neg (by omega)],?_,fun _ _=>rfl⟩
  simp only [ownC]
  rw [if_neg (by omega),if_neg (by omega)]
theorem bDw [GlobT] {c : Ctx} {id s : Nat} {es : List (List AV)} (hs : Sim FT c) (hob : c.H[id]? = some (.blk s es)) : Sim FT (ownC c id s es):=by
 have hlt : id < c.H.length:=(List.getElem?_eq_some_iff.1 hob).1
 have hg:=aRg hob
 have hst:=aS7 (fl:=0) (Nat.zero_le _) hob
 have hβ : ∀ i b,(ownC c id s es).β i=some b→(i=c.H.length∧c.β id=some b) ∨ (i ≠ c.H.length∧i ≠ id∧c.β i=some b):=by
  intro i b hb
  simp only [ownC] at hb
  split at hb
  ·exact .inl ⟨by assumption,hb⟩
  ·split at hb
   ·cases hb
   ·exact .inr ⟨by assumption,by assumption,hb⟩
 refine ⟨hs.gl.step hst,?_,?_,?_,hs.fresh,?_,?_,?_,?_⟩
 ·intro i j b hi hj
  rcases hβ i b hi with ⟨h1,h2⟩ | ⟨h1,h2,h3⟩ <;> rcases hβ j b hj with ⟨k1,k2⟩ | ⟨k1,k2,k3⟩
  ·omega
  ·exact (k2 (hs.inj _ _ b k3 h2)).elim
  ·exact (h2 (hs.inj _ _ b h3 k2)).elim
  ·exact hs.inj _ _ b h3 k3
 ·intro i b hb
  simp only [ownC,List.length_append,List.length_set,List.length_singleton]
  rcases hβ i b hb with ⟨h1,h2⟩ | ⟨h1,h2,h3⟩
  ·omega
  ·have:=hs.dom i b h3; omega
 ·intro i b hb
  rcases hβ i b hb with ⟨h1,h2⟩ | ⟨h1,h2,h3⟩
  ·exact hs.nx _ b h2
  ·exact hs.nx _ b h3
 ·intro i s' es' ho
  rw [hg] at ho
  split at ho
  ·cases ho; exact hs.lens id s es hob
  ·split at ho
   ·cases ho
    intro e he
    rcases List.mem_append.1 he with h | h
    ·exact hs.lens id s es hob e h
    ·simp only [List.mem_singleton] at h; subst h; simp
   ·exact hs.lens i s' es' ho
 ·intro i s' es' b ho hb
  rcases hβ i b hb with ⟨h1,h2⟩ | ⟨h1,h2,h3⟩
  ·rw [hg,if_pos h1] at ho
   cases ho
   obtain ⟨cs,T,g1,g2,g3⟩:=hs.blk id s es b hob h2
   exact ⟨cs,T,g1,g2,fun i j x hx=>let ⟨v,k1,k2,k3⟩:=g3 i j x hx; ⟨v,k1,k2,k3.step hst⟩⟩
  ·rw [hg,if_neg h1,if_neg h2] at ho
   obtain ⟨cs,T,g1,g2,g3⟩:=hs.blk i s' es' b ho h3
   exact ⟨cs,T,g1,g2,fun i j x hx=>let ⟨v,k1,k2,k3⟩:=g3 i j x hx; ⟨v,k1,k2,k3.step hst⟩⟩
 ·intro i ents b ho hb
  rcases hβ i b hb with ⟨h1,h2⟩ | ⟨h1,h2,h3⟩
  ·rw [hg,if_pos h1] at ho
   cases ho
  ·rw [hg,if_neg h1,if_neg h2] at ho
   obtain ⟨es,clk,g1,g2,g3⟩:=hs.map i ents b ho h3
   exact ⟨es,clk,g1,g2,fun i k x hx=>let ⟨e,k1,k2,k3⟩:=g3 i k x hx; ⟨e,k1,k2,k3.step hst⟩⟩
 ·intro i q b ho hb
  rcases hβ i b hb with ⟨h1,h2⟩ | ⟨h1,h2,h3⟩
  ·rw [hg,if_pos h1] at ho
   cases ho
  ·rw [hg,if_neg h1,if_neg h2] at ho
   exact hs.raw i q b ho h3
theorem aXa {c c' : Ctx} {id m s tot off len : Nat} {es es' : List (List AV)} (hob : c.H[id]? = some (.blk s es)) (hob' : c'.H[m]? = some (.blk s es')) (hl : es'.length=es.length) (hw : c'.w=c.w) (hβ : c'.β m=c.β id) {v : Value}
  (hr : RV FT c (.ms id tot off len) v) : RV FT c' (.ms m tot off len) v:=by
 cases hr with
 | pure _ _ hp=>cases hp
 | ms _ _ _ _ a cap s' n g1 g2 g3 g4 =>
  have e : s'=s∧n=es.length:=by simp [shp,hob] at g1; omega
  obtain ⟨rfl,rfl⟩:=e
  refine .ms m tot off len a cap s' es'.length (by simp [shp,hob']) (by omega) g3 fun e=>?_
  obtain ⟨m1,m2⟩:=g4 (by omega)
  refine ⟨m1,?_⟩
  rcases m2 with ⟨m3,m4,m5,m6⟩ | ⟨b,cs,T,a',m3,m4,m5,m6,m7⟩
  ·exact .inl ⟨hβ.trans m3,m4,m5,m6⟩
  ·exact .inr ⟨b,cs,T,a',hβ.trans m3,by rw [hw]; exact m4,m5,m6,m7⟩
theorem aWm [GlobT] {fl t : Nat} {c : Ctx} {tm : List AV} {tv : Array Value} {st1 : St} (hs : Sim FT c) (htr : TR FT c tm tv) (h : aUu fl t ⟨tm,c.H⟩=some st1) :
  ∃ c',c'.w=c.w∧c'.H=st1.heap∧Step fl c c'∧Sim FT c'∧TR FT c' st1.tmps tv:=by
 unfold aUu at h
 simp only at h
 split at h
 ·rename_i id tot off len hx
  split at h
  ·rename_i hfl
   split at h
   ·rename_i s es hob
    split at h
    ·rename_i htot
     cases h
     have hst:=aS7 hfl hob
     refine ⟨ownC c id s es,rfl,rfl,hst,bDw hs hob,?_⟩
     refine ⟨by simpa using htr.1,fun u y hy=>?_⟩
     simp only at hy
     rw [List.getElem?_set] at hy
     split at hy
     ·rename_i hut
      subst hut
      split at hy
      ·rename_i hlt
       cases hy
       obtain ⟨cv,g1,g2⟩:=htr.2 t tm[t] (List.getElem?_eq_getElem hlt)
       have e : tm[t]=.ms id tot off len:=by
        simp only [dU,List.getElem?_eq_getElem hlt] at hx
        exact hx
       rw [e] at g2
       refine ⟨cv,g1,aXa (c':=ownC c id s es) (m:=c.H.length) (es':=es) hob (by rw [aRg hob,if_pos rfl]) rfl rfl (by simp [ownC]) g2⟩
      ·cases hy
     ·obtain ⟨cv,g1,g2⟩:=htr.2 u y hy
      exact ⟨cv,g1,g2.step hst⟩
    ·cases h
   ·cases h
  ·cases h
 ·cases h
def aDk (fl n id s : Nat) (es : List (List AV)) (c : Ctx) : Ctx :=
 ⟨c.w,c.X,fun i=>if i < n then c.β i else if i=n then c.β id else none,(xS fl n c).H++[gG n (.blk s es)]⟩
theorem aGx [GlobT] {fl n id s : Nat} {es : List (List AV)} {c : Ctx} (hfn : fl ≤ n) (hn : n ≤ c.H.length) (i : Nat) :
  (aDk fl n id s es c).H[i]? = if i < n then (xS fl n c).H[i]? else if i=n then some (gG n (.blk s es)) else none:=by
 simp only [aDk]
 rw [List.getElem?_append]
 rw [xR hfn hn]
 by_cases h : i < n
 ·rw [if_pos h,if_pos h]
 ·rw [if_neg h,if_neg h]
  by_cases h2 : i=n
  ·subst h2; simp
  ·rw [if_neg h2,List.getElem?_eq_none (by simp; omega)]
theorem aNo [GlobT] {fl n id s : Nat} {es : List (List AV)} {c : Ctx} (hfn : fl ≤ n) (hn : n ≤ c.H.length) : Sub n c (aDk fl n id s es c) where
 w:=rfl
 X:=rfl
 lo:=fun i hi=>by simp [aDk,hi]
 img:=fun i b hb=>by
  simp only [aDk] at hb
  split at hb
  ·exact ⟨i,hb⟩
  ·split at hb
   ·exact ⟨_,hb⟩
   ·cases hb
 shp:=fun i hi=>by
  have:=(aDp (c:=c) hfn hn).shp i hi
  unfold shp at this ⊢
  rw [aGx hfn hn,if_pos hi]
  exact this
 mp:=fun i hi hm=>by
  have:=(aDp (c:=c) hfn hn).mp i hi hm
  unfold aGz at this ⊢
  rw [aGx hfn hn,if_pos hi]
  exact this
theorem aPl [GlobT] {fl id s : Nat} {es : List (List AV)} {c0 c : Ctx} (hs0 : Sim FT c0) (h : Step fl c0 c) (hfl : fl ≤ c0.H.length) : Step fl c0 (aDk fl c0.H.length id s es c):=by
 have hsub:=aNo (id:=id) (s:=s) (es:=es) hfl h.len
 have ht:=aHk hs0 h hfl
 have hget:=aGx (id:=id) (s:=s) (es:=es) hfl h.len
 have hlen : (aDk fl c0.H.length id s es c).H.length=c0.H.length + 1:=by
  simp only [aDk,List.length_append,xR hfl h.len,List.length_singleton]
 refine ⟨h.X,h.os,h.tape,h.output,h.drawn,h.size,by rw [hlen]; omega,h.frame,?_,?_,?_,?_⟩
 ·intro i b hb
  simp only [aDk] at hb
  split at hb
  ·exact h.img i b hb
  ·split at hb
   ·exact h.img id b hb
   ·cases hb
 ·intro i s' n hs
  have hid : i < c0.H.length:=by
   rcases Nat.lt_or_ge i c0.H.length with h' | h'
   ·exact h'
   ·simp [shp,List.getElem?_eq_none h'] at hs
  obtain ⟨n',h1,h2,h3⟩:=h.blkS i s' n hs
  exact ⟨n',(hsub.shp i hid).trans h1,h2,fun e=>⟨(hsub.lo i hid).trans (h3 e).1,(h3 e).2⟩⟩
 ·intro i hm
  have hid : i < c0.H.length:=by
   obtain ⟨ents,he,_⟩:=hm
   exact (List.getElem?_eq_some_iff.1 he).1
  obtain ⟨h1,h2⟩:=h.mpS i hm
  exact ⟨hsub.mp i hid h1,(hsub.lo i hid).trans h2⟩
 ·intro i hi
  obtain ⟨h1,h2,h3⟩:=ht.floor i hi
  exact ⟨by rw [hget,if_pos (by omega)]; exact h1,(hsub.lo i (by omega)).trans (h.floor i hi).2.1,h3⟩
theorem bAo [GlobT] {fl id s : Nat} {es : List (List AV)} {c0 c : Ctx} (hs0 : Sim FT c0) (hs : Sim FT c) (h : Step fl c0 c) (hfl : fl ≤ c0.H.length) (hid : c0.H.length ≤ id) (hob : c.H[id]? = some (.blk s es)) : Sim FT (aDk fl c0.H.length id s es c):=by
 have hsub:=aNo (id:=id) (s:=s) (es:=es) hfl h.len
 have hst:=aPl (id:=id) (s:=s) (es:=es) hs0 h hfl
 have ht:=aOr hs0 hs h hfl
 have hget:=aGx (id:=id) (s:=s) (es:=es) hfl h.len
 have htg:=aDq hfl h.len
 have hlen : (aDk fl c0.H.length id s es c).H.length=c0.H.length + 1:=by
  simp only [aDk,List.length_append,xR hfl h.len,List.length_singleton]
 have hβ : ∀ i b,(aDk fl c0.H.length id s es c).β i=some b→(i < c0.H.length∧c.β i=some b) ∨ (i=c0.H.length∧c.β id=some b):=by
  intro i b hb
  simp only [aDk] at hb
  split at hb
  ·exact .inl ⟨by assumption,hb⟩
  ·split at hb
   ·exact .inr ⟨by assumption,hb⟩
   ·cases hb
 refine ⟨hs0.gl.step hst,?_,?_,?_,hs.fresh,?_,?_,?_,?_⟩
 ·intro i j b hi hj
  rcases hβ i b hi with ⟨h1,h2⟩ | ⟨h1,h2⟩ <;> rcases hβ j b hj with ⟨k1,k2⟩ | ⟨k1,k2⟩
  ·exact hs.inj _ _ b h2 k2
  ·have:=hs.inj _ _ b h2 k2; omega
  ·have:=hs.inj _ _ b h2 k2; omega
  ·omega
 ·intro i b hb
  rw [hlen]
  rcases hβ i b hb with ⟨h1,h2⟩ | ⟨h1,h2⟩ <;> omega
 ·intro i b hb
  rcases hβ i b hb with ⟨h1,h2⟩ | ⟨h1,h2⟩
  ·exact hs.nx _ b h2
  ·exact hs.nx _ b h2
 ·intro i s' es' ho
  rw [hget] at ho
  split at ho
  ·exact ht.lens i s' es' ho
  ·split at ho
   ·simp only [gG,Option.some.injEq,AObj.blk.injEq] at ho
    obtain ⟨rfl,rfl⟩:=ho
    intro e he
    simp only [List.mem_map] at he
    obtain ⟨e0,h0,rfl⟩:=he
    simpa using hs.lens id s es hob e0 h0
   ·cases ho
 ·intro i s' es' b ho hb
  rcases hβ i b hb with ⟨hi,hb'⟩ | ⟨hi,hb'⟩
  ·rw [hget,if_pos hi,htg] at ho
   split at ho
   ·rename_i hlo
    obtain ⟨f1,f2,f3⟩:=h.floor i hlo
    rw [f1] at ho
    rw [f2] at hb'
    obtain ⟨cs,T,g1,g2,g3⟩:=hs0.blk i s' es' b ho hb'
    exact ⟨cs,T,(f3 b hb').trans g1,g2,fun i j x hx=>let ⟨v,k1,k2,k3⟩:=g3 i j x hx; ⟨v,k1,k2,k3.step hst⟩⟩
   ·try rw [if_pos hi] at ho
    simp only [Option.map_eq_some_iff] at ho
    obtain ⟨o,ho1,ho2⟩:=ho
    cases o with
    | blk s2 es2 =>
     simp only [gG,AObj.blk.injEq] at ho2
     obtain ⟨rfl,rfl⟩:=ho2
     obtain ⟨cs,T,g1,g2,g3⟩:=hs.blk i s2 es2 b ho1 hb'
     refine ⟨cs,T,g1,by simpa using g2,fun i j x hx=>?_⟩
     obtain ⟨y,hy,rfl⟩:=tO hx
     obtain ⟨v,k1,k2,k3⟩:=g3 i j y hy
     exact ⟨v,k1,k2,aEb hsub k3⟩
    | mp ents=>simp [gG] at ho2
    | raw q=>simp [gG] at ho2
  ·rw [hget,if_neg (by omega),if_pos hi] at ho
   simp only [gG,Option.some.injEq,AObj.blk.injEq] at ho
   obtain ⟨rfl,rfl⟩:=ho
   obtain ⟨cs,T,g1,g2,g3⟩:=hs.blk id s es b hob hb'
   refine ⟨cs,T,g1,by simpa using g2,fun i j x hx=>?_⟩
   obtain ⟨y,hy,rfl⟩:=tO hx
   obtain ⟨v,k1,k2,k3⟩:=g3 i j y hy
   exact ⟨v,k1,k2,aEb hsub k3⟩
 ·intro i ents b ho hb
  rcases hβ i b hb with ⟨hi,hb'⟩ | ⟨hi,hb'⟩
  ·rw [hget,if_pos hi,htg] at ho
   split at ho
   ·rename_i hlo
    obtain ⟨f1,f2,f3⟩:=h.floor i hlo
    rw [f1] at ho
    rw [f2] at hb'
    obtain ⟨es,clk,g1,g2,g3⟩:=hs0.map i ents b ho hb'
    exact ⟨es,clk,(f3 b hb').trans g1,g2,fun i k x hx=>let ⟨e,k1,k2,k3⟩:=g3 i k x hx; ⟨e,k1,k2,k3.step hst⟩⟩
   ·try rw [if_pos hi] at ho
    simp only [Option.map_eq_some_iff] at ho
    obtain ⟨o,ho1,ho2⟩:=ho
    cases o with
    | blk s' es'=>simp [gG] at ho2
    | mp ents' =>
     simp only [gG,AObj.mp.injEq] at ho2
     subst ho2
     obtain ⟨es,clk,g1,g2,g3⟩:=hs.map i ents' b ho1 hb'
     refine ⟨es,clk,g1,by simpa using g2,fun i k x hx=>?_⟩
     simp only [List.getElem?_map,Option.map_eq_some_iff] at hx
     obtain ⟨⟨k0,y⟩,hy,he⟩:=hx
     simp only [Prod.mk.injEq] at he
     obtain ⟨rfl,rfl⟩:=he
     obtain ⟨e,k1,k2,k3⟩:=g3 i k0 y hy
     exact ⟨e,k1,k2,aG4 hsub k3⟩
    | raw q=>simp [gG] at ho2
  ·rw [hget,if_neg (by omega),if_pos hi] at ho
   simp [gG] at ho
 ·intro i q b ho hb
  rcases hβ i b hb with ⟨hi,hb'⟩ | ⟨hi,hb'⟩
  ·rw [hget,if_pos hi,htg] at ho
   split at ho
   ·rename_i hlo
    obtain ⟨f1,f2,f3⟩:=h.floor i hlo
    rw [f1] at ho
    rw [f2] at hb'
    exact (f3 b hb').trans (hs0.raw i q b ho hb')
   ·try rw [if_pos hi] at ho
    simp only [Option.map_eq_some_iff] at ho
    obtain ⟨o,ho1,ho2⟩:=ho
    cases o with
    | blk s' es'=>simp [gG] at ho2
    | mp ents'=>simp [gG] at ho2
    | raw q' =>
     simp only [gG,AObj.raw.injEq] at ho2
     subst ho2
     exact hs.raw i q' b ho1 hb'
  ·rw [hget,if_neg (by omega),if_pos hi] at ho
   simp [gG] at ho
theorem aF9 [GlobT] {fl t : Nat} {live : List Bool} {c0 c : Ctx} {tm : List AV} {tv : Array Value} (hs0 : Sim FT c0) (hs : Sim FT c) (h : Step fl c0 c) (hfl : fl ≤ c0.H.length) (htr : TR FT c tm tv) :
  ∃ c',c'.w=c.w∧c'.H=(aH8 live t fl c0.H.length ⟨tm,c.H⟩).heap∧Step fl c0 c'∧Sim FT c'∧TR FT c' (aH8 live t fl c0.H.length ⟨tm,c.H⟩).tmps tv:=by
 have hdef:=aCa (live:=some live) (tr:=true) hs0 hs h hfl htr
 unfold aH8
 simp only
 split
 ·rename_i id tot off len hx
  split
  ·rename_i hid
   split
   ·rename_i s es hob
    have htm : TR FT c (xE live tm) tv:=aF4 live tm tv htr
    have hsub:=aNo (id:=id) (s:=s) (es:=es) hfl h.len
    refine ⟨aDk fl c0.H.length id s es c,rfl,by simp [aDk,xS],aPl hs0 h hfl,bAo hs0 hs h hfl hid hob,?_⟩
    refine ⟨by simpa using htm.1,fun u y hy=>?_⟩
    simp only at hy
    rw [List.getElem?_set] at hy
    split at hy
    ·rename_i hut
     subst hut
     split at hy
     ·rename_i hlt
      cases hy
      have hlt' : t < tm.length:=by
       have e1:=htm.1
       have e2:=htr.1
       simp only [List.length_map] at hlt
       omega
      obtain ⟨cv,g1,g2⟩:=htr.2 t tm[t] (List.getElem?_eq_getElem hlt')
      have e : tm[t]=.ms id tot off len:=by
       simp only [dU,List.getElem?_eq_getElem hlt'] at hx
       exact hx
      rw [e] at g2
      refine ⟨cv,g1,aXa (c':=aDk fl c0.H.length id s es c) (m:=c0.H.length) (es':=es.map fun e=>e.map (aA7 c0.H.length)) hob ?_ (by simp) rfl (by simp [aDk]) g2⟩
      rw [aGx hfl h.len,if_neg (by omega),if_pos rfl]
      rfl
     ·cases hy
    ·simp only [List.getElem?_map,Option.map_eq_some_iff] at hy
     obtain ⟨z,hz,rfl⟩:=hy
     obtain ⟨v,g1,g2⟩:=htm.2 u z hz
     exact ⟨v,g1,aQd hsub g2⟩
   ·exact hdef
  ·exact hdef
 ·exact hdef
end
section
variable {P : Program} {T : List AFun} {cf : Nat→Nat→List AV→Heap→Option (AV × Heap)} {fl lf : Nat}
def aFj : AExit→Exit
 | .normal=>.normal
 | .exit id=>.exit id
 | .ret=>.ret
def aUh [GlobT] (P : Program) (T : List AFun) (fl : Nat) (ev : St→Option (AExit × St)) (code : Code) : Prop :=
 ∀ (c : Ctx) (a : Act) (tm : List AV) (x : AExit) (st' : St) (Q : Exit→Act→World→Prop),Sim (ftOf T) c→TR (ftOf T) c tm a.tmps→fl ≤ c.H.length→ev ⟨tm,c.H⟩=some (x,st') →
  (∀ a' c',c'.H=st'.heap→Step fl c c'→Sim (ftOf T) c'→TR (ftOf T) c' st'.tmps a'.tmps→a'.defers=a.defers→Q (aFj x) a' c'.w)→code.wp P Q a c.w
theorem aMk [GlobT] {code : Code} {step : St→Option (AExit × St)} {live : Option (List Bool)} {tr : Bool} (hstep : aUh P T fl step code) {c0 : Ctx} (hs0 : Sim (ftOf T) c0) (hfl : fl ≤ c0.H.length) {ds : List Deferred} {x : AExit} {st' : St} {Q : Exit→Act→World→Prop}
  (hQ : ∀ a' c',c'.H=st'.heap→Step fl c0 c'→Sim (ftOf T) c'→TR (ftOf T) c' st'.tmps a'.tmps→a'.defers=ds→Q (aFj x) a' c'.w) :
  ∀ (n : Nat) (c : Ctx) (a : Act) (tm : List AV),Sim (ftOf T) c→Step fl c0 c→TR (ftOf T) c tm a.tmps→a.defers=ds→zI (eO live tr fl c0.H.length) step n ⟨tm,c.H⟩=some (x,st')→Code.rounds P code Q n a c.w
 | 0,c,a,tm,_,_,_,_,hev=>by cases hev
 | n + 1,c,a,tm,hs,hst,htr,hd,hev=>by
  rw [rounds_succ]
  simp only [zI] at hev
  obtain ⟨c1,h1,h2,h3,h4,h5⟩:=aCa (live:=live) (tr:=tr) hs0 hs hst hfl htr
  rw [← h1]
  have hst1 : (eO live tr fl c0.H.length ⟨tm,c.H⟩)=⟨(eO live tr fl c0.H.length ⟨tm,c.H⟩).tmps,c1.H⟩:=by rw [h2]
  rw [hst1] at hev
  split at hev
  ·rename_i st2 he
   refine hstep c1 a _ .normal st2 _ h4 h5 (Nat.le_trans hfl h3.len) he ?_
   intro a' c' e1 e2 e3 e4 e5
   show Code.rounds P code Q n a' c'.w
   refine aMk (live:=live) (tr:=tr) hstep hs0 hfl hQ n c' a' st2.tmps e3 (h3.trans e2) e4 (e5.trans hd) ?_
   rw [e1]; exact hev
  ·rename_i r hne
   have key : ∀ y,aFj x=y→y ≠ .normal→code.wp P (Exit.then (Code.rounds P code Q n) Q) a c1.w:=by
    intro y hy hyn
    refine hstep c1 a _ x st' _ h4 h5 (Nat.le_trans hfl h3.len) hev ?_
    intro a' c' e1 e2 e3 e4 e5
    have:=hQ a' c' e1 (h3.trans e2) e3 e4 (e5.trans hd)
    rw [hy] at this ⊢
    cases y <;> first | exact (hyn rfl).elim | exact this
   cases x with
   | normal=>exact (hne st' hev).elim
   | exit id=>exact key _ rfl (by simp [aFj])
   | ret=>exact key _ rfl (by simp [aFj])
theorem aF5 [GlobT] {code : Code} {step : St→Option (AExit × St)} {head : St→St} (hstep : aUh P T fl step code) {c0 : Ctx} (hfl : fl ≤ c0.H.length)
  (hhead : ∀ (c : Ctx) (tm : List AV) (tv : Array Value),Sim (ftOf T) c→Step fl c0 c→TR (ftOf T) c tm tv→∃ c',c'.w=c.w∧c'.H=(head ⟨tm,c.H⟩).heap∧Step fl c0 c'∧Sim (ftOf T) c'∧TR (ftOf T) c' (head ⟨tm,c.H⟩).tmps tv)
  {ds : List Deferred} {x : AExit} {st' : St} {Q : Exit→Act→World→Prop}
  (hQ : ∀ a' c',c'.H=st'.heap→Step fl c0 c'→Sim (ftOf T) c'→TR (ftOf T) c' st'.tmps a'.tmps→a'.defers=ds→Q (aFj x) a' c'.w) :
  ∀ (n : Nat) (c : Ctx) (a : Act) (tm : List AV),Sim (ftOf T) c→Step fl c0 c→TR (ftOf T) c tm a.tmps→a.defers=ds→zI head step n ⟨tm,c.H⟩=some (x,st')→Code.rounds P code Q n a c.w
 | 0,c,a,tm,_,_,_,_,hev=>by cases hev
 | n + 1,c,a,tm,hs,hst,htr,hd,hev=>by
  rw [rounds_succ]
  simp only [zI] at hev
  obtain ⟨c1,h1,h2,h3,h4,h5⟩:=hhead c tm a.tmps hs hst htr
  rw [← h1]
  have hst1 : (head ⟨tm,c.H⟩)=⟨(head ⟨tm,c.H⟩).tmps,c1.H⟩:=by rw [h2]
  rw [hst1] at hev
  split at hev
  ·rename_i st2 he
   refine hstep c1 a _ .normal st2 _ h4 h5 (Nat.le_trans hfl h3.len) he ?_
   intro a' c' e1 e2 e3 e4 e5
   show Code.rounds P code Q n a' c'.w
   refine aF5 hstep hfl hhead hQ n c' a' st2.tmps e3 (h3.trans e2) e4 (e5.trans hd) ?_
   rw [e1]; exact hev
  ·rename_i r hne
   have key : ∀ y,aFj x=y→y ≠ .normal→code.wp P (Exit.then (Code.rounds P code Q n) Q) a c1.w:=by
    intro y hy hyn
    refine hstep c1 a _ x st' _ h4 h5 (Nat.le_trans hfl h3.len) hev ?_
    intro a' c' e1 e2 e3 e4 e5
    have:=hQ a' c' e1 (h3.trans e2) e3 e4 (e5.trans hd)
    rw [hy] at this ⊢
    cases y <;> first | exact (hyn rfl).elim | exact this
   cases x with
   | normal=>exact (hne st' hev).elim
   | exit id=>exact key _ rfl (by simp [aFj])
   | ret=>exact key _ rfl (by simp [aFj])
theorem aW5 [GlobT] {c : Ctx} {x : AV} {u : Value} (hr : RV (ftOf T) c x u) (h3 : nilK c.H x ≠ 3) : ∃ ad n cap,u=.slice ad n cap∧(nilK c.H x=0→ad=none)∧(nilK c.H x=1→ad.isNone=false):=by
 unfold nilK at h3 ⊢
 split at h3
 ·rename_i v
  have:=hr.lit_inv
  subst this
  split at h3
  ·split at h3
   ·split at h3
    ·split at h3
     ·exact ⟨none,0,0,rfl,fun _=>rfl,fun h=>by simp at h⟩
     ·exact (h3 rfl).elim
    ·exact (h3 rfl).elim
   ·exact (h3 rfl).elim
  ·exact (h3 rfl).elim
 ·rename_i f es
  have hp:=hr.sl_inv
  cases hp with
  | nil _ ad cap hf=>exact ⟨ad,0,cap,rfl,fun h=>by simp at h,fun h=>by simp at h⟩
  | sl _ _ b off cap cc Ty fz s vals g1 g2 g3 g4 g5 g6 g7 g8=>exact ⟨_,_,_,rfl,fun h=>by cases es <;> simp at h,fun _=>rfl⟩
 ·rename_i es
  obtain ⟨ad,cap,rfl,_,hor⟩:=hr.vw_inv
  rcases hor with rfl | ⟨b,off,cc,Ty,fz,s,vals,rfl,_⟩
  ·exact ⟨ad,0,cap,rfl,fun h=>by simp at h,fun h=>by simp at h⟩
  ·exact ⟨_,_,_,rfl,fun h=>by cases es <;> simp at h,fun _=>rfl⟩
 ·rename_i id tot off len
  split at h3
  ·exact (h3 rfl).elim
  ·rename_i len'
   split at h3
   ·rename_i s es hob
    split at h3
    ·rename_i hbe
     obtain ⟨ad,cap,s0,n0,hv,g1,g2,g3,g4⟩:=hr.ms_inv
     rw [qP hob] at g1
     cases g1
     obtain ⟨m1,m2⟩:=g4 (Nat.eq_of_beq_eq_true hbe).symm
     refine ⟨ad,_,cap,hv,fun h=>by simp [hob,hbe] at h,fun _=>?_⟩
     rcases m2 with ⟨_,m3,m4,m5⟩ | ⟨b,cc,Ty,a',m3,m4,m5,m6,m7⟩
     ·omega
     ·subst m6; rfl
    ·exact (h3 rfl).elim
   ·exact (h3 rfl).elim
 ·exact (h3 rfl).elim
theorem aW4 [GlobT] (hcf : CfOK P T cf) (hfn : aEj P T) {c : Ctx} {a : Act} {tm : List AV} {ops : Array Oper} {o1 o2 : Oper} {id t d0 d1 : Nat} {Q : Exit→Act→World→Prop}
  (hops : ops.toList=[o1,o2]) (hc1 : aEd P T ops ⟨some d0,.mov (.tmp t),none⟩ o1=true) (hc2 : aR9 P d0 d1 o2=true) (hs : Sim (ftOf T) c) (htr : TR (ftOf T) c tm a.tmps) (hfl : fl ≤ c.H.length)
  (hd0 : d0 < tm.length) (h3 : nilK c.H (dU tm (.tmp t)) ≠ 3)
  (hQ : ∀ b a' c',(nilK c.H (dU tm (.tmp t))=0→b=true)→(nilK c.H (dU tm (.tmp t))=1→b=false)→c'.H=c.H→Step fl c c'→Sim (ftOf T) c'→TR (ftOf T) c' (aD5 tm t d0 d1 b) a'.tmps→a'.defers=a.defers→Q .normal a' c'.w) :
  (Code.region id ops false).wp P Q a c.w:=by
 have e1 : ops[0]? = some o1:=by rw [← Array.getElem?_toList,hops]; rfl
 have e2 : ops[1]? = some o2:=by rw [← Array.getElem?_toList,hops]; rfl
 have hsz : ops.size=2:=by rw [← Array.length_toList,hops]; rfl
 refine wp_region ?_
 rw [hsz]
 show wpOps P ops Q [0,1] a c.w
 rw [wpOps_cons]
 have hev1 : jK P cf fl ⟨some d0,.mov (.tmp t),none⟩ ⟨tm,c.H⟩=some ⟨tm.set d0 (dU tm (.tmp t)),c.H⟩:=rfl
 refine aH2 hcf hfn hs htr hfl e1 hc1 hev1 ?_
 intro a1 c1 f1 f2 f3 f4 f5 _
 rw [wpOps_cons]
 unfold aR9 at hc2
 simp only [Bool.and_eq_true] at hc2
 obtain ⟨⟨h1,h2⟩,h4⟩:=hc2
 have hdst : o2.dst=some d1:=by
  split at h1
  ·rename_i d hd; rw [hd]; simpa using h1
  ·cases h1
 have hguard : o2.guard=none:=by simpa using h2
 split at h4
 ·rename_i ty x' ty' hop
  simp only [Bool.and_eq_true,beq_iff_eq] at h4
  obtain ⟨rfl,h4⟩:=h4
  split at h4
  ·rename_i e hu
   unfold wpOp
   rw [e2]
   simp only
   have hw : Region.wanted o2 (yielded ops a1.tmps)=true:=by simp [Region.wanted,hguard]
   rw [hw]
   simp only [if_true]
   left
   obtain ⟨u,k1,k2⟩:=f4.2 x' (dU tm (.tmp t)) (by simp [hd0])
   obtain ⟨ad,n,cap,hu',z0,z1⟩:=aW5 k2 (by rw [f1]; exact h3)
   rw [f1] at z0 z1
   have hev : a1.eval (.tmp x')=.slice ad n cap:=by
    simp only [Act.eval,Array.getD_eq_getD_getElem?,k1,Option.getD_some,hu']
   have hrun : (execOp a1.eval o2).run P c1.w=.ok (.value (.bool ad.isNone)) c1.w:=by
    have heq : ∀ w : World,(Op.equalIn Op.maxDepth ty (.slice ad n cap) (.slice none 0 0)).run P w=.ok ad.isNone w:=by
     intro w
     have hm : Op.maxDepth=(Op.maxDepth - 1) + 1:=by decide
     rw [hm,Op.equalIn]
     cases ad <;> simp [run_underlying hu]
    simp [execOp,hop,Act.eval,k1,hu',eqGuard,binOp,Op.equal,heq]
   refine (gL (fl:=fl) (v:=.lit (.bool ad.isNone)) f3 hrun (RV.lit _)) _ _ ?_
   intro cv c2 q1 q2 q3 q4
   show Q .normal _ _
   rw [hdst]
   have hcv:=q4.lit_inv
   subst hcv
   refine hQ ad.isNone _ c2 (fun h=>by rw [z0 h]; rfl) z1 (q1.trans f1) (f2.trans q2) q3 ?_ ((aEs _ _ _).trans f5)
   exact TR.put (d:=some d1) (f4.step q2) q4
  ·cases h4
 ·cases h4
theorem aYj [GlobT] {c c' : Ctx} {x : AV} {v : Value} (h : empA x=true) (hr : RV (ftOf T) c x v) : RV (ftOf T) c' (.sl false []) v:=by
 unfold empA at h
 split at h
 ·rename_i u
  have:=hr.lit_inv
  subst this
  split at h
  ·split at h
   ·split at h
    ·split at h
     ·exact .pure _ _ (.nil false none 0 (by simp))
     ·cases h
    ·cases h
   ·cases h
  ·cases h
 ·split at h
  ·have hp:=hr.sl_inv
   cases hp with
   | nil _ ad cap hf=>exact .pure _ _ (.nil false ad cap (by simp))
   | sl _ _ b off cap cc Ty fz s vals g1 g2 g3 g4 g5 g6 g7 g8=>exact (g1 rfl).elim
  ·cases h
 ·cases h
theorem aPo [GlobT] : ∀ (xs ys : List AV),xs.length=ys.length→(aK4 xs ys).length=xs.length∧∀ (t : Nat) (z : AV),(aK4 xs ys)[t]? = some z→∃ x y,xs[t]? = some x∧ys[t]? = some y∧z=bAt x y
 | [],[],_=>⟨rfl,fun t z h=>by simp [aK4] at h⟩
 | x :: r,y :: s,h=>by
  obtain ⟨h1,h2⟩:=aPo r s (by simpa using h)
  refine ⟨by simp [aK4,h1],fun t z hz=>?_⟩
  cases t with
  | zero =>
   simp only [aK4,List.getElem?_cons_zero,Option.some.injEq] at hz
   exact ⟨x,y,rfl,rfl,hz.symm⟩
  | succ t =>
   simp only [aK4,List.getElem?_cons_succ] at hz ⊢
   exact h2 t z hz
 | [],_ :: _,h=>by simp at h
 | _ :: _,[],h=>by simp at h
theorem bEk [GlobT] {c c' : Ctx} {xs ys : List AV} {tv : Array Value} (hl : xs.length=ys.length) (h : TR (ftOf T) c xs tv ∨ TR (ftOf T) c ys tv) : TR (ftOf T) c' (aK4 xs ys) tv:=by
 obtain ⟨h1,h2⟩:=aPo xs ys hl
 have hsz : xs.length=tv.size:=by rcases h with h | h; exact h.1; rw [hl]; exact h.1
 refine ⟨h1.trans hsz,fun t z hz=>?_⟩
 obtain ⟨x,y,g1,g2,rfl⟩:=h2 t z hz
 have hv : ∃ v,tv[t]? = some v∧(RV (ftOf T) c x v ∨ RV (ftOf T) c y v):=by
  rcases h with h | h
  ·obtain ⟨v,k1,k2⟩:=h.2 t x g1; exact ⟨v,k1,.inl k2⟩
  ·obtain ⟨v,k1,k2⟩:=h.2 t y g2; exact ⟨v,k1,.inr k2⟩
 obtain ⟨v,k1,k2⟩:=hv
 refine ⟨v,k1,?_⟩
 unfold bAt
 split
 ·rename_i hx
  split
  ·rename_i hy
   rcases k2 with k2 | k2
   ·exact aYj hx k2
   ·exact aYj hy k2
  ·exact RV.undef _
 ·exact RV.undef _
theorem aX4 [GlobT] {FT : Nat→Option Nat} {c c1 : Ctx} (hs : Sim FT c) (hs1 : Sim FT c1) (h : Step c.H.length c c1) : ∃ c2,c2.w=c1.w∧c2.H=c.H∧Step c.H.length c c2∧Sim FT c2:=by
 obtain ⟨c2,g1,g2,g3,g4,_⟩:=aCa (live:=none) (tr:=true) (tm:=[]) (tv:=#[]) hs hs1 h (Nat.le_refl _) ⟨rfl,fun t x hx=>by simp at hx⟩
 refine ⟨c2,g1,?_,g3,g4⟩
 rw [g2]
 simp only [eO,if_true]
 apply List.ext_getElem?
 intro i
 have hl:=h.len
 have e : (c1.H.take c.H.length).drop c.H.length=[]:=List.drop_eq_nil_of_le (by simp; omega)
 rw [e,List.map_nil,List.append_nil,List.getElem?_take]
 split
 ·rename_i hi
  exact (h.floor i hi).1
 ·rename_i hi
  exact (List.getElem?_eq_none (by omega)).symm
theorem kT [GlobT] (hm : P.follows .mixedOrders=true) (hfo : FlOK cf) (hcf : CfOK P T cf) (hfn : aEj P T) : ∀ (ac : ACode) (code : Code),chkC P T ac code=true→aUh P T fl (evC P cf lf fl ac) code
 | .skip,code,hchk=>by
  cases code <;> simp only [chkC,Bool.false_eq_true] at hchk
  ·intro c a tm x st' Q hs htr hfl hev hQ
   simp only [evC,Option.some.injEq,Prod.mk.injEq] at hev
   obtain ⟨rfl,rfl⟩:=hev
   exact wp_skip (hQ a c rfl (Step.refl _ _) hs htr rfl)
  ·intro c a tm x st' Q hs htr hfl hev hQ
   simp only [evC,Option.some.injEq,Prod.mk.injEq] at hev
   obtain ⟨rfl,rfl⟩:=hev
   exact wp_label (hQ a c rfl (Step.refl _ _) hs htr rfl)
 | .scope p,code,hchk=>by
  cases code <;> try (simp only [chkC,Bool.false_eq_true] at hchk; done)
  rename_i p'
  simp only [chkC] at hchk
  have hp:=kT hm hfo hcf hfn p p' hchk
  intro c a tm x st' Q hs htr hfl hev hQ
  simp only [evC] at hev
  refine wp_scope_straight (hp c a tm x st' _ hs htr hfl hev ?_)
  intro a' c' e1 e2 e3 e4 e5
  have:=hQ a' c' e1 e2 e3 e4 e5
  cases x <;> exact this
 | .nilIf t d0 d1 p q,code,hchk=>by
  cases code <;> try (simp only [chkC,Bool.false_eq_true] at hchk; done)
  rename_i l q'
  cases l <;> try (simp only [chkC,Bool.false_eq_true] at hchk; done)
  rename_i r cd
  cases r <;> try (simp only [chkC,Bool.false_eq_true] at hchk; done)
  rename_i id ops draw
  cases cd <;> try (simp only [chkC,Bool.false_eq_true] at hchk; done)
  rename_i k p' sk
  cases k <;> try (simp only [chkC,Bool.false_eq_true] at hchk; done)
  rename_i e
  cases sk <;> try (simp only [chkC,Bool.false_eq_true] at hchk; done)
  simp only [chkC,Bool.and_eq_true,Bool.not_eq_true',beq_iff_eq] at hchk
  obtain ⟨⟨⟨⟨rfl,rfl⟩,ho⟩,hcp⟩,hcq⟩:=hchk
  have hp:=kT hm hfo hcf hfn p p' hcp
  have hq:=kT hm hfo hcf hfn q q' hcq
  split at ho
  ·rename_i o1 o2 hops
   simp only [Bool.and_eq_true] at ho
   intro c a tm x st' Q hs htr hfl hev hQ
   simp only [evC] at hev
   split at hev
   ·rename_i hd0
    simp only [Bool.and_eq_true] at hd0
    have hd0' : d0 < tm.length:=Nat.le_of_ble_eq_true hd0.1
    have hd1' : e < tm.length:=Nat.le_of_ble_eq_true hd0.2
    have h3 : nilK c.H (dU tm (.tmp t)) ≠ 3:=by
     intro h
     rw [h] at hev
     cases hev
    refine wp_seq (wp_seq (aW4 hcf hfn hops ho.1 ho.2 hs htr hfl hd0' h3 ?_))
    intro b a' c' hb0 hb1 e1 e2 e3 e4 e5
    have hval : a'.eval (.tmp e)=.bool b:=by
     obtain ⟨v,k1,k2⟩:=e4.2 e (.lit (.bool b)) (by simp [aD5,hd1'])
     simp only [Act.eval,Array.getD_eq_getD_getElem?,k1,Option.getD_some,k2.lit_inv]
    have e6 : ∀ tm' : List AV,(⟨tm',c'.H⟩ : St)=⟨tm',c.H⟩:=fun tm'=>by rw [e1]
    have joined : ∀ (pc : ACode) (tm' : List AV) (sa sb : St) (code : Code) (Q' : Exit→Act→World→Prop),aUh P T fl (evC P cf lf fl pc) code→fl=c.H.length→sa.tmps.length=sb.tmps.length →
      (evC P cf lf fl pc ⟨tm',c.H⟩=some (.ret,sa) ∨ evC P cf lf fl pc ⟨tm',c.H⟩=some (.ret,sb))→TR (ftOf T) c' tm' a'.tmps→x=.ret→st'=⟨aK4 sa.tmps sb.tmps,c.H⟩→(∀ a w,Q .ret a w→Q' .ret a w)→code.wp P Q' a' c'.w:=by
     intro pc tm' sa sb code Q' hok hflc hlen hor htr' hx hst hQ'
     subst hx hst
     have key : ∀ (s : St),evC P cf lf fl pc ⟨tm',c.H⟩=some (.ret,s)→(s=sa ∨ s=sb)→code.wp P Q' a' c'.w:=by
      intro s hes hss
      refine hok c' a' tm' .ret s Q' e3 htr' (Nat.le_trans hfl e2.len) (by rw [e6]; exact hes) ?_
      intro a'' c'' k1 k2 k3 k4 k5
      have hst2:=e2.trans k2
      rw [hflc] at hst2
      obtain ⟨c2,m1,m2,m3,m4⟩:=aX4 hs k3 hst2
      rw [← hflc] at m3
      have:=hQ a'' c2 m2 m3 m4 (bEk hlen (by rcases hss with rfl | rfl; exact .inl k4; exact .inr k4)) (k5.trans e5)
      rw [m1] at this
      exact hQ' _ _ this
     rcases hor with h | h
     ·exact key sa h (.inl rfl)
     ·exact key sb h (.inr rfl)
    show (Code.cond (.tmp e) p' .skip).wp P _ a' c'.w
    cases b with
    | true =>
     refine wp_cond_true hval ?_
     split at hev
     ·rename_i hk
      unfold aGu at hev
      split at hev
      ·rename_i x1 s1 he
       split at hev
       ·cases hev
       ·rename_i hne
        cases hev
        refine hp c' a' _ x st' _ e3 e4 (Nat.le_trans hfl e2.len) (by rw [e6]; exact he) ?_
        intro a'' c'' k1 k2 k3 k4 k5
        have:=hQ a'' c'' k1 (e2.trans k2) k3 k4 (k5.trans e5)
        cases x with
        | normal=>exact (hne rfl).elim
        | exit i=>exact this
        | ret=>exact this
      ·cases hev
     ·rename_i hk
      have:=hb1 hk
      cases this
     ·rename_i hk
      split at hev
      ·rename_i hb
       unfold aU5 at hev
       split at hev
       ·rename_i sa sb h1 h2
        split at hev
        ·rename_i hl
         cases hev
         exact joined p _ sa sb p' _ hp (Nat.eq_of_beq_eq_true hb) (Nat.eq_of_beq_eq_true hl) (.inl h1) e4 rfl rfl (fun a w h=>h)
        ·cases hev
       ·cases hev
      ·cases hev
     ·cases hev
    | false =>
     refine wp_cond_false hval (wp_skip ?_)
     show q'.wp P Q a' c'.w
     split at hev
     ·rename_i hk
      have:=hb0 hk
      cases this
     ·rename_i hk
      refine hq c' a' _ x st' _ e3 e4 (Nat.le_trans hfl e2.len) (by rw [e6]; exact hev) ?_
      intro a'' c'' k1 k2 k3 k4 k5
      exact hQ a'' c'' k1 (e2.trans k2) k3 k4 (k5.trans e5)
     ·rename_i hk
      split at hev
      ·rename_i hb
       unfold aU5 at hev
       split at hev
       ·rename_i sa sb h1 h2
        split at hev
        ·rename_i hl
         cases hev
         exact joined q _ sa sb q' _ hq (Nat.eq_of_beq_eq_true hb) (Nat.eq_of_beq_eq_true hl) (.inr h2) e4 rfl rfl (fun a w h=>h)
        ·cases hev
       ·cases hev
      ·cases hev
     ·cases hev
   ·cases hev
  ·cases ho
 | .frz t q,code,hchk=>by
  have hq:=kT hm hfo hcf hfn q code (by cases code <;> (simp only [chkC] at hchk; exact hchk))
  intro c a tm x st' Q hs htr hfl hev hQ
  simp only [evC] at hev
  split at hev
  ·rename_i v H' he
   have key : ∃ c',c'.w=c.w∧c'.H=H'∧Step fl c c'∧Sim (ftOf T) c'∧∀ cv,RV (ftOf T) c (dU tm (.tmp t)) cv→RV (ftOf T) c' v cv:=by
    simp only [evOp] at he
    split at he
    ·rename_i id tot off len hx
     split at he
     ·rename_i hle
      split at he
      ·rename_i s es hob
       split at he
       ·rename_i htot
        cases he
        exact ⟨frz c id s es,rfl,rfl,aAw hle hob,aHl hs hob,fun cv hcv=>aS1 hs hob htot (by rw [hx] at hcv; exact hcv)⟩
       ·cases he
      ·cases he
     ·cases he
    ·rename_i id tot idx off hx
     split at he
     ·rename_i hle
      split at he
      ·rename_i s es hob
       split at he
       ·rename_i htot
        split at he
        ·rename_i e hi
         cases he
         exact ⟨frz c id s es,rfl,rfl,aAw hle hob,aHl hs hob,fun cv hcv=>aV4 hs hob htot hi (by rw [hx] at hcv; exact hcv)⟩
        ·cases he
       ·cases he
      ·cases he
     ·cases he
    ·cases he
     exact ⟨c,rfl,rfl,Step.refl _ _,hs,fun _ h=>h⟩
   obtain ⟨c',k1,k2,k3,k4,k5⟩:=key
   have htr' : TR (ftOf T) c' (tm.set t v) a.tmps:=by
    refine ⟨by simpa using htr.1,fun u y hy=>?_⟩
    rw [List.getElem?_set] at hy
    split at hy
    ·rename_i hut
     subst hut
     split at hy
     ·rename_i hlt
      cases hy
      obtain ⟨cv,g1,g2⟩:=htr.2 t tm[t] (List.getElem?_eq_getElem hlt)
      refine ⟨cv,g1,k5 cv ?_⟩
      simp only [dU,List.getElem?_eq_getElem hlt]
      exact g2
     ·cases hy
    ·obtain ⟨cv,g1,g2⟩:=htr.2 u y hy
     exact ⟨cv,g1,g2.step k3⟩
   have:=hq c' a (tm.set t v) x st' Q k4 htr' (Nat.le_trans hfl k3.len) (by rw [k2]; exact hev) (fun a' c'' e1 e2 e3 e4 e5=>hQ a' c'' e1 (k3.trans e2) e3 e4 e5)
   rwa [k1] at this
  ·cases hev
 | .stop,code,hchk=>by
  intro c a tm x st' Q hs htr hfl hev hQ
  simp only [evC] at hev
  cases hev
 | .mask lx lr tr q,code,hchk=>by
  have hq:=kT hm hfo hcf hfn q code (by cases code <;> (simp only [chkC] at hchk; exact hchk))
  intro c a tm x st' Q hs htr hfl hev hQ
  simp only [evC,eT] at hev
  split at hev
  ·rename_i x1 st1 he
   have key : ∀ y,st'=eO (some lx) tr fl c.H.length st1→evC P cf lf fl q ⟨tm,c.H⟩=some (y,st1)→x=y→code.wp P Q a c.w:=by
    intro y e he e'
    subst e e'
    refine hq c a tm x st1 Q hs htr hfl he ?_
    intro a' c' e1 e2 e3 e4 e5
    obtain ⟨c2,h1,h2,h3,h4,h5⟩:=aCa (live:=some lx) (tr:=tr) hs e3 e2 hfl e4
    have e6 : (⟨st1.tmps,c'.H⟩ : St)=st1:=by rw [e1]
    rw [e6] at h2 h5
    have:=hQ a' c2 h2 h3 h4 h5 e5
    rwa [h1] at this
   split at hev
   ·simp only [Option.some.injEq,Prod.mk.injEq] at hev
    obtain ⟨rfl,rfl⟩:=hev
    refine hq c a tm .ret st1 Q hs htr hfl he ?_
    intro a' c' e1 e2 e3 e4 e5
    exact hQ a' c' e1 e2 e3 (aF4 lr _ _ e4) e5
   ·simp only [Option.some.injEq,Prod.mk.injEq] at hev
    obtain ⟨rfl,rfl⟩:=hev
    exact key .normal rfl he rfl
   ·rename_i i
    simp only [Option.some.injEq,Prod.mk.injEq] at hev
    obtain ⟨rfl,rfl⟩:=hev
    exact key (.exit i) rfl he rfl
  ·cases hev
 | .told li lx lr q,code,hchk=>by
  have hq:=kT hm hfo hcf hfn q code (by cases code <;> (simp only [chkC] at hchk; exact hchk))
  intro c a tm x st' Q hs htr hfl hev hQ
  simp only [evC,eT] at hev
  split at hev
  ·rename_i x1 st1 he
   have key : ∀ y,st'=eO (some lx) false fl c.H.length st1→evC P cf lf fl q ⟨xE li tm,c.H⟩=some (y,st1)→x=y→code.wp P Q a c.w:=by
    intro y e he e'
    subst e e'
    refine hq c a (xE li tm) x st1 Q hs (aF4 li tm _ htr) hfl he ?_
    intro a' c' e1 e2 e3 e4 e5
    obtain ⟨c2,h1,h2,h3,h4,h5⟩:=aCa (live:=some lx) (tr:=false) hs e3 e2 hfl e4
    have e6 : (⟨st1.tmps,c'.H⟩ : St)=st1:=by rw [e1]
    rw [e6] at h2 h5
    have:=hQ a' c2 h2 h3 h4 h5 e5
    rwa [h1] at this
   split at hev
   ·simp only [Option.some.injEq,Prod.mk.injEq] at hev
    obtain ⟨rfl,rfl⟩:=hev
    refine hq c a (xE li tm) .ret st1 Q hs (aF4 li tm _ htr) hfl he ?_
    intro a' c' e1 e2 e3 e4 e5
    exact hQ a' c' e1 e2 e3 (aF4 lr _ _ e4) e5
   ·simp only [Option.some.injEq,Prod.mk.injEq] at hev
    obtain ⟨rfl,rfl⟩:=hev
    exact key .normal rfl he rfl
   ·rename_i i
    simp only [Option.some.injEq,Prod.mk.injEq] at hev
    obtain ⟨rfl,rfl⟩:=hev
    exact key (.exit i) rfl he rfl
  ·cases hev
 | .region draw ck aops,code,hchk=>by
  cases code <;> try (simp only [chkC,Bool.false_eq_true] at hchk; done)
  rename_i id ops draw'
  have hd : draw=draw':=by simp only [chkC,Bool.and_eq_true,beq_iff_eq] at hchk; exact hchk.1.1
  subst hd
  intro c a tm x st' Q hs htr hfl hev hQ
  simp only [evC] at hev
  split at hev
  ·rename_i st1 he
   simp only [Option.some.injEq,Prod.mk.injEq] at hev
   obtain ⟨rfl,rfl⟩:=hev
   exact aO9 hm hfo hcf hfn hchk hs htr hfl he hQ
  ·cases hev
 | .seq p q,code,hchk=>by
  cases code <;> try (simp only [chkC,Bool.false_eq_true] at hchk; done)
  rename_i p' q'
  simp only [chkC,Bool.and_eq_true] at hchk
  have hp:=kT hm hfo hcf hfn p p' hchk.1
  have hq:=kT hm hfo hcf hfn q q' hchk.2
  intro c a tm x st' Q hs htr hfl hev hQ
  simp only [evC] at hev
  refine wp_seq ?_
  split at hev
  ·rename_i st1 he
   refine hp c a tm .normal st1 _ hs htr hfl he ?_
   intro a' c' e1 e2 e3 e4 e5
   show q'.wp P Q a' c'.w
   refine hq c' a' st1.tmps x st' Q e3 e4 (Nat.le_trans hfl e2.len) (by rw [e1]; exact hev) ?_
   intro a'' c'' f1 f2 f3 f4 f5
   exact hQ a'' c'' f1 (e2.trans f2) f3 f4 (f5.trans e5)
  ·rename_i r hne
   refine hp c a tm x st' _ hs htr hfl hev ?_
   intro a' c' e1 e2 e3 e4 e5
   have:=hQ a' c' e1 e2 e3 e4 e5
   cases x with
   | normal=>exact (hne st' hev).elim
   | exit id=>exact this
   | ret=>exact this
 | .cond k p q,code,hchk=>by
  cases code <;> try (simp only [chkC,Bool.false_eq_true] at hchk; done)
  rename_i k' p' q'
  simp only [chkC,Bool.and_eq_true] at hchk
  have hp:=kT hm hfo hcf hfn p p' hchk.1.2
  have hq:=kT hm hfo hcf hfn q q' hchk.2
  intro c a tm x st' Q hs htr hfl hev hQ
  have hk:=eE hs htr hchk.1.1
  simp only [evC] at hev
  split at hev
  ·rename_i hb
   rw [hb] at hk
   exact wp_cond_true hk.lit_inv (hp c a tm x st' Q hs htr hfl hev hQ)
  ·rename_i hb
   rw [hb] at hk
   exact wp_cond_false hk.lit_inv (hq c a tm x st' Q hs htr hfl hev hQ)
  ·cases hev
 | .block i p,code,hchk=>by
  cases code <;> try (simp only [chkC,Bool.false_eq_true] at hchk; done)
  rename_i i' p'
  simp only [chkC,Bool.and_eq_true,beq_iff_eq] at hchk
  obtain ⟨rfl,hchk⟩:=hchk
  have hp:=kT hm hfo hcf hfn p p' hchk
  intro c a tm x st' Q hs htr hfl hev hQ
  simp only [evC] at hev
  refine wp_block ?_
  split at hev
  ·rename_i j st1 he
   refine hp c a tm (.exit j) st1 _ hs htr hfl he ?_
   intro a' c' e1 e2 e3 e4 e5
   simp only [aFj,Exit.inBlock]
   split at hev
   ·rename_i hj
    simp only [Option.some.injEq,Prod.mk.injEq] at hev
    obtain ⟨rfl,rfl⟩:=hev
    rw [if_pos hj]
    exact hQ a' c' e1 e2 e3 e4 e5
   ·rename_i hj
    simp only [Option.some.injEq,Prod.mk.injEq] at hev
    obtain ⟨rfl,rfl⟩:=hev
    rw [if_neg hj]
    exact hQ a' c' e1 e2 e3 e4 e5
  ·rename_i r hne
   refine hp c a tm x st' _ hs htr hfl hev ?_
   intro a' c' e1 e2 e3 e4 e5
   have:=hQ a' c' e1 e2 e3 e4 e5
   cases x with
   | normal=>exact this
   | exit id=>exact (hne id st' hev).elim
   | ret=>exact this
 | .loop live tr p,code,hchk=>by
  cases code <;> try (simp only [chkC,Bool.false_eq_true] at hchk; done)
  rename_i p'
  simp only [chkC] at hchk
  have hp:=kT hm hfo hcf hfn p p' hchk
  intro c a tm x st' Q hs htr hfl hev hQ
  simp only [evC] at hev
  exact wp_loop_rounds lf (aMk hp hs hfl hQ lf c a tm hs (Step.refl _ _) htr rfl hev)
 | .loopV live lx lr t p,code,hchk=>by
  cases code <;> try (simp only [chkC,Bool.false_eq_true] at hchk; done)
  rename_i p'
  simp only [chkC] at hchk
  have hp:=kT hm hfo hcf hfn p p' hchk
  intro c a tm x st' Q hs htr hfl hev hQ
  simp only [evC] at hev
  split at hev
  ·rename_i st1 hown
   obtain ⟨c1,h1,h2,h3,h4,h5⟩:=aWm hs htr hown
   unfold aRq at hev
   split at hev
   ·rename_i x1 st2 he
    have e6 : st1=⟨st1.tmps,c1.H⟩:=by rw [h2]
    rw [e6] at he
    have key : ∀ y,st'=aH8 lx t fl c.H.length st2→x1=y→x=y→(Code.loop p').wp P Q a c.w:=by
     intro y e e1 e'
     subst e e1 e'
     rw [← h1]
     refine wp_loop_rounds lf (aF5 hp (c0:=c) hfl (fun d tm tv k1 k2 k3=>aF9 hs k1 k2 hfl k3) ?_ lf c1 a _ h4 h3 h5 rfl he)
     intro a' c' e1 e2 e3 e4 e5
     obtain ⟨c2,g1,g2,g3,g4,g5⟩:=aF9 (live:=lx) (t:=t) hs e3 e2 hfl e4
     have e7 : (⟨st2.tmps,c'.H⟩ : St)=st2:=by rw [e1]
     rw [e7] at g2 g5
     have:=hQ a' c2 g2 g3 g4 g5 e5
     rwa [g1] at this
    split at hev
    ·simp only [Option.some.injEq,Prod.mk.injEq] at hev
     obtain ⟨rfl,rfl⟩:=hev
     rw [← h1]
     refine wp_loop_rounds lf (aF5 hp (c0:=c) hfl (fun d tm tv k1 k2 k3=>aF9 hs k1 k2 hfl k3) ?_ lf c1 a _ h4 h3 h5 rfl he)
     intro a' c' e1 e2 e3 e4 e5
     exact hQ a' c' e1 e2 e3 (aF4 lr _ _ e4) e5
    ·simp only [Option.some.injEq,Prod.mk.injEq] at hev
     obtain ⟨rfl,rfl⟩:=hev
     exact key .normal rfl rfl rfl
    ·rename_i i
     simp only [Option.some.injEq,Prod.mk.injEq] at hev
     obtain ⟨rfl,rfl⟩:=hev
     exact key (.exit i) rfl rfl rfl
   ·cases hev
  ·cases hev
 | .exit i,code,hchk=>by
  cases code <;> try (simp only [chkC,Bool.false_eq_true] at hchk; done)
  rename_i i'
  simp only [chkC,beq_iff_eq] at hchk
  subst hchk
  intro c a tm x st' Q hs htr hfl hev hQ
  simp only [evC,Option.some.injEq,Prod.mk.injEq] at hev
  obtain ⟨rfl,rfl⟩:=hev
  exact wp_exit (hQ a c rfl (Step.refl _ _) hs htr rfl)
 | .ret,code,hchk=>by
  cases code <;> try (simp only [chkC,Bool.false_eq_true] at hchk; done)
  intro c a tm x st' Q hs htr hfl hev hQ
  simp only [evC,Option.some.injEq,Prod.mk.injEq] at hev
  obtain ⟨rfl,rfl⟩:=hev
  exact wp_ret (hQ a c rfl (Step.refl _ _) hs htr rfl)
end
end Go.Proofs.YtapabkfjeiknbaaGreat.Av
namespace Go.Proofs.YtapabkfjeiknbaaGreat.Av
open Go
section
variable {P : Program} {T : List AFun} {cf : Nat→Nat→List AV→Heap→Option (AV × Heap)} {fl lf : Nat}
theorem aTx [GlobT] (hfo : FlOK cf) : ∀ (l : List AOper) (st st' : St),fl ≤ st.heap.length→yW P cf fl l st=some st'→Fr fl st.heap st'.heap
 | [],st,st',h,hev=>by simp only [yW] at hev; cases hev; exact .refl h
 | o :: r,st,st',h,hev=>by
  simp only [yW] at hev
  split at hev
  ·rename_i st1 h1
   have k:=aP2 hfo h h1
   exact k.trans (aTx hfo r st1 st' k.2 hev)
  ·cases hev
theorem aCb [GlobT] {live : Option (List Bool)} {tr : Bool} {n : Nat} {st : St} (h : fl ≤ st.heap.length) (hn : fl ≤ n) : Fr fl st.heap (eO live tr fl n st).heap:=by
 cases tr with
 | false=>exact .refl h
 | true =>
  simp only [eO,if_true]
  refine ⟨?_,by simp; omega⟩
  rw [List.take_append_of_le_length (by simp; omega),List.take_take,Nat.min_self]
theorem aN2 [GlobT] {live : List Bool} {t n : Nat} {st : St} (h : fl ≤ st.heap.length) (hn : fl ≤ n) : Fr fl st.heap (aH8 live t fl n st).heap:=by
 have hd:=aCb (live:=some live) (tr:=true) h hn
 unfold aH8
 split
 ·split
  ·split
   ·refine ⟨?_,by simp; omega⟩
    simp only
    rw [List.append_assoc,List.take_append_of_le_length (by simp; omega),List.take_take,Nat.min_self]
   ·exact hd
  ·exact hd
 ·exact hd
theorem aLi [GlobT] {head : St→St} {step : St→Option (AExit × St)} (hh : ∀ st,fl ≤ st.heap.length→Fr fl st.heap (head st).heap) (hs : ∀ st x st',fl ≤ st.heap.length→step st=some (x,st')→Fr fl st.heap st'.heap) :
  ∀ (n : Nat) (st : St) (x : AExit) (st' : St),fl ≤ st.heap.length→zI head step n st=some (x,st')→Fr fl st.heap st'.heap
 | 0,_,_,_,_,h=>by cases h
 | n + 1,st,x,st',h,hev=>by
  simp only [zI] at hev
  have k1:=hh st h
  split at hev
  ·rename_i st2 he
   have k2:=hs _ _ _ k1.2 he
   exact (k1.trans k2).trans (aLi hh hs n st2 x st' k2.2 hev)
  ·exact k1.trans (hs _ _ _ k1.2 hev)
theorem yL [GlobT] (hfo : FlOK cf) : ∀ (c : ACode) (st : St) (x : AExit) (st' : St),fl ≤ st.heap.length→evC P cf lf fl c st=some (x,st')→Fr fl st.heap st'.heap
 | .skip,st,x,st',h,hev=>by simp only [evC] at hev; cases hev; exact .refl h
 | .exit _,st,x,st',h,hev=>by simp only [evC] at hev; cases hev; exact .refl h
 | .ret,st,x,st',h,hev=>by simp only [evC] at hev; cases hev; exact .refl h
 | .stop,st,x,st',h,hev=>by simp only [evC] at hev; cases hev
 | .region _ ck ops,st,x,st',h,hev=>by
  simp only [evC] at hev
  split at hev
  ·rename_i st1 he
   cases hev
   exact aTx hfo ops st _ h (aPz he)
  ·cases hev
 | .seq a b,st,x,st',h,hev=>by
  simp only [evC] at hev
  split at hev
  ·rename_i st1 he
   have k:=yL hfo a st _ st1 h he
   exact k.trans (yL hfo b st1 x st' k.2 hev)
  ·exact yL hfo a st x st' h hev
 | .cond c a b,st,x,st',h,hev=>by
  simp only [evC] at hev
  split at hev
  ·exact yL hfo a st x st' h hev
  ·exact yL hfo b st x st' h hev
  ·cases hev
 | .block id c,st,x,st',h,hev=>by
  simp only [evC] at hev
  split at hev
  ·rename_i i st1 he
   have k:=yL hfo c st _ st1 h he
   split at hev <;> cases hev <;> exact k
  ·exact yL hfo c st x st' h hev
 | .loop live tr c,st,x,st',h,hev=>by
  simp only [evC] at hev
  exact aLi (fun st k=>aCb k h) (fun st x st' k he=>yL hfo c st x st' k he) lf st x st' h hev
 | .frz t c,st,x,st',h,hev=>by
  simp only [evC] at hev
  split at hev
  ·rename_i v H he
   have k:=aYa hfo h he
   exact k.trans (yL hfo c _ x st' k.2 hev)
  ·cases hev
 | .mask lx lr tr c,st,x,st',h,hev=>by
  simp only [evC,eT] at hev
  split at hev
  ·rename_i x1 st1 he
   have k:=yL hfo c st _ st1 h he
   split at hev
   ·cases hev; exact k
   ·cases hev; exact k.trans (aCb k.2 h)
   ·cases hev; exact k.trans (aCb k.2 h)
  ·cases hev
 | .told li lx lr c,st,x,st',h,hev=>by
  simp only [evC,eT] at hev
  split at hev
  ·rename_i x1 st1 he
   have k:=yL hfo c ⟨xE li st.tmps,st.heap⟩ _ st1 h he
   split at hev
   ·cases hev; exact k
   ·cases hev; exact k.trans (aCb k.2 h)
   ·cases hev; exact k.trans (aCb k.2 h)
  ·cases hev
 | .scope c,st,x,st',h,hev=>by
  simp only [evC] at hev
  exact yL hfo c st x st' h hev
 | .nilIf t d0 d1 a b,st,x,st',h,hev=>by
  simp only [evC] at hev
  split at hev
  ·split at hev
   ·unfold aGu at hev
    split at hev
    ·rename_i x1 s1 he
     split at hev
     ·cases hev
     ·cases hev
      exact yL hfo a ⟨aD5 st.tmps t d0 d1 true,st.heap⟩ _ _ h he
    ·cases hev
   ·exact yL hfo b ⟨aD5 st.tmps t d0 d1 false,st.heap⟩ _ _ h hev
   ·split at hev
    ·unfold aU5 at hev
     split at hev
     ·split at hev
      ·cases hev; exact .refl h
      ·cases hev
     ·cases hev
    ·cases hev
   ·cases hev
  ·cases hev
 | .loopV live lx lr t c,st,x,st',h,hev=>by
  simp only [evC] at hev
  split at hev
  ·rename_i st1 hown
   have k1 : Fr fl st.heap st1.heap:=by
    unfold aUu at hown
    split at hown
    ·split at hown
     ·rename_i hi
      split at hown
      ·split at hown
       ·cases hown
        exact (Fr.set h hi).trans (.app (Fr.set h hi).2)
       ·cases hown
      ·cases hown
     ·cases hown
    ·cases hown
   unfold aRq at hev
   split at hev
   ·rename_i x1 st2 he
    have k2:=aLi (fun st k=>aN2 k h) (fun st x st' k he=>yL hfo c st x st' k he) lf st1 _ st2 k1.2 he
    have k:=k1.trans k2
    split at hev
    ·cases hev; exact k
    ·cases hev; exact k.trans (aN2 k.2 h)
    ·cases hev; exact k.trans (aN2 k.2 h)
   ·cases hev
  ·cases hev
end
theorem aT0 [GlobT] (P : Program) (T : List AFun) (hp : ∀ cf,FlOK cf→FlOK (aRd cf)) : ∀ n,FlOK (evF P T n)
 | 0=>fun _ _ _ _ _ _ _ h=>by cases h
 | n + 1=>fun fl vi args H r H' h hev=>by
  simp only [evF] at hev
  split at hev
  ·rename_i g hg
   exact hp _ (aT0 P T hp n) fl vi args H r H' h (by simp only [aRd,hg]; exact hev)
  ·split at hev
   ·cases hev
   split at hev
   ·rename_i st he
    split at hev
    ·cases hev; exact yL (aT0 P T hp n) _ _ _ _ h he
    ·cases hev
   ·rename_i st he
    split at hev
    ·cases hev; exact yL (aT0 P T hp n) _ _ _ _ h he
    ·cases hev
   ·cases hev
end Go.Proofs.YtapabkfjeiknbaaGreat.Av
namespace Go.Proofs.YtapabkfjeiknbaaGreat.Av
open Go
section
variable {P : Program} {T : List AFun}
theorem aKc [GlobT] {c : Ctx} {tv : Array Value} {st : St} (hs : Sim (ftOf T) c) (hH : c.H=st.heap) (htr : TR (ftOf T) c st.tmps tv) : ∀ (rs : List ARes) (qs : List ResultVar) (vs : List AV),aFk P rs qs=true→aGp st rs=some vs →
  ∃ us : List Value,us.length=vs.length∧(∀ (i : Nat) (x : AV),vs[i]? = some x→∃ u,us[i]? = some u∧RV (ftOf T) c x u) ∧
   (qs.mapM (fun
    | .tmp t=>pure (tv.getD t undef)
    | .cell a t=>do loadVar t (← asAddr (tv.getD a undef)) : ResultVar→Sem Value)).run P c.w=.ok us c.w
 | [],[],vs,_,h=>by
  simp only [aGp,Option.some.injEq] at h
  subst h
  exact ⟨[],rfl,fun i x hx=>by simp at hx,by simp⟩
 | .tmp t :: r,q :: s,vs,hc,h=>by
  cases q with
  | cell a ty=>simp [aFk] at hc
  | tmp u =>
   simp only [aFk,Bool.and_eq_true,beq_iff_eq] at hc
   obtain ⟨rfl,hc⟩:=hc
   simp only [aGp,aX9] at h
   split at h
   ·rename_i vs' hvs
    cases h
    obtain ⟨us,h1,h2,h3⟩:=aKc hs hH htr r s vs' hc hvs
    have hr:=eE (a:=⟨tv,[]⟩) hs htr (x:=.tmp t) (y:=.tmp t) (by simp [eC])
    refine ⟨tv.getD t undef :: us,by simp [h1],fun i x hx=>?_,?_⟩
    ·cases i with
     | zero =>
      simp only [List.getElem?_cons_zero,Option.some.injEq] at hx
      subst hx
      exact ⟨tv.getD t undef,by rw [List.getElem?_cons_zero],hr⟩
     | succ i =>
      simp only [List.getElem?_cons_succ] at hx ⊢
      exact h2 i x hx
    ·rw [List.mapM_cons]
     simp only [Sem.run_bind,Sem.run_pure,Result.andThen_ok,h3]
   ·cases h
 | .cell t n agg :: r,q :: s,vs,hc,h=>by
  cases q with
  | tmp u=>simp [aFk] at hc
  | cell u ty =>
   simp only [aFk,Bool.and_eq_true,beq_iff_eq] at hc
   obtain ⟨⟨⟨⟨rfl,c1⟩,c2⟩,c3⟩,hc⟩:=hc
   simp only [aGp] at h
   split at h
   ·rename_i v hv
    split at h
    ·rename_i vs' hvs
     cases h
     obtain ⟨us,h1,h2,h3⟩:=aKc hs hH htr r s vs' hc hvs
     have hr:=eE (a:=⟨tv,[]⟩) hs htr (x:=.tmp t) (y:=.tmp t) (by simp [eC])
     have hload : ∃ u,(do loadVar ty (← asAddr (tv.getD t undef)) : Sem Value).run P c.w=.ok u c.w∧RV (ftOf T) c v u:=by
      simp only [aX9] at hv
      split at hv
      ·rename_i cs hcs
       rw [← hH] at hcs
       obtain ⟨ad,ws,hp,hn,hca⟩:=aH4 hs hr hcs
       have hp' : tv.getD t undef=.pointer (some ad):=hp
       cases agg with
       | true =>
        simp only [if_true,Option.some.injEq] at hv
        subst hv
        exact ⟨_,by simp only [hp',asAddr,Sem.run_bind,Sem.run_pure,Result.andThen_ok,aBa hca hn c2 c1 rfl],aDv hca⟩
       | false =>
        simp only [Bool.false_eq_true,if_false] at hv
        split at hv
        ·cases hv
         obtain ⟨u,g1,g2,g3⟩:=hca.2.2 0 v (by simp)
         have hcell:=hca.2.1 0 u g1
         have e0 : ad.add 0=ad:=by simp [Addr.add]
         rw [e0] at hcell
         exact ⟨u,by simp only [hp',asAddr,Sem.run_bind,Sem.run_pure,Result.andThen_ok,aDw hcell c2],g3⟩
        ·cases hv
      ·cases hv
     obtain ⟨u,k1,k2⟩:=hload
     refine ⟨u :: us,by simp [h1],fun i x hx=>?_,?_⟩
     ·cases i with
      | zero =>
       simp only [List.getElem?_cons_zero,Option.some.injEq] at hx
       subst hx
       exact ⟨u,by simp,k2⟩
      | succ i =>
       simp only [List.getElem?_cons_succ] at hx ⊢
       exact h2 i x hx
     ·rw [List.mapM_cons]
      simp only [Sem.run_bind,Sem.run_pure,Result.andThen_ok,h3] at k1 ⊢
      rw [k1]
      simp only [Result.andThen_ok,h3]
    ·cases h
   ·cases h
 | [],_ :: _,_,hc,_=>by cases hc
 | .tmp _ :: _,[],_,hc,_=>by cases hc
 | .cell _ _ _ :: _,[],_,hc,_=>by cases hc
theorem aRb [GlobT] {c : Ctx} {tv : Array Value} {st : St} {fn : Func} {rs : List ARes} {vs : List AV} (hs : Sim (ftOf T) c) (hH : c.H=st.heap) (htr : TR (ftOf T) c st.tmps tv) (hc : aFk P rs fn.results.toList=true) (h : aGp st rs=some vs) :
  ∃ v,(results fn tv).run P c.w=.ok v c.w∧RV (ftOf T) c (aL1 vs) v:=by
 obtain ⟨us,h1,h2,h3⟩:=aKc hs hH htr rs fn.results.toList vs hc h
 refine ⟨if hh : us.toArray.size=1 then us.toArray[0] else .tuple us.toArray,?_,?_⟩
 ·unfold results
  rw [Array.mapM_eq_mapM_toList]
  simp only [Sem.run_bind,Sem.run_map,Sem.run_pure]
  refine Eq.trans (congrArg (fun r=>(Result.andThen (Result.andThen r _) _)) (Eq.trans ?_ h3)) rfl
  congr 2
 ·unfold aL1
  split
  ·rename_i v
   have hl : us.length=1:=by simpa using h1
   obtain ⟨u,g1,g2⟩:=h2 0 v (by simp)
   have hsz : us.toArray.size=1:=by simpa using hl
   rw [dif_pos hsz]
   have : us.toArray[0]=u:=by
    have : us.toArray[0]? = some u:=by simpa using g1
    rw [Array.getElem?_eq_getElem (by omega)] at this
    exact Option.some.inj this
   rw [this]; exact g2
  ·rename_i hne
   have hsz : ¬ us.toArray.size=1:=by
    intro e
    have hl : vs.length=1:=by rw [← h1]; simpa using e
    match vs,hl with
    | [v],_=>exact hne v rfl
   rw [dif_neg hsz]
   refine .tup vs us.toArray (fun i=>(us[i]?).getD gD) (by simpa using h1) ?_ ?_
   ·intro i x hx
    obtain ⟨u,g1,_⟩:=h2 i x hx
    simp [g1]
   ·intro i x hx
    obtain ⟨u,g1,g2⟩:=h2 i x hx
    simpa [g1] using g2
theorem aLm {F : AFun} (h : eH P T F = true) : ∃ fn code, P.funcs[F.fid]? = some fn ∧ fn.body = some code ∧ chkC P T F.body code = true ∧ fn.ntmps = F.nt ∧ aFk P F.rets fn.results.toList = true ∧ (fn.name == "runtime.NumGoroutine") = false := by
 unfold eH at h
 split at h
 ·rename_i fn hf
  split at h
  ·rename_i code hb
   simp only [Bool.and_eq_true,beq_iff_eq,Bool.not_eq_true'] at h
   exact ⟨fn,code,hf,hb,h.1.1.1,h.1.1.2,h.1.2,h.2⟩
  ·cases h
 ·cases h
def aOm (P : Program) (T : List AFun) : Prop:=∀ F ∈ T,eH P T F=true
theorem aTr [GlobT] (h : aOm P T) : aEj P T:=by
 intro vi f hf
 unfold ftOf at hf
 split at hf
 ·rename_i F hF
  cases hf
  obtain ⟨fn,code,h1,h2,_,_,_,h6⟩:=aLm (h F (List.mem_of_getElem? hF))
  exact ⟨fn,h1,by simp [h2],h6⟩
 ·cases hf
structure PrimOK [GlobT] (P : Program) (T : List AFun) : Prop where
 fl : ∀ cf,FlOK cf→FlOK (aRd cf)
 ok : ∀ cf,CfOK P T cf→CfOK P T (aRd cf)
theorem aP4 [GlobT] (hm : P.follows .mixedOrders=true) (hT : aOm P T) (hp : PrimOK P T) : ∀ n,CfOK P T (evF P T n)
 | 0=>by
  intro fl vi f args r H' c vs hev
  cases hev
 | n + 1=>by
  have ih:=aP4 hm hT hp n
  intro fl vi f args r H' c vs hev hf hs hfl hargs
  simp only [evF] at hev
  split at hev
  ·rename_i g hg
   exact hp.ok _ ih fl vi f args r H' c vs (by simp only [aRd,hg]; exact hev) hf hs hfl hargs
  split at hev
  ·cases hev
  ·rename_i F hF
   have hff : f=F.fid:=by
    unfold ftOf at hf
    rw [hF] at hf
    exact (Option.some.inj hf).symm
   subst hff
   obtain ⟨fn,code,h1,h2,h3,h4,h5,_⟩:=aLm (hT F (List.mem_of_getElem? hF))
   refine calls_of_wp h1 h2 ?_
   have htr : TR (ftOf T) c (args++List.replicate (F.nt - args.length) (.lit gD)) (vs++Array.replicate (fn.ntmps - vs.size) undef):=by
    refine ⟨by simp [hargs.1,h4],fun t x hx=>?_⟩
    rw [List.getElem?_append] at hx
    rw [Array.getElem?_append,hargs.1]
    split at hx
    ·rename_i ht
     rw [if_pos ht]
     exact hargs.2 t x hx
    ·rename_i ht
     rw [if_neg ht]
     rw [List.getElem?_replicate] at hx
     split at hx
     ·rename_i hlt
      cases hx
      refine ⟨undef,?_,RV.lit _⟩
      rw [Array.getElem?_replicate,if_pos (by rw [h4]; exact hlt)]
     ·cases hx
   have hbody:=kT (fl:=fl) (lf:=n) hm (aT0 P T hp.fl n) ih (aTr hT) F.body code h3
   have fin : ∀ (x : AExit) (st : St),(x=.normal ∨ x=.ret)→evC P (evF P T n) n fl F.body ⟨args++List.replicate (F.nt - args.length) (.lit gD),c.H⟩=some (x,st) →
     (match aGp st F.rets with | some us=>some (aL1 us,st.heap) | none=>none)=some (r,H') →
     code.wp P (bodyPost P fn fun e w'=>∃ v c',e=.returned v∧c'.w=w'∧c'.H=H'∧c'.X=c.X∧Step fl c c'∧Sim (ftOf T) c'∧RV (ftOf T) c' r v)
      { tmps:=vs++Array.replicate (fn.ntmps - vs.size) undef,defers:=[] } c.w:=by
    intro x st hx he hr
    split at hr
    ·rename_i us hus
     simp only [Option.some.injEq,Prod.mk.injEq] at hr
     obtain ⟨rfl,rfl⟩:=hr
     refine hbody c _ _ x st _ hs htr hfl he ?_
     intro a' c' e1 e2 e3 e4 e5
     obtain ⟨v,k1,k2⟩:=aRb (fn:=fn) e3 e1 e4 h5 hus
     rcases hx with rfl | rfl
     ·exact ⟨e5,v,k1,v,c',rfl,rfl,e1,e2.X,e2,e3,k2⟩
     ·exact ⟨e5,v,k1,v,c',rfl,rfl,e1,e2.X,e2,e3,k2⟩
    ·cases hr
   split at hev
   ·rename_i st he
    exact fin .normal st (.inl rfl) he hev
   ·rename_i st he
    exact fin .ret st (.inr rfl) he hev
   ·cases hev
end
end Go.Proofs.YtapabkfjeiknbaaGreat.Av
namespace Go.Proofs.YtapabkfjeiknbaaGreat.Av
open Go Go.RowKit
def vZ (P : Program) : Nat→TypeId→List AV→Prop
 | 0,_,_=>False
 | n + 1,t,xs =>
  match P.underlying t with
  | some .bool=>∃ b,xs=[.lit (.bool b)]
  | some (.int k)=>∃ z,(Lit.int k z).wf=true∧xs=[.lit (.int k z)]
  | some .string=>∃ s : ByteArray,s.size ≤ maxLen∧xs=[.lit (.string s)]
  | some (.slice e)=>∃ es : List (List AV),xs=[.sl false es]∧es.length ≤ maxLen∧∀ x ∈ es,vZ P n e x
  | some (.struct fs)=>∃ ps : List (List AV),xs=ps.flatten∧ps.length=fs.size∧∀ (i : Nat) (f : Field) (p : List AV),fs[i]? = some f→ps[i]? = some p→vZ P n f.type p
  | some (.array m e)=>∃ ps : List (List AV),xs=ps.flatten∧ps.length=m∧∀ p ∈ ps,vZ P n e p
  | _=>False
def aP7 (P : Program) : Nat→List Field→Nat→Bool
 | o,[],tot=>o == tot
 | o,f :: r,tot=>f.offset == o && aP7 P (o + P.cellsOf f.type) r tot
def okT (P : Program) : Nat→TypeId→Bool
 | 0,_=>false
 | n + 1,t =>
  match P.underlying t with
  | some .bool=>true
  | some (.int _)=>true
  | some .string=>true
  | some (.slice e)=>decide (0 < P.cellsOf e) && okT P n e
  | some (.struct fs)=>aP7 P 0 fs.toList (P.cellsOf t) && fs.toList.all fun f=>okT P n f.type
  | some (.array m e)=>P.cellsOf t == m * P.cellsOf e && okT P n e
  | _=>false
def CR (w : World) (xs : List AV) (cs : List Value) : Prop :=
 xs.length=cs.length∧∀ (j : Nat) (x : AV),xs[j]? = some x→∃ v,cs[j]? = some v∧gA v=true∧RP w (fun _=>True) x v
theorem CR.nil {w : World} : CR w [] []:=⟨rfl,fun j x h=>by simp at h⟩
theorem CR.one {w : World} {x : AV} {v : Value} (hs : gA v=true) (h : RP w (fun _=>True) x v) : CR w [x] [v] :=
 ⟨rfl,fun j y hy=>by
  cases j with
  | zero=>simp only [List.getElem?_cons_zero,Option.some.injEq] at hy; subst hy; exact ⟨v,by simp,hs,h⟩
  | succ j=>simp at hy⟩
theorem CR.append {w : World} {xs ys : List AV} {cs ds : List Value} (h : CR w xs cs) (k : CR w ys ds) : CR w (xs++ys) (cs++ds) :=
 ⟨by simp [h.1,k.1],fun j x hx=>by
  rw [List.getElem?_append] at hx ⊢
  rw [h.1] at hx
  split at hx
  ·rename_i hlt; rw [if_pos hlt]; exact h.2 j x hx
  ·rename_i hlt; rw [if_neg hlt]; exact k.2 _ x hx⟩
theorem CR.flatten [GlobT] {w : World} : ∀ {ps : List (List AV)} {qs : List (List Value)},ps.length=qs.length→(∀ (i : Nat) p q,ps[i]? = some p→qs[i]? = some q→CR w p q)→CR w ps.flatten qs.flatten
 | [],[],_,_=>CR.nil
 | [],_ :: _,h,_=>by simp at h
 | _ :: _,[],h,_=>by simp at h
 | p :: ps,q :: qs,h,k=>by
  simp only [List.flatten_cons]
  exact (k 0 p q rfl rfl).append (CR.flatten (by simpa using h) fun i p' q' h1 h2=>k (i + 1) p' q' (by simpa using h1) (by simpa using h2))
theorem aCz [GlobT] {α : Type} {Q : Nat→α→Prop} : ∀ n,(∀ i,i < n→∃ x,Q i x)→∃ l : List α,l.length=n∧∀ i x,l[i]? = some x→Q i x
 | 0,_=>⟨[],rfl,fun i x h=>by simp at h⟩
 | n + 1,h=>by
  obtain ⟨l,h1,h2⟩:=aCz n fun i hi=>h i (by omega)
  obtain ⟨x,hx⟩:=h n (by omega)
  refine ⟨l++[x],by simp [h1],fun i y hy=>?_⟩
  rw [List.getElem?_append] at hy
  split at hy
  ·exact h2 i y hy
  ·have : i=n:=by
    rcases Nat.lt_or_ge (i - l.length) 1 with h | h
    ·omega
    ·rw [List.getElem?_eq_none (by simpa using h)] at hy; cases hy
   subst this
   rw [h1] at hy
   simp at hy
   subst hy
   exact hx
theorem aLl [GlobT] {P : Program} {α : Type} (cs : List α) {tot : Nat} (hl : cs.length=tot) : ∀ (fs : List Field) (o : Nat),aP7 P o fs tot=true →
  cs.drop o=(fs.map fun f=>(cs.drop f.offset).take (P.cellsOf f.type)).flatten
 | [],o,h=>by
  simp only [aP7,beq_iff_eq] at h
  simp only [List.map_nil,List.flatten_nil,List.drop_eq_nil_iff]
  omega
 | f :: r,o,h=>by
  simp only [aP7,Bool.and_eq_true,beq_iff_eq] at h
  obtain ⟨h1,h2⟩:=h
  have ih:=aLl cs hl r _ h2
  simp only [List.map_cons,List.flatten_cons,← ih,h1]
  rw [← List.drop_drop,List.take_append_drop]
theorem aM0 [GlobT] {α : Type} (s : Nat) : ∀ (m o : Nat) (cs : List α),cs.length=o + m * s →
  cs.drop o=((List.range m).map fun i=>(cs.drop (o + i * s)).take s).flatten
 | 0,o,cs,h=>by simp [List.drop_eq_nil_iff]; omega
 | m + 1,o,cs,h=>by
  have ih:=aM0 s m (o + s) cs (by rw [h,Nat.succ_mul]; omega)
  rw [List.range_succ_eq_map]
  simp only [List.map_cons,List.map_map,List.flatten_cons]
  have e : ((List.range m).map ((fun i=>(cs.drop (o + i * s)).take s) ∘ Nat.succ))=(List.range m).map fun i=>(cs.drop (o + s + i * s)).take s:=by
   refine List.map_congr_left fun i _=>?_
   simp only [Function.comp,Nat.succ_mul]
   congr 2
   omega
  rw [e,← ih,Nat.zero_mul,Nat.add_zero,← List.drop_drop,List.take_append_drop]
section
variable {H : Type} {enc : TypeId × Value→H} {P : Program} {w : World} {base : Nat} {spare : Nat→Bool} {held : Bool}
theorem cells?_get {a : Addr} {n : Nat} {l : List Value} (h : w.cells? base a n=some l) : l.length=n∧∀ i,i < n→w.cell? (a.add i)=l[i]?:=by
 unfold World.cells? at h
 split at h
 ·exact ⟨by simpa using mapM_some_length h,fun i hi=>mapM_some_get h i i (by simp [hi])⟩
 ·cases h
theorem cell?_inv {a : Addr} {v : Value} (h : w.cell? a=some v) : ∃ c T fz,w.heap[a.block]? = some (.cells c T fz)∧a.spot=none∧c[a.off]? = some v:=by
 unfold World.cell? at h
 split at h
 ·rename_i c T fz hb
  split at h
  ·cases h
  ·rename_i hs
   exact ⟨c,T,fz,hb,by simpa using hs,h⟩
 ·cases h
theorem aY6 (a : Addr) (n : Nat) : (a.add n).off=a.off + n:=by
 unfold Addr.add; split
 ·rename_i h; simp [h]
 ·rfl
theorem aEm [GlobT] : ∀ (n : Nat) (t : TypeId) (cs : List Value) (x : DataW H × List MemPlace) (fuel : Nat),okT P n t=true→DataW.trod enc P w base spare held fuel t cs=some x→∃ xs,vZ P n t xs∧CR w xs cs
 | 0,t,cs,x,fuel,hk,_=>by simp [okT] at hk
 | n + 1,t,cs,x,fuel,hk,h=>by
  unfold okT at hk
  unfold vZ
  split at hk
  ·rename_i ht
   obtain ⟨b,rfl,_⟩:=DataW.trod_bool ht h
   exact ⟨_,⟨b,rfl⟩,CR.one rfl (.lit _)⟩
  ·rename_i k ht
   obtain ⟨z,rfl,_,hw⟩:=DataW.trod_int ht h
   exact ⟨_,⟨z,hw,rfl⟩,CR.one rfl (.lit _)⟩
  ·rename_i ht
   obtain ⟨z,rfl,_,hw⟩:=DataW.trod_string ht h
   exact ⟨_,⟨z,hw,rfl⟩,CR.one rfl (.lit _)⟩
  ·rename_i e ht
   simp only [Bool.and_eq_true,decide_eq_true_eq] at hk
   obtain ⟨hpos,hk⟩:=hk
   rcases DataW.trod_slice ht h with ⟨rfl,_⟩ | ⟨a,len,cap,elems,rest,m,_,rfl,_,_,hlc,hcm,hel,hat,_,_⟩
   ·exact ⟨_,⟨[],rfl,by simp,fun x hx=>by cases hx⟩,CR.one rfl (.nil _ _ _ (by simp))⟩
   ·have hall : ∀ i,i < len→∃ y : List AV,vZ P n e y∧∃ l,w.cells? base (a.add (i * P.cellsOf e)) (P.cellsOf e)=some l∧CR w y l:=by
     intro i hi
     have h1:=hat i hi
     have h2 : elems[i]? = some elems[i]:=List.getElem?_eq_getElem (by omega)
     rw [h2] at h1
     cases hc : w.cells? base (a.add (i * P.cellsOf e)) (P.cellsOf e) with
     | none=>rw [hc] at h1; simp at h1
     | some l =>
      rw [hc] at h1
      obtain ⟨y,k1,k2⟩:=aEm n e l _ m hk (by simpa using h1)
      exact ⟨y,k1,l,rfl,k2⟩
    obtain ⟨es,hlen,hes⟩:=aCz len hall
    refine ⟨[.sl false es],⟨es,rfl,by omega,fun y hy=>?_⟩,CR.one rfl ?_⟩
    ·obtain ⟨i,hi,rfl⟩:=List.mem_iff_getElem.1 hy
     exact (hes i _ (List.getElem?_eq_getElem hi)).1
    ·by_cases h0 : es=[]
     ·subst h0
      simp at hlen
      subst hlen
      exact .nil _ _ _ (by simp)
     ·have hpl : 0 < len:=by
       rcases Nat.eq_zero_or_pos len with h | h
       ·rw [h] at hlen; exact absurd (List.length_eq_zero_iff.1 hlen) h0
       ·exact h
      have hcell : ∀ i j x,hZ es i j=some x→∃ v,w.cell? ((a.add (i * P.cellsOf e)).add j)=some v∧gA v=true∧RP w (fun _=>True) x v∧j < P.cellsOf e:=by
       intro i j x hx
       unfold hZ at hx
       cases hi : es[i]? with
       | none=>rw [hi] at hx; cases hx
       | some y =>
        rw [hi] at hx
        obtain ⟨_,l,k1,k2⟩:=hes i y hi
        obtain ⟨v,g1,g2,g3⟩:=k2.2 j x hx
        obtain ⟨c1,c2⟩:=cells?_get k1
        have hj : j < P.cellsOf e:=by
         rcases Nat.lt_or_ge j (P.cellsOf e) with h | h
         ·exact h
         ·rw [List.getElem?_eq_none (by omega)] at g1; cases g1
        exact ⟨v,(c2 j hj).trans g1,g2,g3,hj⟩
      have helen : ∀ y ∈ es,y.length=P.cellsOf e:=by
       intro y hy
       obtain ⟨i,hi,rfl⟩:=List.mem_iff_getElem.1 hy
       obtain ⟨_,l,k1,k2⟩:=hes i _ (List.getElem?_eq_getElem hi)
       rw [k2.1]; exact (cells?_get k1).1
      have hx0 : ∃ x,hZ es 0 0=some x:=by
       cases es with
       | nil=>exact absurd rfl h0
       | cons y r =>
        have:=helen y (by simp)
        exact ⟨y[0],by simp [hZ]⟩
      obtain ⟨x0,hx0⟩:=hx0
      obtain ⟨v0,g1,_,_,_⟩:=hcell 0 0 x0 hx0
      obtain ⟨c,T,fz,hb,hsp,_⟩:=cell?_inv g1
      simp only [Nat.zero_mul,Addr.add,if_true] at hb hsp
      obtain ⟨ab,ao,asp⟩:=a
      simp only at hb hsp
      subst hsp
      have hoff : ∀ i j x,hZ es i j=some x→∃ v,c[ao + (i * P.cellsOf e + j)]? = some v∧gA v=true∧RP w (fun _=>True) x v:=by
       intro i j x hx
       obtain ⟨v,g1,g2,g3,_⟩:=hcell i j x hx
       obtain ⟨c',T',fz',k1,_,k3⟩:=cell?_inv g1
       rw [ChangeShapes.block_add,ChangeShapes.block_add] at k1
       rw [hb] at k1
       cases k1
       rw [aY6,aY6,Nat.add_assoc] at k3
       exact ⟨v,k3,g2,g3⟩
      have hr : RP w (fun _=>True) (.sl false es) (.slice (some ⟨ab,ao,none⟩) es.length cap):=by
       refine .sl false es ab ao cap c T fz (P.cellsOf e) (fun i j=>(c[ao + (i * P.cellsOf e + j)]?).getD undef) h0 trivial hb helen (by omega) (by simp) ?_ ?_
       ·intro i j x hx
        obtain ⟨v,g1,g2,g3⟩:=hoff i j x hx
        exact ⟨by rw [g1]; rfl,by rw [g1]; exact g2⟩
       ·intro i j x hx
        obtain ⟨v,g1,g2,g3⟩:=hoff i j x hx
        show RP w _ x ((c[ao + (i * P.cellsOf e + j)]?).getD undef)
        rw [g1]; exact g3
      rw [hlen] at hr
      exact hr
  ·rename_i fs ht
   simp only [Bool.and_eq_true,List.all_eq_true] at hk
   obtain ⟨hcon,hk⟩:=hk
   obtain ⟨ys,m,_,_,hl,hyl,hat⟩:=DataW.trod_struct ht h
   have hall : ∀ i,i < fs.size→∃ y : List AV,∃ f,fs[i]? = some f∧vZ P n f.type y∧CR w y ((cs.drop f.offset).take (P.cellsOf f.type)):=by
    intro i hi
    have hf : fs[i]? = some fs[i]:=by simp [hi]
    have h1:=hat i _ hf
    rw [List.getElem?_eq_getElem (by omega)] at h1
    obtain ⟨y,k1,k2⟩:=aEm n _ _ _ m (hk fs[i] (by simp)) h1
    exact ⟨y,_,hf,k1,k2⟩
   obtain ⟨ps,hlen,hps⟩:=aCz fs.size hall
   refine ⟨ps.flatten,⟨ps,rfl,hlen,fun i f p hf hp=>?_⟩,?_⟩
   ·obtain ⟨f',g1,g2,_⟩:=hps i p hp
    rw [hf] at g1
    cases g1
    exact g2
   ·have e:=aLl (P:=P) cs hl fs.toList 0 hcon
    rw [List.drop_zero] at e
    rw [e]
    refine CR.flatten (by simp [hlen]) fun i p q hp hq=>?_
    obtain ⟨f,g1,_,g3⟩:=hps i p hp
    rw [List.getElem?_map] at hq
    have : fs.toList[i]? = some f:=by simpa using g1
    rw [this] at hq
    simp only [Option.map_some,Option.some.injEq] at hq
    subst hq
    exact g3
  ·rename_i m e ht
   simp only [Bool.and_eq_true,beq_iff_eq] at hk
   obtain ⟨hcon,hk⟩:=hk
   obtain ⟨ys,m',_,_,hl,hyl,hat⟩:=DataW.trod_array ht h
   have hall : ∀ i,i < m→∃ y : List AV,vZ P n e y∧CR w y ((cs.drop (i * P.cellsOf e)).take (P.cellsOf e)):=by
    intro i hi
    have h1:=hat i hi
    rw [List.getElem?_eq_getElem (by omega)] at h1
    obtain ⟨y,k1,k2⟩:=aEm n _ _ _ m' hk h1
    exact ⟨y,k1,k2⟩
   obtain ⟨ps,hlen,hps⟩:=aCz m hall
   refine ⟨ps.flatten,⟨ps,rfl,hlen,fun p hp=>?_⟩,?_⟩
   ·obtain ⟨i,hi,rfl⟩:=List.mem_iff_getElem.1 hp
    exact (hps i _ (List.getElem?_eq_getElem hi)).1
   ·have e':=aM0 (P.cellsOf e) m 0 cs (by rw [hl,hcon]; omega)
    rw [List.drop_zero] at e'
    rw [e']
    refine CR.flatten (by simp [hlen]) fun i p q hp hq=>?_
    obtain ⟨_,g3⟩:=hps i p hp
    rw [List.getElem?_map] at hq
    have hi : i < m:=by
     rcases Nat.lt_or_ge i m with h | h
     ·exact h
     ·rw [List.getElem?_eq_none (by omega)] at hp; cases hp
    rw [List.getElem?_range hi] at hq
    simp only [Option.map_some,Option.some.injEq,Nat.zero_add] at hq
    subst hq
    exact g3
  ·cases hk
def isAgg (P : Program) (t : TypeId) : Bool :=
 match P.underlying t with
 | some (.struct _)=>true
 | some (.array _ _)=>true
 | _=>false
def aOe (P : Program) (t : TypeId) (xs : List AV) : AV :=
 match isAgg P t with
 | true=>.agg xs
 | false=>xs.headD .undef
def aJu (P : Program) (n : Nat) : List TypeId→List AV→Prop
 | [],[]=>True
 | t :: ts,x :: xs=>(∃ ys,vZ P n t ys∧x=aOe P t ys)∧aJu P n ts xs
 | _,_=>False
def top (W : World) : Ctx:=⟨W,fun _=>False,fun _=>none,[]⟩
theorem bDf (W : World) (b : Nat) : Imm (top W) b:=⟨fun h=>h,fun id h=>by cases h⟩
theorem bDe [GlobT] (FT : Nat→Option Nat) (W : World) (hg : GlobInv (top W)) : Sim FT (top W) where
 gl:=hg
 inj:=fun _ _ _ h=>by cases h
 dom:=fun _ _ h=>by cases h
 nx:=fun _ _ h=>by cases h
 fresh:=fun _ _ h=>h
 lens:=fun id s es h=>by simp [top] at h
 blk:=fun id s es b h=>by simp [top] at h
 map:=fun id es b h=>by simp [top] at h
 raw:=fun id q b h=>by simp [top] at h
theorem bFj [GlobT] {FT : Nat→Option Nat} {n base' : Nat} {t : TypeId} {v : Value} {d : DataW H} {ps : List MemPlace} (hok : Value.okWide P w .any base' t v) (hT : okT P n t=true)
  (h : DataW.Trod enc P w base spare held t v d ps) : ∃ ys,vZ P n t ys∧RV FT (top w) (aOe P t ys) v:=by
 obtain ⟨fuel,h⟩:=h
 obtain ⟨ys,h1,h2⟩:=aEm n t _ _ fuel hT h
 refine ⟨ys,h1,?_⟩
 have hup : ∀ {x : AV} {u : Value},RP w (fun _=>True) x u→RP (top w).w (Imm (top w)) x u:=fun hr=>hr.mono fun b o _ hb=>⟨bDf w b,hb⟩
 have hagg : ∀ cs : Array Value,v=.agg cs→RV FT (top w) (.agg ys) v:=by
  intro cs e
  subst e
  simp only [Value.cells] at h2
  refine .agg ys cs (fun i=>(cs[i]?).getD undef) (by have:=h2.1; simpa using this.symm) (fun i x hx=>?_) (fun i x hx=>?_)
  ·obtain ⟨u,g1,g2,g3⟩:=h2.2 i x hx
   have : cs[i]? = some u:=by simpa using g1
   exact ⟨by rw [this]; rfl,by rw [this]; exact g2⟩
  ·obtain ⟨u,g1,g2,g3⟩:=h2.2 i x hx
   have : cs[i]? = some u:=by simpa using g1
   show RV FT (top w) x ((cs[i]?).getD undef)
   rw [this]
   exact .pure _ _ (hup g3)
 unfold Value.okWide at hok
 unfold aOe isAgg
 split at hok
 ·rename_i fs ht
  obtain ⟨cs,rfl,_⟩:=hok
  simp only [ht]
  exact hagg cs rfl
 ·rename_i m e ht
  obtain ⟨cs,rfl,_⟩:=hok
  simp only [ht]
  exact hagg cs rfl
 ·rename_i hn1 hn2
  have hne : ∀ cs,v ≠ .agg cs:=by
   intro cs e
   subst e
   unfold Cell.okWide Cell.ok at hok
   revert hok
   cases P.underlying t with
   | none=>simp
   | some u=>cases u <;> simp
  have hcells : v.cells=#[v]:=by
   cases v <;> first | rfl | exact absurd rfl (hne _)
  rw [hcells] at h2
  have : (match P.underlying t with | some (.struct _)=>true | some (.array _ _)=>true | _=>false)=false:=by
   split
   ·rename_i ht; exact absurd ht (hn1 _)
   ·rename_i ht; exact absurd ht (hn2 _ _)
   ·rfl
  rw [this]
  obtain ⟨g0,g⟩:=h2
  match ys,g0,g with
  | [],g0,_=>simp at g0
  | y :: r,_,g =>
   obtain ⟨u,g1,_,g3⟩:=g 0 y rfl
   simp at g1
   subst g1
   exact .pure _ _ (hup g3)
theorem aV6 [GlobT] {FT : Nat→Option Nat} {n base' : Nat} : ∀ (ts : List TypeId) (vs : List Value) (ds : List (DataW H)) (ps : List MemPlace),
  (∀ (j : Nat) t v,ts[j]? = some t→vs[j]? = some v→Value.okWide P w .any base' t v)→ts.all (okT P n)=true→DataW.TrodAll enc P w base spare held ts vs ds ps →
  ∃ xs,aJu P n ts xs∧xs.length=vs.length∧∀ (i : Nat) x,xs[i]? = some x→∃ v,vs[i]? = some v∧RV FT (top w) x v
 | [],[],[],_,_,_,_=>⟨[],trivial,rfl,fun i x hx=>by simp at hx⟩
 | t :: ts,v :: vs,d :: ds,ps,hok,hT,h=>by
  obtain ⟨p,q,h1,h2,_⟩:=h
  simp only [List.all_cons,Bool.and_eq_true] at hT
  obtain ⟨ys,k1,k2⟩:=bFj (FT:=FT) (hok 0 t v rfl rfl) hT.1 h1
  obtain ⟨xs,g1,g2,g3⟩:=aV6 ts vs ds q (fun j t' v' e1 e2=>hok (j + 1) t' v' (by simpa using e1) (by simpa using e2)) hT.2 h2
  refine ⟨aOe P t ys :: xs,⟨⟨ys,k1,rfl⟩,g1⟩,by simp [g2],fun i x hx=>?_⟩
  cases i with
  | zero =>
   simp only [List.getElem?_cons_zero,Option.some.injEq] at hx
   subst hx
   exact ⟨v,rfl,k2⟩
  | succ i =>
   simp only [List.getElem?_cons_succ] at hx ⊢
   exact g3 i x hx
 | [],[],_ :: _,_,_,_,h=>h.elim
 | [],_ :: _,_,_,_,_,h=>h.elim
 | _ :: _,[],_,_,_,_,h=>h.elim
 | _ :: _,_ :: _,[],_,_,_,h=>h.elim
theorem aGk [GlobT] {ts : List TypeId} (hl : laidOutB P=true) {W W' : World} (hb : Below W.heap.size W W') : ∀ (ts : List TypeId) (vs : List Value) (ds : List (DataW H)) (ps : List MemPlace),
  (∀ t ∈ ts,P.readableRec t=true∧t < P.types.size)→(∀ x ∈ ps,x.block < W.heap.size)→DataW.TrodAll enc P W 0 (fun _=>true) true ts vs ds ps →
  DataW.TrodAll enc P W' 0 (fun b=>decide (b < W.heap.size)) true ts vs ds ps
 | [],[],[],_,_,_,h=>h
 | t :: ts,v :: vs,d :: ds,ps,hr,hlt,h=>by
  obtain ⟨p,q,h1,h2,rfl⟩:=h
  exact ⟨p,q,Below.trod hl (hr t (by simp)).1 (hr t (by simp)).2 h1 hb fun x hx=>hlt x (by simp [hx]),
   aGk (ts:=ts) hl hb ts vs ds q (fun t' ht'=>hr t' (by simp [ht'])) (fun x hx=>hlt x (by simp [hx])) h2,rfl⟩
 | [],[],_ :: _,_,_,_,h=>h.elim
 | [],_ :: _,_,_,_,_,h=>h.elim
 | _ :: _,[],_,_,_,_,h=>h.elim
 | _ :: _,_ :: _,[],_,_,_,h=>h.elim
theorem aPn [GlobT] {T : List AFun} (hm : P.follows .mixedOrders=true) (hT : aOm P T) (hPr : PrimOK P T) {vi f n : Nat} {fn : Func} (hvi : ftOf T vi=some f) {s : ChangeSpec} (hvars : s.vars=[]) {tb : TypeId} (hrt : fn.resultTypes=#[tb]) (htb : P.underlying tb=some .bool)
  (hl : laidOutB P=true) (hts : ∀ t ∈ fn.params.toList,P.readableRec t=true∧t < P.types.size) (hok : fn.params.toList.all (okT P n)=true)
  (hev : ∀ xs,aJu P n fn.params.toList xs→∃ k H',evF P T k 0 vi xs []=some (.lit (.bool true),H'))
  {W : World} {base' : Nat} {args : Array Value} {ds gs : List (DataW H)} {before : List MemPlace} {fresh handsOn : Bool} (hgl : GlobInv (top W))
  (hfn : (s.fn H (ds++gs)).results=[.lit (.bool true)]∧(s.fn H (ds++gs)).args=ds∧(s.fn H (ds++gs)).vars=[])
  (hval : ∀ (j : Nat) t v,fn.params[j]? = some t→args[j]? = some v→Value.okWide P W .any base' t v)
  (hW : DataW.Whole enc P fn.params.toList s.vars false W args.toList ds gs before) :
  Calls P f args W fun e W'=>∃ v,e=.returned v∧s.post enc P fn false fresh handsOn false W args v W':=by
 have hW':=hW
 obtain ⟨p,q,hA,hV,rfl,hfz,hnd⟩:=hW
 obtain ⟨xs,g1,g2,g3⟩:=aV6 (FT:=ftOf T) (n:=n) fn.params.toList args.toList ds p (fun j t v e1 e2=>hval j t v (by simpa using e1) (by simpa using e2)) hok hA
 obtain ⟨k,H',he⟩:=hev xs g1
 have hargs : aGh (ftOf T) (top W) xs args:=⟨by simpa using g2.symm,fun i x hx=>by
  obtain ⟨v,h1,h2⟩:=g3 i x hx
  exact ⟨v,by simpa using h1,h2⟩⟩
 refine (aP4 hm hT hPr k 0 vi f xs _ H' (top W) args he hvi (bDe _ W hgl) (Nat.zero_le _) hargs).mono fun e W' hq=>?_
 obtain ⟨v,c',rfl,rfl,_,_,hst,_,hrv⟩:=hq
 have hv : v=.bool true:=hrv.lit_inv
 subst hv
 have hb : Below W.heap.size W c'.w:=⟨hst.os,hst.tape,hst.output,hst.size,fun i hi=>hst.frame i hi (fun id h=>by cases h)⟩
 have hq0 : gs=[]∧q=[]:=by
  rw [hvars] at hV
  cases gs with
  | nil=>exact ⟨rfl,hV⟩
  | cons _ _=>exact hV.elim
 obtain ⟨rfl,rfl⟩:=hq0
 have hlt : ∀ x ∈ p,x.block < W.heap.size:=fun x hx=>hW'.lt x (by simpa using hx)
 have hA':=aGk (ts:=[]) hl hb fn.params.toList args.toList ds p hts hlt hA
 refine ⟨_,rfl,ds,[],p++[],[],p,[],hW',?_,?_,?_,hb.frame _,fun h=>by cases h⟩
 ·rw [hfn.1,hrt]
  exact ⟨[],[],shut_bool htb _,rfl,rfl⟩
 ·rw [hfn.2.1]
  exact hA'
 ·rw [hvars,hfn.2.2]
  rfl
end
end Go.Proofs.YtapabkfjeiknbaaGreat.Av
namespace Go.Proofs.YtapabkfjeiknbaaGreat.Av
open Go
def pv [GlobT] (P : Program) (T : List AFun) (n vi : Nat) (args : List AV) : Option AV :=
 match evF P T n 0 vi args [] with
 | some (r,H')=>some (mI H' 0 r)
 | none=>none
theorem bBa [GlobT] {P : Program} {T : List AFun} {n fl vi : Nat} {args : List AV} {H : Heap} :
  yM (evF P T n) fl true vi args H=match pJ args with
   | true=>(match pv P T n vi (args.map nrm2) with | some r=>some (r,H) | none=>none)
   | false=>(match evF P T n H.length vi (args.map nrm2) H with | some (r,H')=>some (mI H' H.length r,H) | none=>none):=by
 unfold yM pv
 cases pJ args with
 | false=>rfl
 | true =>
  simp only
  cases evF P T n 0 vi (args.map nrm2) [] with
  | none=>rfl
  | some x=>rfl
def finA [GlobT] (F : AFun) : Option (AExit × St)→Option (AV × Heap)
 | some (.normal,st)=>match aGp st F.rets with
  | some vs=>some (aL1 vs,st.heap)
  | none=>none
 | some (.ret,st)=>match aGp st F.rets with
  | some vs=>some (aL1 vs,st.heap)
  | none=>none
 | _=>none
theorem bB2 [GlobT] {P : Program} {T : List AFun} {n fl vi : Nat} {args : List AV} {H : Heap} (F : AFun) (h : getF T vi=some F) :
  evF P T (n + 1) fl vi args H=finA F (evC P (evF P T n) n fl F.body ⟨args++List.replicate (F.nt - args.length) (.lit gD),H⟩):=by
 have hp : GlobT.prim vi=none:=by
  unfold getF at h
  split at h
  ·cases h
  ·assumption
 have h' : T[vi]? = some F:=by simpa only [getF,hp] using h
 simp only [evF,hp,h',finA]
 split <;> split <;> simp_all
def aZu : Option (AV × Heap)→Option AV
 | some (r,H')=>some (mI H' 0 r)
 | none=>none
theorem bFn [GlobT] {P : Program} {T : List AFun} {n vi : Nat} {args : List AV} (F : AFun) (h : getF T vi=some F) :
  pv P T (n + 1) vi args=aZu (finA F (evC P (evF P T n) n 0 F.body ⟨args++List.replicate (F.nt - args.length) (.lit gD),[]⟩)):=by
 unfold pv
 rw [bB2 F h]
 rfl
theorem aYb [GlobT] {P : Program} {T : List AFun} {n vi : Nat} {args : List AV} {b : Bool} (h : pv P T n vi args=some (.lit (.bool b))) : ∃ H',evF P T n 0 vi args []=some (.lit (.bool b),H'):=by
 unfold pv at h
 split at h
 ·rename_i r H' he
  simp only [Option.some.injEq] at h
  refine ⟨H',?_⟩
  rw [he]
  cases r with
  | lit v =>
   simp only [mI,qM,jX,nrmV] at h
   revert h
   split
   ·split
    ·split
     ·split
      ·intro h; cases h
      ·intro h; cases h
     ·intro h; cases h
    ·intro h; cases h
   ·intro h; simp only [AV.lit.injEq] at h; rw [h]
  | agg cs=>simp [mI,qM] at h
  | tup cs=>simp [mI] at h
  | fn vi caps=>cases caps <;> simp [mI,qM,jX] at h
  | ms id tot off len =>
   simp only [mI,qM,jX,Nat.not_lt_zero,if_false,nV,lD,Nat.zero_le,if_true] at h
   split at h <;> cases h
  | ptr=>simp [mI,qM,jX] at h
  | mp id =>
   simp only [mI,qM,jX,Nat.not_lt_zero,if_false,nV,lD,Nat.zero_le,if_true] at h
   split at h <;> cases h
  | it=>simp [mI,qM,jX] at h
  | _=>simp [mI,qM,jX] at h
 ·cases h
def aW7 (head : St→St) : Option (AExit × St)→St→Prop
 | some (.normal,st),s=>head st=s
 | _,_=>False
theorem aW6 {head : St→St} {r : Option (AExit × St)} {s : St} (h : aW7 head r s) : ∃ st',r=some (.normal,st')∧head st'=s:=by
 unfold aW7 at h
 split at h
 ·exact ⟨_,rfl,h⟩
 ·exact h.elim
section
variable {P : Program} {cf : Nat→Nat→List AV→Heap→Option (AV × Heap)} {lf fl : Nat} {st : St}
end
theorem bFo {P : Program} (a b : Int) : eD P (Builtin.max_ #[] 0 #[.int .i64 a,.int .i64 b])=some (.int .i64 (if a < b then b else a)):=by
 by_cases h : a < b <;> simp [Builtin.max_,Builtin.max2,h] <;> rfl
theorem aVm {fl id s bytes tot : Nat} {H : Heap} {es ys : List (List AV)} (hid : H[id]? = some (.blk s es)) (hes : es.length=tot) (hys : zJ s ys=true) (hs : 0 < s) (hr : room ys.length bytes=true)
  (hr2 : room (tot + ys.length) bytes=true) (hfl : fl ≤ id) :
  iE fl H s bytes (.ms id tot 0 tot) ys=some (.ms id (tot + ys.length) 0 (tot + ys.length),H.set id (.blk s (es++ys))):=by
 have hlt : id < H.length:=by
  rcases Nat.lt_or_ge id H.length with h | h
  ·exact h
  ·rw [List.getElem?_eq_none h] at hid; cases hid
 unfold iE
 simp only [hys,hs,hr,hid,hes,hr2,hfl,and_self,if_true]
 by_cases h0 : ys.length=0
 ·have : ys=[]:=List.length_eq_zero_iff.1 h0
  subst this
  simp only [List.length_nil,Nat.add_zero,List.append_nil,if_true,Option.some.injEq,Prod.mk.injEq,true_and]
  apply List.ext_getElem?
  intro i
  rw [List.getElem?_set]
  split
  ·rename_i hi; subst hi; first | exact hid | (rw [if_pos hlt]; exact hid)
  ·rfl
 ·simp only [h0,if_false]
end Go.Proofs.YtapabkfjeiknbaaGreat.Av
namespace Go.Proofs.YtapabkfjeiknbaaGreat.Av
open Go
section
variable {P : Program} {cf cf' : Nat→Nat→List AV→Heap→Option (AV × Heap)}
theorem aMx (h : Le cf cf') {fl vi : Nat} {pu : Bool} {args : List AV} {H : Heap} {x : AV × Heap} (hx : yM cf fl pu vi args H=some x) : yM cf' fl pu vi args H=some x:=by
 unfold yM at hx ⊢
 cases pu with
 | true =>
  simp only at hx ⊢
  cases hp : pJ args with
  | true =>
   rw [hp] at hx
   simp only at hx ⊢
   split at hx
   ·rename_i r H' he; rw [h _ _ _ _ _ he]; exact hx
   ·cases hx
  | false =>
   rw [hp] at hx
   simp only at hx ⊢
   split at hx
   ·rename_i r H' he; rw [h _ _ _ _ _ he]; exact hx
   ·cases hx
 | false=>exact h _ _ _ _ _ hx
theorem aP3 [GlobT] (h : Le cf cf') {fl : Nat} {op : AOp} {tm : List AV} {H : Heap} {x : AV × Heap} (hx : evOp P cf fl op tm H=some x) : evOp P cf' fl op tm H=some x:=by
 cases op with
 | call pu vi args=>exact aMx h hx
 | callv pu y args =>
  simp only [evOp] at hx ⊢
  split at hx
  ·rename_i vi caps he
   exact aMx h hx
  ·cases hx
 | callF vi args=>exact h _ _ _ _ _ hx
 | callT s vi args =>
  simp only [evOp] at hx ⊢
  cases hc : cf 0 vi ((args.map (dU tm)).map (nO H)) [] with
  | none=>rw [hc] at hx; cases hx
  | some y=>rw [h _ _ _ _ _ hc,← hc]; exact hx
 | callB vi args =>
  simp only [evOp] at hx ⊢
  split at hx
  ·rename_i r H1 he
   rw [h _ _ _ _ _ he]; exact hx
  ·cases hx
 | callS vi args =>
  simp only [evOp] at hx ⊢
  split at hx
  ·rename_i r H1 he
   rw [h _ _ _ _ _ he]; exact hx
  ·cases hx
 | _=>exact hx
theorem aLh [GlobT] (h : Le cf cf') {fl : Nat} {o : AOper} {st st' : St} (hx : jK P cf fl o st=some st') : jK P cf' fl o st=some st':=by
 unfold jK at hx ⊢
 split at hx
 ·split at hx
  ·rename_i v H he
   rw [aP3 h he]; exact hx
  ·cases hx
 ·exact hx
 ·cases hx
theorem aMp [GlobT] (h : Le cf cf') {fl : Nat} : ∀ (l : List AOper) {st st' : St},yW P cf fl l st=some st'→yW P cf' fl l st=some st'
 | [],_,_,hx=>hx
 | o :: r,st,st',hx=>by
  simp only [yW] at hx ⊢
  split at hx
  ·rename_i s1 he
   rw [aLh h he]; exact aMp h r hx
  ·cases hx
theorem aLg [GlobT] (h : Le cf cf') {fl : Nat} : ∀ (l : List AOper) {st : St} {q : List St},aAs P cf fl l st=some q→aAs P cf' fl l st=some q
 | [],_,_,hx=>hx
 | o :: r,st,q,hx=>by
  simp only [aAs] at hx ⊢
  split at hx
  ·rename_i s1 he
   rw [aLh h he]
   simp only
   split at hx
   ·rename_i l1 h1
    rw [aLg h r h1]; exact hx
   ·cases hx
  ·cases hx
theorem aVe [GlobT] (h : Le cf cf') {fl : Nat} {ck : List (Nat × Nat)} {ops : List AOper} {st st' : St} (hx : aFb P cf fl ck ops st=some st') : aFb P cf' fl ck ops st=some st':=by
 cases ck with
 | nil=>exact aMp h ops hx
 | cons c r =>
  simp only [aFb] at hx ⊢
  split at hx
  ·rename_i l he
   rw [aLg h ops he]; exact hx
  ·cases hx
theorem aGd [GlobT] {head : St→St} {step step' : St→Option (AExit × St)} (hs : ∀ st x,step st=some x→step' st=some x) : ∀ (n m : Nat) (st : St) (x : AExit × St),n ≤ m→zI head step n st=some x→zI head step' m st=some x
 | 0,_,_,_,_,hx=>by cases hx
 | n + 1,m,st,x,hnm,hx=>by
  obtain ⟨m,rfl⟩ : ∃ q,m=q + 1:=⟨m - 1,by omega⟩
  simp only [zI] at hx ⊢
  cases he : step (head st) with
  | none=>rw [he] at hx; cases hx
  | some r =>
   rw [he] at hx
   rw [hs _ _ he]
   obtain ⟨y,s⟩:=r
   cases y with
   | normal=>exact aGd hs n m s x (by omega) hx
   | exit i=>exact hx
   | ret=>exact hx
theorem aMh {lx lr : List Bool} {tr : Bool} {fl n : Nat} {r r' : Option (AExit × St)} {x : AExit × St} (h : ∀ y,r=some y→r'=some y) (hx : eT lx lr tr fl n r=some x) : eT lx lr tr fl n r'=some x:=by
 cases r with
 | none=>cases hx
 | some y=>rw [h y rfl]; exact hx
theorem aU4 [GlobT] {lx lr : List Bool} {t fl n : Nat} {r r' : Option (AExit × St)} {x : AExit × St} (h : ∀ y,r=some y→r'=some y) (hx : aRq lx lr t fl n r=some x) : aRq lx lr t fl n r'=some x:=by
 cases r with
 | none=>cases hx
 | some y=>rw [h y rfl]; exact hx
theorem nU [GlobT] (h : Le cf cf') {lf lf' fl : Nat} (hl : lf ≤ lf') : ∀ (c : ACode) (st : St) (x : AExit × St),evC P cf lf fl c st=some x→evC P cf' lf' fl c st=some x
 | .skip,_,_,hx=>hx
 | .exit _,_,_,hx=>hx
 | .ret,_,_,hx=>hx
 | .stop,_,_,hx=>hx
 | .region _ ck ops,st,x,hx=>by
  simp only [evC] at hx ⊢
  split at hx
  ·rename_i s1 he
   rw [aVe h he]; exact hx
  ·cases hx
 | .seq a b,st,x,hx=>by
  simp only [evC] at hx ⊢
  cases he : evC P cf lf fl a st with
  | none=>rw [he] at hx; cases hx
  | some r =>
   rw [he] at hx
   rw [nU h hl a st r he]
   obtain ⟨y,s⟩:=r
   cases y with
   | normal=>exact nU h hl b s x hx
   | exit i=>exact hx
   | ret=>exact hx
 | .cond c a b,st,x,hx=>by
  simp only [evC] at hx ⊢
  split at hx
  ·exact nU h hl a st x hx
  ·exact nU h hl b st x hx
  ·cases hx
 | .block id c,st,x,hx=>by
  simp only [evC] at hx ⊢
  cases he : evC P cf lf fl c st with
  | none=>rw [he] at hx; cases hx
  | some r =>
   rw [he] at hx
   rw [nU h hl c st r he]
   exact hx
 | .loop live tr c,st,x,hx=>by
  simp only [evC] at hx ⊢
  exact aGd (fun st x hs=>nU h hl c st x hs) lf lf' st x hl hx
 | .frz t c,st,x,hx=>by
  simp only [evC] at hx ⊢
  split at hx
  ·rename_i v H he
   rw [aP3 h he]
   exact nU h hl c _ x hx
  ·cases hx
 | .mask lx lr tr c,st,x,hx=>by
  simp only [evC] at hx ⊢
  exact aMh (fun y hy=>nU h hl c st y hy) hx
 | .told li lx lr c,st,x,hx=>by
  simp only [evC] at hx ⊢
  exact aMh (fun y hy=>nU h hl c _ y hy) hx
 | .scope c,st,x,hx=>by
  simp only [evC] at hx ⊢
  exact nU h hl c st x hx
 | .nilIf t d0 d1 a b,st,x,hx=>by
  simp only [evC] at hx ⊢
  split at hx
  ·split at hx
   ·cases he : evC P cf lf fl a ⟨aD5 st.tmps t d0 d1 true,st.heap⟩ with
    | none=>rw [he] at hx; cases hx
    | some r=>rw [he] at hx; rw [nU h hl a _ r he]; exact hx
   ·exact nU h hl b _ x hx
   ·split at hx
    ·cases he : evC P cf lf fl a ⟨aD5 st.tmps t d0 d1 true,st.heap⟩ with
     | none=>rw [he] at hx; cases hx
     | some r =>
      cases he2 : evC P cf lf fl b ⟨aD5 st.tmps t d0 d1 false,st.heap⟩ with
      | none=>rw [he,he2] at hx; obtain ⟨y,s⟩:=r; cases y <;> cases hx
      | some r2=>rw [he,he2] at hx; rw [nU h hl a _ r he,nU h hl b _ r2 he2]; exact hx
    ·cases hx
   ·cases hx
  ·cases hx
 | .loopV live lx lr t c,st,x,hx=>by
  simp only [evC] at hx ⊢
  split at hx
  ·rename_i s1 he
   exact aU4 (fun y hy=>aGd (fun st x hs=>nU h hl c st x hs) lf lf' s1 y hl hy) hx
  ·cases hx
end
theorem aYc [GlobT] (P : Program) (T : List AFun) : ∀ n,Le (evF P T n) (evF P T (n + 1))
 | 0=>fun _ _ _ _ _ h=>by cases h
 | n + 1=>fun fl vi args H x hx=>by
  rw [evF] at hx ⊢
  split at hx
  ·rename_i g hg
   exact g.mono _ _ (aYc P T n) _ _ _ _ hx
  split at hx
  ·cases hx
  ·rename_i F hF
   cases he : evC P (evF P T n) n fl F.body ⟨args++List.replicate (F.nt - args.length) (.lit gD),H⟩ with
   | none=>rw [he] at hx; cases hx
   | some r =>
    rw [he] at hx
    rw [nU (aYc P T n) (Nat.le_succ n) F.body _ r he]
    exact hx
theorem bA0 [GlobT] {P : Program} {T : List AFun} {n m fl vi : Nat} {args : List AV} {H : Heap} {x : AV × Heap} (hnm : n ≤ m) (hx : evF P T n fl vi args H=some x) : evF P T m fl vi args H=some x:=by
 induction hnm with
 | refl=>exact hx
 | step _ ih=>exact aYc P T _ _ _ _ _ _ ih
theorem aWc [GlobT] {P : Program} {T : List AFun} {n m vi : Nat} {args : List AV} {r : AV} (hnm : n ≤ m) (hx : pv P T n vi args=some r) : pv P T m vi args=some r:=by
 unfold pv at hx ⊢
 split at hx
 ·rename_i r' H' he
  rw [bA0 hnm he]; exact hx
 ·cases hx
def aYe : Value→Value→Bool
 | .int k a,.int k' b=>k == k' && (match Int.decEq a b with | .isTrue _=>true | .isFalse _=>false)
 | .bool a,.bool b=>a == b
 | .string a,.string b=>decide (a=b)
 | .slice none 0 0,.slice none 0 0=>true
 | .pointer none,.pointer none=>true
 | .map none,.map none=>true
 | _,_=>false
theorem aT1 {v u : Value} (h : aYe v u=true) : v=u:=by
 unfold aYe at h
 split at h
 ·rename_i k a k' b
  simp only [Bool.and_eq_true,beq_iff_eq] at h
  obtain ⟨rfl,h2⟩:=h
  split at h2
  ·rename_i e _; rw [e]
  ·cases h2
 ·rename_i a b; simp only [beq_iff_eq] at h; rw [h]
 ·rename_i a b; rw [of_decide_eq_true h]
 ·rfl
 ·rfl
 ·rfl
 ·cases h
def eqL {α : Type} (f : α→α→Bool) : List α→List α→Bool
 | [],[]=>true
 | x :: r,y :: s=>match f x y with
  | true=>eqL f r s
  | false=>false
 | _,_=>false
theorem aIv [GlobT] {α : Type} {f : α→α→Bool} (hf : ∀ x y,f x y=true→x=y) : ∀ (l m : List α),eqL f l m=true→l=m
 | [],[],_=>rfl
 | x :: r,y :: s,h=>by
  simp only [eqL] at h
  split at h
  ·rename_i he
   rw [hf x y he,aIv hf r s h]
  ·cases h
 | [],_ :: _,h=>by cases h
 | _ :: _,[],h=>by cases h
def eqAV : Nat→AV→AV→Bool
 | 0,_,_=>false
 | d + 1,x,y=>match x with
  | .lit v=>match y with
   | .lit u=>aYe v u
   | _=>false
  | .sl f es=>match y with
   | .sl g fs=>f == g && eqL (eqL (eqAV d)) es fs
   | _=>false
  | .agg cs=>match y with
   | .agg ds=>eqL (eqAV d) cs ds
   | _=>false
  | .fn v []=>match y with
   | .fn u []=>Nat.beq v u
   | _=>false
  | .undef=>match y with
   | .undef=>true
   | _=>false
  | .vw es=>match y with
   | .vw fs=>eqL (eqL (eqAV d)) es fs
   | _=>false
  | .rmp es=>match y with
   | .rmp fs=>eqL (fun a b=>aYe a.1 b.1 && eqAV d a.2 b.2) es fs
   | _=>false
  | _=>false
theorem aYf [GlobT] : ∀ (d : Nat) (x y : AV),eqAV d x y=true→x=y
 | 0,_,_,h=>by cases h
 | d + 1,x,y,h=>by
  have ih:=aYf d
  unfold eqAV at h
  split at h
  ·split at h
   ·rw [aT1 h]
   ·cases h
  ·split at h
   ·simp only [Bool.and_eq_true,beq_iff_eq] at h
    rw [h.1,aIv (aIv ih) _ _ h.2]
   ·cases h
  ·split at h
   ·rw [aIv ih _ _ h]
   ·cases h
  ·split at h
   ·rw [Nat.eq_of_beq_eq_true h]
   ·cases h
  ·split at h
   ·rfl
   ·cases h
  ·split at h
   ·rw [aIv (aIv ih) _ _ h]
   ·cases h
  ·split at h
   ·refine congrArg AV.rmp (aIv (f:=fun (a b : Value × AV)=>aYe a.1 b.1 && eqAV d a.2 b.2) (fun a b hab=>?_) _ _ h)
    simp only [Bool.and_eq_true] at hab
    exact Prod.ext (aT1 hab.1) (ih _ _ hab.2)
   ·cases h
  ·cases h
abbrev Memo:=List (Nat × Nat × List AV × AV)
def aRs (n vi : Nat) (args : List AV) : Memo→Option AV
 | []=>none
 | (b,w,as,r) :: m=>match Nat.beq vi w with
  | true=>match Nat.ble b n with
   | true=>match eqL (eqAV 9) args as with
    | true=>some r
    | false=>aRs n vi args m
   | false=>aRs n vi args m
  | false=>aRs n vi args m
def iA [GlobT] (P : Program) (T : List AFun) : Memo→Prop
 | []=>True
 | (b,w,as,r) :: m=>pv P T b w as=some r∧iA P T m
theorem aJp [GlobT] {P : Program} {T : List AFun} {n vi : Nat} {args : List AV} {r : AV} : ∀ (M : Memo),iA P T M→aRs n vi args M=some r→pv P T n vi args=some r
 | [],_,h=>by cases h
 | (b,w,as,r') :: m,hM,h=>by
  simp only [aRs] at h
  split at h
  ·rename_i h1
   split at h
   ·rename_i h2
    split at h
    ·rename_i h3
     cases h
     have e1:=Nat.eq_of_beq_eq_true h1
     have e2:=aIv (aYf 9) _ _ h3
     subst e1 e2
     exact aWc (Nat.le_of_ble_eq_true h2) hM.1
    ·exact aJp m hM.2 h
   ·exact aJp m hM.2 h
  ·exact aJp m hM.2 h
end Go.Proofs.YtapabkfjeiknbaaGreat.Av
namespace Go.Proofs.YtapabkfjeiknbaaGreat.Av
open Go
def AllP : List Prop→Prop
 | []=>True
 | p :: r=>p∧AllP r
structure Orc where
 O : List (Nat × AV × Option Heap)
 B : List (Nat × Bool)
structure OSt where
 st : St
 L : List (AExit × St)
 M : List (Option Heap)
 ps : List Prop
def look {α : Type} (t : Nat) : List (Nat × α)→Option α
 | []=>none
 | (u,a) :: r=>match Nat.beq u t with | true=>some a | false=>look t r
def isB (x : AV) (b : Bool) : Prop:=match x with
 | .lit (.bool y)=>y=b
 | _=>False
theorem aTk {x : AV} {b : Bool} (h : isB x b) : x=.lit (.bool b):=by
 unfold isB at h
 split at h
 ·rw [h]
 ·exact h.elim
def pvc (cf : Nat→Nat→List AV→Heap→Option (AV × Heap)) (vi : Nat) (args : List AV) : Option AV :=
 match cf 0 vi args [] with
 | some (r,H')=>some (mI H' 0 r)
 | none=>none
def idxA (H : Heap) (s : Nat) (x i : AV) : Option AV :=
 match uS i with
 | some i=>match x with
  | .sl _ es=>match es[i]? with
   | some e=>if e.length=s then some (.rptr e) else none
   | none=>none
  | .vw es=>match es[i]? with
   | some e=>if e.length=s then some (.rptr e) else none
   | none=>none
  | .ms id tot off len=>match H[id]? with
   | some (.blk s' es)=>if s'=s∧es.length=tot∧i < len then some (.ptr id tot (off + i) 0) else none
   | _=>none
  | _=>none
 | none=>none
def ibA (op : BinOp) (x y : AV) : Option AV :=
 match x,y with
 | .lit (.int k a),.lit (.int k' b)=>if k=k' then match aU6 op k a b with
   | some v=>some (.lit v)
   | none=>none
  else none
 | _,_=>none
section
variable (P : Program) (cf : Nat→Nat→List AV→Heap→Option (AV × Heap)) (fl : Nat)
def getO [GlobT] (tm : List AV) : Option AOpd→AV
 | none=>.undef
 | some x=>dU tm x
def stk [GlobT] (op : AOp) (tm : List AV) (H : Heap) (v : AV) (h : Option Heap) : Prop :=
 match op with
 | .call pu vi args =>
  match pu with
  | true=>match pJ (args.map (dU tm)) with
   | true=>match h with
    | none=>pvc cf vi ((args.map (dU tm)).map nrm2)=some v
    | some _=>False
   | false=>yM cf fl true vi (args.map (dU tm)) H=some (v,h.getD H)
  | false=>cf fl vi (args.map (dU tm)) H=some (v,h.getD H)
 | .callv pu x args=>match dU tm x with
  | .fn vi caps=>yM cf fl pu vi (args.map (dU tm)++caps) H=some (v,h.getD H)
  | _=>False
 | .callB vi args=>match h with
  | none=>pvc cf vi ((args.map (dU tm)).map (nO H))=some v
  | some _=>False
 | .callT s vi args=>aKv s H (cf 0 vi ((args.map (dU tm)).map (nO H)) [])=some (v,h.getD H)
 | .idxAddr s x i=>match h with
  | none=>idxA H s (dU tm x) (dU tm i)=some v
  | some _=>False
 | .ibin op x y=>match h with
  | none=>ibA op (dU tm x) (dU tm y)=some v
  | some _=>False
 | .append s bytes x y=>(match rd H (dU tm y) with | some ys=>iE fl H s bytes (dU tm x) ys | none=>none)=some (v,h.getD H)
 | .lenS x=>evOp P cf fl (.lenS (.tmp 0)) [dU tm x] H=some (v,h.getD H)
 | .un op x=>evOp P cf fl (.un op (.tmp 0)) [dU tm x] H=some (v,h.getD H)
 | .bin op t x y=>evOp P cf fl (.bin op t (.tmp 0) (.tmp 1)) [dU tm x,dU tm y] H=some (v,h.getD H)
 | .lookup kt z m k ok=>evOp P cf fl (.lookup kt (.tmp 2) (.tmp 0) (.tmp 1) ok) [dU tm m,dU tm k,dU tm z] H=some (v,h.getD H)
 | .load agg n x=>evOp P cf fl (.load agg n (.tmp 0)) [dU tm x] H=some (v,h.getD H)
 | .appendZ s b z x n=>evOp P cf fl (.appendZ s b z (.tmp 0) (.tmp 1)) [dU tm x,dU tm n] H=some (v,h.getD H)
 | .mkSlice s z b x n=>evOp P cf fl (.mkSlice s z b (.tmp 0) (.tmp 1)) [dU tm x,dU tm n] H=some (v,h.getD H)
 | .minmax mx xs=>evOp P cf fl (.minmax mx ((List.range xs.length).map .tmp)) (xs.map (dU tm)) H=some (v,h.getD H)
 | .slice s x lo hi mx=>evOp P cf fl (.slice s (.tmp 0) (lo.map fun _=>.tmp 1) (hi.map fun _=>.tmp 2) (mx.map fun _=>.tmp 3)) [dU tm x,getO tm lo,getO tm hi,getO tm mx] H=some (v,h.getD H)
 | .strSlice t x lo hi=>evOp P cf fl (.strSlice t (.tmp 0) (lo.map fun _=>.tmp 1) (hi.map fun _=>.tmp 2)) [dU tm x,getO tm lo,getO tm hi] H=some (v,h.getD H)
 | .strIdx t x i=>evOp P cf fl (.strIdx t (.tmp 0) (.tmp 1)) [dU tm x,dU tm i] H=some (v,h.getD H)
 | .lenStr t x=>evOp P cf fl (.lenStr t (.tmp 0)) [dU tm x] H=some (v,h.getD H)
 | .conv a b x=>evOp P cf fl (.conv a b (.tmp 0)) [dU tm x] H=some (v,h.getD H)
 | .lenM x=>evOp P cf fl (.lenM (.tmp 0)) [dU tm x] H=some (v,h.getD H)
 | .copy s x y=>evOp P cf fl (.copy s (.tmp 0) (.tmp 1)) [dU tm x,dU tm y] H=some (v,h.getD H)
 | .index agg s n x i=>evOp P cf fl (.index agg s n (.tmp 0) (.tmp 1)) [dU tm x,dU tm i] H=some (v,h.getD H)
 | .nextStr x=>evOp P cf fl (.nextStr (.tmp 0)) [dU tm x] H=some (v,h.getD H)
 | .loadF n q x=>evOp P cf fl (.loadF n q (.tmp 0)) [dU tm x] H=some (v,h.getD H)
 | .appendP s b x y=>evOp P cf fl (.appendP s b (.tmp 0) (.tmp 1)) [dU tm x,dU tm y] H=some (v,h.getD H)
 | op=>evOp P cf fl op tm H=some (v,h.getD H)
def stn [GlobT] (op : AOp) (tm : List AV) (H H' : Heap) : Prop :=
 match op with
 | .mapUpd kt m k v=>evOp P cf fl (.mapUpd kt (.tmp 0) (.tmp 1) (.tmp 2)) [dU tm m,dU tm k,dU tm v] H=some (.lit gD,H')
 | .store n x v=>evOp P cf fl (.store n (.tmp 0) (.tmp 1)) [dU tm x,dU tm v] H=some (.lit gD,H')
 | .call pu vi args=>∃ v,yM cf fl pu vi (args.map (dU tm)) H=some (v,H')
 | .callv pu x args=>match dU tm x with
  | .fn vi caps=>∃ v,yM cf fl pu vi (args.map (dU tm)++caps) H=some (v,H')
  | _=>False
 | op=>∃ v,evOp P cf fl op tm H=some (v,H')
theorem bFf [GlobT] {op : AOp} {tm : List AV} {H H' : Heap} (k : stn P cf fl op tm H H') : ∃ v,evOp P cf fl op tm H=some (v,H'):=by
 unfold stn at k
 split at k
 ·exact ⟨_,k⟩
 ·exact ⟨_,k⟩
 ·exact k
 ·rename_i pu x args
  split at k
  ·rename_i vi caps hx
   simp only [evOp,hx]
   exact k
  ·exact k.elim
 ·exact k
theorem aPs [GlobT] (xs : List AV) : ((List.range xs.length).map AOpd.tmp).map (dU xs)=xs:=by
 apply List.ext_getElem?
 intro i
 simp only [List.getElem?_map]
 rcases Nat.lt_or_ge i xs.length with h | h
 ·rw [List.getElem?_range h,List.getElem?_eq_getElem h]
  simp [dU,List.getElem?_eq_getElem h]
 ·rw [List.getElem?_eq_none (by simpa using h),List.getElem?_eq_none h]
  rfl
theorem bFg [GlobT] {op : AOp} {tm : List AV} {H : Heap} {v : AV} {h : Option Heap} (k : stk P cf fl op tm H v h) : evOp P cf fl op tm H=some (v,h.getD H):=by
 unfold stk at k
 split at k
 ·rename_i pu vi args
  show yM cf fl pu vi (args.map (dU tm)) H=_
  split at k
  ·split at k
   ·rename_i hp
    split at k
    ·unfold pvc at k
     unfold yM
     simp only [hp]
     split at k
     ·rename_i r H' he
      rw [he]
      simp only [Option.some.injEq] at k
      simp [k]
     ·cases k
    ·exact k.elim
   ·exact k
  ·exact k
 ·rename_i pu x args
  split at k
  ·rename_i vi caps hx
   simp only [evOp,hx]
   exact k
  ·exact k.elim
 ·rename_i vi args
  split at k
  ·unfold pvc at k
   simp only [evOp]
   split at k
   ·rename_i r H' he
    rw [he]
    simp only [Option.some.injEq] at k
    simp [k]
   ·cases k
  ·exact k.elim
 ·exact k
 ·rename_i s x i
  split at k
  ·unfold idxA at k
   simp only [evOp]
   split at k
   ·rename_i j hj
    simp only [hj]
    split at k
    ·rename_i es hx
     simp only [hx]
     split at k
     ·rename_i e he
      simp only [he]
      split at k
      ·rename_i hl
       simp only [hl,if_true]
       cases k
       rfl
      ·cases k
     ·cases k
    ·rename_i es hx
     simp only [hx]
     split at k
     ·rename_i e he
      simp only [he]
      split at k
      ·rename_i hl
       simp only [hl,if_true]
       cases k
       rfl
      ·cases k
     ·cases k
    ·rename_i id tot off len hx
     simp only [hx]
     split at k
     ·rename_i s' es he
      simp only [he]
      split at k
      ·rename_i hl
       rw [if_pos hl]
       cases k
       rfl
      ·cases k
     ·cases k
    ·cases k
   ·cases k
  ·exact k.elim
 ·rename_i op x y
  split at k
  ·unfold ibA at k
   simp only [evOp]
   split at k
   ·rename_i k1 a k2 b h1 h2
    simp only [h1,h2]
    split at k
    ·rename_i hk
     rw [if_pos hk]
     split at k
     ·rename_i u hu
      simp only [hu]
      cases k
      rfl
     ·cases k
    ·cases k
   ·cases k
  ·exact k.elim
 ·simp only [evOp]
  split at k
  ·rename_i ys hy
   simp only [hy]
   exact k
  ·cases k
 ·exact k
 ·exact k
 ·exact k
 ·exact k
 ·exact k
 ·exact k
 ·exact k
 ·rename_i mx xs
  simp only [evOp] at k ⊢
  have:=aPs (xs.map (dU tm))
  rw [List.length_map] at this
  rw [this] at k
  exact k
 ·rename_i s x lo hi mx
  cases lo <;> cases hi <;> cases mx <;> exact k
 ·rename_i t x lo hi
  cases lo <;> cases hi <;> exact k
 ·exact k
 ·exact k
 ·exact k
 ·exact k
 ·exact k
 ·exact k
 ·exact k
 ·exact k
 ·exact k
 ·exact k
def eG (head : St→St) (step : St→Option (AExit × St)) : Nat→St→Option (AExit × St)
 | 0,_=>none
 | n + 1,st=>match step st with
  | some (.normal,st)=>zI head step n st
  | r=>r
theorem aE0 {head : St→St} {step : St→Option (AExit × St)} (n : Nat) (st : St) : zI head step n st=eG head step n (head st):=by
 cases n <;> rfl
def eS (tr : Bool) (fl n : Nat) (H : Heap) : Prop:=match tr with
 | true=>(H.drop fl).map (gG n)=H.drop fl
 | false=>True
def aGa (live : Option (List Bool)) (tr : Bool) (n : Nat) (st : St) : St:=match tr with
 | true=>⟨(aXb live st.tmps).map (aMw n),st.heap.take n⟩
 | false=>⟨aXb live st.tmps,st.heap⟩
theorem aCu {live : Option (List Bool)} {tr : Bool} {fl n : Nat} {st : St} (hn : Nat.ble fl n=true) (h : eS tr fl n (aGa live tr n st).heap) : eO live tr fl n st=aGa live tr n st:=by
 cases tr with
 | false=>rfl
 | true =>
  simp only [eS,aGa] at h
  simp only [eO,aGa,if_true,h]
  congr 1
  have : st.heap.take fl=(st.heap.take n).take fl:=by rw [List.take_take,Nat.min_eq_left (Nat.le_of_ble_eq_true hn)]
  rw [this,List.take_append_drop]
def aIp (lx lr : List Bool) (tr : Bool) (n : Nat) (x : AExit) (st : St) : St:=match x with
 | .ret=>⟨xE lr st.tmps,st.heap⟩
 | .normal=>aGa (some lx) tr n st
 | .exit _=>aGa (some lx) tr n st
def aQc (tr : Bool) (fl n : Nat) (x : AExit) (H : Heap) : Prop:=match x with
 | .ret=>True
 | .normal=>eS tr fl n H
 | .exit _=>eS tr fl n H
theorem aPm [GlobT] {lx lr : List Bool} {tr : Bool} {fl n : Nat} {x : AExit} {st : St} (hn : Nat.ble fl n=true) (h : aQc tr fl n x (aIp lx lr tr n x st).heap) : eT lx lr tr fl n (some (x,st))=some (x,aIp lx lr tr n x st):=by
 cases x with
 | ret=>rfl
 | normal=>simp only [eT,aIp]; rw [aCu hn h]
 | exit i=>simp only [eT,aIp]; rw [aCu hn h]
def aPq [GlobT] (live : List Bool) (t n : Nat) (st : St) : St :=
 match dU st.tmps (.tmp t) with
 | .ms id tot off len=>match Nat.ble n id with
  | true=>match st.heap[id]? with
   | some (.blk s es)=>⟨((xE live st.tmps).map (aMw n)).set t (.ms n tot off len),st.heap.take n++[.blk s es]⟩
   | _=>aGa (some live) true n st
  | false=>aGa (some live) true n st
 | _=>aGa (some live) true n st
theorem aXx [GlobT] {live : List Bool} {t fl n : Nat} {st : St} (hn : Nat.ble fl n=true) (h : eS true fl n (aPq live t n st).heap) : aH8 live t fl n st=aPq live t n st:=by
 have hfn:=Nat.le_of_ble_eq_true hn
 unfold aPq at h ⊢
 unfold aH8
 split
 ·rename_i id tot off len hx
  simp only [hx] at h ⊢
  split
  ·rename_i hid
   rw [Nat.ble_eq_true_of_le hid] at h ⊢
   simp only at h ⊢
   split
   ·rename_i s es hob
    simp only [hob,eS] at h
    have hlt : id < st.heap.length:=(List.getElem?_eq_some_iff.1 hob).1
    have hl : (st.heap.take n).length=n:=by simp; omega
    rw [List.drop_append_of_le_length (by omega),List.map_append] at h
    have h1:=List.append_inj_left' h (by simp)
    have h2:=List.append_inj_right' h (by simp)
    simp only [List.map_cons,List.map_nil,List.cons.injEq,and_true] at h2
    have hh : st.heap.take fl++(st.heap.take n).drop fl=st.heap.take n:=by
     have : st.heap.take fl=(st.heap.take n).take fl:=by rw [List.take_take,Nat.min_eq_left hfn]
     rw [this,List.take_append_drop]
    simp only [hob,h1,h2,hh]
   ·rename_i hob
    split at h
    ·rename_i s es hob'
     exact (hob s es hob').elim
    ·exact aCu hn h
  ·rename_i hid
   have : Nat.ble n id=false:=by
    cases hb : Nat.ble n id with
    | false=>rfl
    | true=>exact (hid (Nat.le_of_ble_eq_true hb)).elim
   rw [this] at h ⊢
   exact aCu hn h
 ·rename_i hx
  split at h
  ·rename_i id tot off len hx'
   exact (hx id tot off len hx').elim
  ·exact aCu hn h
def aXd : ACode→Option (Option (List Bool) × Bool × ACode)
 | .loop live tr c=>some (live,tr,c)
 | _=>none
theorem aXc {c : ACode} {live : Option (List Bool)} {tr : Bool} {b : ACode} (h : aXd c=some (live,tr,b)) : c=.loop live tr b:=by
 cases c <;> simp [aXd] at h
 obtain ⟨rfl,rfl,rfl⟩:=h
 rfl
variable (o : Orc)
def oRun [GlobT] (a : AOper) (s : OSt) : Option OSt :=
 match a.dst with
 | some d=>match look d o.O with
  | some (v,h)=>some ⟨⟨s.st.tmps.set d v,h.getD s.st.heap⟩,s.L,s.M,stk P cf fl a.op s.st.tmps s.st.heap v h :: s.ps⟩
  | none=>match evOp P cf fl a.op s.st.tmps s.st.heap with
   | some (v,H)=>some ⟨⟨s.st.tmps.set d v,H⟩,s.L,s.M,s.ps⟩
   | none=>none
 | none=>match s.M with
  | some H' :: M=>some ⟨⟨s.st.tmps,H'⟩,s.L,M,stn P cf fl a.op s.st.tmps s.st.heap H' :: s.ps⟩
  | none :: M=>match evOp P cf fl a.op s.st.tmps s.st.heap with
   | some (_,H)=>some ⟨⟨s.st.tmps,H⟩,s.L,M,s.ps⟩
   | none=>none
  | []=>match evOp P cf fl a.op s.st.tmps s.st.heap with
   | some (_,H)=>some ⟨⟨s.st.tmps,H⟩,s.L,[],s.ps⟩
   | none=>none
def bAl [GlobT] (a : AOper) (s : OSt) : Option OSt :=
 match a.guard with
 | none=>oRun P cf fl o a s
 | some (t,want)=>match look t o.B with
  | some b=>match b == want with
   | true=>oRun P cf fl o a ⟨s.st,s.L,s.M,isB (dU s.st.tmps (.tmp t)) b :: s.ps⟩
   | false=>some ⟨⟨putA s.st.tmps a.dst (.lit gD),s.st.heap⟩,s.L,s.M,isB (dU s.st.tmps (.tmp t)) b :: s.ps⟩
  | none=>match xP s.st.tmps (some (t,want)) with
   | some true=>oRun P cf fl o a s
   | some false=>some ⟨⟨putA s.st.tmps a.dst (.lit gD),s.st.heap⟩,s.L,s.M,s.ps⟩
   | none=>none
def oOps [GlobT] : List AOper→OSt→Option OSt
 | [],s=>some s
 | a :: r,s=>match bAl P cf fl o a s with
  | some s=>oOps r s
  | none=>none
def aRn [GlobT] : List AOper→OSt→Option (List OSt)
 | [],s=>some [s]
 | a :: r,s=>match bAl P cf fl o a s with
  | some s1=>match aRn r s1 with
   | some l=>some (s :: l)
   | none=>none
  | none=>none
def aQ0 : List OSt→List St
 | []=>[]
 | s :: r=>s.st :: aQ0 r
def oReg [GlobT] (ck : List (Nat × Nat)) (ops : List AOper) (s : OSt) : Option OSt:=match ck with
 | []=>oOps P cf fl o ops s
 | c :: r=>match aRn P cf fl o ops s with
  | some l=>match aVk ops (aQ0 l) (c :: r) with
   | true=>l.getLast?
   | false=>none
  | none=>none
def bJd (c : AOpd) : Option Bool:=match c with
 | .tmp t=>look t o.B
 | _=>none
def oC [GlobT] (lf : Nat) : ACode→OSt→Option (AExit × OSt)
 | .skip,s=>some (.normal,s)
 | .region _ ck ops,s=>match oReg P cf fl o ck ops s with
  | some s=>some (.normal,s)
  | none=>none
 | .seq a b,s=>match oC lf a s with
  | some (.normal,s)=>oC lf b s
  | r=>r
 | .cond c a b,s=>match bJd o c with
  | some true=>oC lf a ⟨s.st,s.L,s.M,isB (dU s.st.tmps c) true :: s.ps⟩
  | some false=>oC lf b ⟨s.st,s.L,s.M,isB (dU s.st.tmps c) false :: s.ps⟩
  | none=>match dU s.st.tmps c with
   | .lit (.bool true)=>oC lf a s
   | .lit (.bool false)=>oC lf b s
   | _=>none
 | .block id c,s=>match oC lf c s with
  | some (.exit i,s)=>if i=id then some (.normal,s) else some (.exit i,s)
  | r=>r
 | .loop live tr c,s=>match s.L with
  | (x,st) :: L=>some (x,⟨st,L,s.M,(eG (eO live tr fl s.st.heap.length) (evC P cf lf fl c) lf (eO live tr fl s.st.heap.length s.st)=some (x,st)) :: s.ps⟩)
  | []=>none
 | .exit id,s=>some (.exit id,s)
 | .ret,s=>some (.ret,s)
 | .frz t c,s=>match look (t + 100000) o.O with
  | some (v,h)=>oC lf c ⟨⟨s.st.tmps.set t v,h.getD s.st.heap⟩,s.L,s.M,(evOp P cf fl (.freeze (.tmp 0)) [dU s.st.tmps (.tmp t)] s.st.heap=some (v,h.getD s.st.heap)) :: s.ps⟩
  | none=>match evOp P cf fl (.freeze (.tmp t)) s.st.tmps s.st.heap with
   | some (v,H)=>oC lf c ⟨⟨s.st.tmps.set t v,H⟩,s.L,s.M,s.ps⟩
   | none=>none
 | .mask lx lr tr c,s=>match Nat.ble fl s.st.heap.length with
  | true=>match aXd c with
   | some (live,tr',b)=>match s.L with
    | (x,st) :: L=>some (x,⟨st,L,s.M,(eT lx lr tr fl s.st.heap.length (eG (eO live tr' fl s.st.heap.length) (evC P cf lf fl b) lf (aGa live tr' s.st.heap.length s.st))=some (x,st)) :: eS tr' fl s.st.heap.length (aGa live tr' s.st.heap.length s.st).heap :: s.ps⟩)
    | []=>none
   | none=>match oC lf c s with
    | some (x,s')=>some (x,⟨aIp lx lr tr s.st.heap.length x s'.st,s'.L,s'.M,aQc tr fl s.st.heap.length x (aIp lx lr tr s.st.heap.length x s'.st).heap :: s'.ps⟩)
    | none=>none
  | false=>none
 | .told li lx lr c,s=>match s.L with
  | (x,st) :: L=>some (x,⟨st,L,s.M,(eT lx lr false fl s.st.heap.length (evC P cf lf fl c ⟨xE li s.st.tmps,s.st.heap⟩)=some (x,st)) :: s.ps⟩)
  | []=>none
 | .scope c,s=>oC lf c s
 | .nilIf _ _ _ _ _,_=>none
 | .loopV live lx lr t c,s=>match Nat.ble fl s.st.heap.length with
  | true=>match s.L with
   | (_,st1) :: (x,st) :: L=>some (x,⟨st,L,s.M,(aRq lx lr t fl s.st.heap.length (eG (aH8 live t fl s.st.heap.length) (evC P cf lf fl c) lf (aPq live t s.st.heap.length st1))=some (x,st)) :: eS true fl s.st.heap.length (aPq live t s.st.heap.length st1).heap :: (aUu fl t s.st=some st1) :: s.ps⟩)
   | _=>none
  | false=>none
 | .stop,_=>none
theorem aRm [GlobT] {a : AOper} {s s' : OSt} (h : oRun P cf fl o a s=some s') (hp : AllP s'.ps) : (match evOp P cf fl a.op s.st.tmps s.st.heap with
   | some (v,H)=>some (⟨putA s.st.tmps a.dst v,H⟩ : St)
   | none=>none)=some s'.st∧AllP s.ps:=by
 unfold oRun at h
 split at h
 ·rename_i d hd
  split at h
  ·rename_i v h' hl
   cases h
   obtain ⟨h1,h2⟩:=hp
   rw [bFg P cf fl h1]
   simp only [putA,hd]
   exact ⟨trivial,h2⟩
  ·split at h
   ·rename_i v H he
    cases h
    simp only [putA,hd]
    exact ⟨trivial,hp⟩
   ·cases h
 ·rename_i hd
  simp only [putA,hd]
  split at h
  ·rename_i H' M hM
   cases h
   obtain ⟨h1,h2⟩:=hp
   obtain ⟨v,h3⟩:=bFf P cf fl h1
   rw [h3]
   exact ⟨rfl,h2⟩
  ·split at h
   ·rename_i u H he
    cases h
    simp only
    exact ⟨trivial,hp⟩
   ·cases h
  ·split at h
   ·rename_i u H he
    cases h
    simp only
    exact ⟨trivial,hp⟩
   ·cases h
theorem aTc [GlobT] {a : AOper} {s s' : OSt} (h : bAl P cf fl o a s=some s') (hp : AllP s'.ps) : jK P cf fl a s.st=some s'.st∧AllP s.ps:=by
 unfold bAl at h
 unfold jK
 split at h
 ·rename_i hg
  rw [hg]
  simp only [xP]
  exact aRm P cf fl o h hp
 ·rename_i t want hg
  rw [hg]
  split at h
  ·rename_i b hb
   split at h
   ·rename_i hw
    obtain ⟨h1,h2⟩:=aRm P cf fl o h hp
    obtain ⟨h3,h4⟩:=h2
    have h5:=aTk h3
    simp only [xP,h5,hw]
    exact ⟨h1,h4⟩
   ·rename_i hw
    cases h
    obtain ⟨h3,h4⟩:=hp
    have h5:=aTk h3
    simp only [xP,h5,hw]
    exact ⟨trivial,h4⟩
  ·split at h
   ·rename_i hw
    rw [hw]
    exact aRm P cf fl o h hp
   ·rename_i hw
    rw [hw]
    cases h
    exact ⟨rfl,hp⟩
   ·cases h
theorem aW2 [GlobT] : ∀ (l : List AOper) (s s' : OSt),oOps P cf fl o l s=some s'→AllP s'.ps→yW P cf fl l s.st=some s'.st∧AllP s.ps
 | [],s,s',h,hp=>by cases h; exact ⟨rfl,hp⟩
 | a :: r,s,s',h,hp=>by
  simp only [oOps] at h
  split at h
  ·rename_i s1 h1
   obtain ⟨k1,k2⟩:=aW2 r s1 s' h hp
   obtain ⟨k3,k4⟩:=aTc P cf fl o h1 k2
   simp only [yW,k3]
   exact ⟨k1,k4⟩
  ·cases h
theorem aTb [GlobT] : ∀ (l : List AOper) (s : OSt) (q : List OSt) (s' : OSt),aRn P cf fl o l s=some q→q.getLast? = some s'→AllP s'.ps→aAs P cf fl l s.st=some (aQ0 q)∧(aQ0 q).getLast? = some s'.st∧AllP s.ps
 | [],s,q,s',h,hl,hp=>by
  simp only [aRn,Option.some.injEq] at h
  subst h
  simp only [List.getLast?_singleton,Option.some.injEq] at hl
  subst hl
  exact ⟨rfl,rfl,hp⟩
 | a :: r,s,q,s',h,hl,hp=>by
  simp only [aRn] at h
  split at h
  ·rename_i s1 h1
   split at h
   ·rename_i l1 h2
    cases h
    have hne : l1 ≠ []:=by
     intro e
     subst e
     cases r with
     | nil=>simp [aRn] at h2
     | cons b r =>
      simp only [aRn] at h2
      split at h2
      ·split at h2 <;> cases h2
      ·cases h2
    rw [List.getLast?_cons_of_ne_nil hne] at hl
    obtain ⟨k1,k2,k3⟩:=aTb r s1 l1 s' h2 hl hp
    obtain ⟨k4,k5⟩:=aTc P cf fl o h1 k3
    have hne2 : aQ0 l1 ≠ []:=by
     cases l1 with
     | nil=>exact (hne rfl).elim
     | cons b r=>simp [aQ0]
    refine ⟨by simp only [aAs,k4,k1]; rfl,?_,k5⟩
    show (s.st :: aQ0 l1).getLast? = _
    rw [List.getLast?_cons_of_ne_nil hne2]
    exact k2
   ·cases h
  ·cases h
theorem bD7 [GlobT] {ck : List (Nat × Nat)} {ops : List AOper} {s s' : OSt} (h : oReg P cf fl o ck ops s=some s') (hp : AllP s'.ps) : aFb P cf fl ck ops s.st=some s'.st∧AllP s.ps:=by
 unfold oReg at h
 unfold aFb
 split at h
 ·exact aW2 P cf fl o ops s s' h hp
 ·split at h
  ·rename_i l hl
   split at h
   ·rename_i hck
    obtain ⟨k1,k2,k3⟩:=aTb P cf fl o ops s l s' hl h hp
    simp only [k1,hck]
    exact ⟨k2,k3⟩
   ·cases h
  ·cases h
theorem aDj [GlobT] (lf : Nat) : ∀ (c : ACode) (s : OSt) (x : AExit) (s' : OSt),oC P cf fl o lf c s=some (x,s')→AllP s'.ps→evC P cf lf fl c s.st=some (x,s'.st)∧AllP s.ps
 | .skip,s,x,s',h,hp=>by cases h; exact ⟨rfl,hp⟩
 | .region _ ck ops,s,x,s',h,hp=>by
  simp only [oC] at h
  split at h
  ·rename_i s1 h1
   cases h
   obtain ⟨k1,k2⟩:=bD7 P cf fl o h1 hp
   simp only [evC,k1]
   exact ⟨trivial,k2⟩
  ·cases h
 | .seq a b,s,x,s',h,hp=>by
  simp only [oC] at h
  split at h
  ·rename_i s1 h1
   obtain ⟨k1,k2⟩:=aDj lf b s1 x s' h hp
   obtain ⟨k3,k4⟩:=aDj lf a s _ s1 h1 k2
   simp only [evC,k3]
   exact ⟨k1,k4⟩
  ·rename_i hn
   obtain ⟨k3,k4⟩:=aDj lf a s x s' h hp
   simp only [evC,k3]
   cases x with
   | normal=>exact (hn _ h).elim
   | exit=>exact ⟨rfl,k4⟩
   | ret=>exact ⟨rfl,k4⟩
 | .cond c a b,s,x,s',h,hp=>by
  simp only [oC] at h
  split at h
  ·obtain ⟨k1,k2,k3⟩:=aDj lf a _ x s' h hp
   simp only [evC,aTk k2]
   exact ⟨k1,k3⟩
  ·obtain ⟨k1,k2,k3⟩:=aDj lf b _ x s' h hp
   simp only [evC,aTk k2]
   exact ⟨k1,k3⟩
  ·split at h
   ·rename_i hg
    obtain ⟨k1,k2⟩:=aDj lf a _ x s' h hp
    simp only [evC,hg]
    exact ⟨k1,k2⟩
   ·rename_i hg
    obtain ⟨k1,k2⟩:=aDj lf b _ x s' h hp
    simp only [evC,hg]
    exact ⟨k1,k2⟩
   ·cases h
 | .block id c,s,x,s',h,hp=>by
  simp only [oC] at h
  split at h
  ·rename_i i s1 h1
   have hs : s1=s':=by
    split at h
    ·cases h; rfl
    ·cases h; rfl
   subst hs
   obtain ⟨k1,k2⟩:=aDj lf c s _ s1 h1 hp
   simp only [evC,k1]
   split at h
   ·rename_i hi; cases h; rw [if_pos hi]; exact ⟨rfl,k2⟩
   ·rename_i hi; cases h; rw [if_neg hi]; exact ⟨rfl,k2⟩
  ·rename_i hn
   obtain ⟨k3,k4⟩:=aDj lf c s x s' h hp
   simp only [evC,k3]
   cases x with
   | normal=>exact ⟨rfl,k4⟩
   | exit i=>exact (hn _ _ h).elim
   | ret=>exact ⟨rfl,k4⟩
 | .loop live tr c,s,x,s',h,hp=>by
  simp only [oC] at h
  split at h
  ·rename_i y st L hL
   cases h
   obtain ⟨h1,h2⟩:=hp
   exact ⟨by simp only [evC]; rw [aE0]; exact h1,h2⟩
  ·cases h
 | .exit id,s,x,s',h,hp=>by cases h; exact ⟨rfl,hp⟩
 | .ret,s,x,s',h,hp=>by cases h; exact ⟨rfl,hp⟩
 | .frz t c,s,x,s',h,hp=>by
  simp only [oC] at h
  split at h
  ·rename_i v h' hl
   obtain ⟨k1,k2,k3⟩:=aDj lf c _ x s' h hp
   have k2' : evOp P cf fl (.freeze (.tmp t)) s.st.tmps s.st.heap=some (v,h'.getD s.st.heap):=k2
   simp only [evC,k2']
   exact ⟨k1,k3⟩
  ·split at h
   ·rename_i v H he
    obtain ⟨k1,k2⟩:=aDj lf c _ x s' h hp
    simp only [evC,he]
    exact ⟨k1,k2⟩
   ·cases h
 | .mask lx lr tr c,s,x,s',h,hp=>by
  simp only [oC] at h
  split at h
  ·rename_i hn
   split at h
   ·rename_i live tr' b hl
    have:=aXc hl
    subst this
    split at h
    ·rename_i y st L hL
     cases h
     obtain ⟨h1,h2,h3⟩:=hp
     refine ⟨?_,h3⟩
     simp only [evC]
     rw [aE0,aCu hn h2]
     exact h1
    ·cases h
   ·split at h
    ·rename_i y s1 h1
     cases h
     obtain ⟨h2,h3⟩:=hp
     obtain ⟨k1,k2⟩:=aDj lf c s _ s1 h1 h3
     simp only [evC,k1]
     exact ⟨aPm hn h2,k2⟩
    ·cases h
  ·cases h
 | .nilIf _ _ _ _ _,s,x,s',h,hp=>by simp only [oC] at h; cases h
 | .told li lx lr c,s,x,s',h,hp=>by
  simp only [oC] at h
  split at h
  ·rename_i y st L hL
   cases h
   obtain ⟨h1,h2⟩:=hp
   exact ⟨by simp only [evC]; exact h1,h2⟩
  ·cases h
 | .scope c,s,x,s',h,hp=>by
  simp only [oC] at h
  simp only [evC]
  exact aDj lf c s x s' h hp
 | .loopV live lx lr t c,s,x,s',h,hp=>by
  simp only [oC] at h
  split at h
  ·rename_i hn
   split at h
   ·rename_i y0 st1 y st L hL
    cases h
    obtain ⟨h1,h2,h3,h4⟩:=hp
    refine ⟨?_,h4⟩
    simp only [evC,h3]
    rw [aE0,aXx hn h2]
    exact h1
   ·cases h
  ·cases h
 | .stop,s,x,s',h,hp=>by simp only [oC] at h; cases h
end
def oF [GlobT] (P : Program) (T : List AFun) (n : Nat) (o : Orc) (L : List (AExit × St)) (M : List (Option Heap)) (F : AFun) (args : List AV) : Option (AV × List Prop) :=
 match oC P (evF P T n) 0 o n F.body ⟨⟨args++List.replicate (F.nt - args.length) (.lit gD),[]⟩,L,M,[]⟩ with
 | some (x,s)=>match aZu (finA F (some (x,s.st))) with
  | some r=>some (r,s.ps)
  | none=>none
 | none=>none
theorem pv_o [GlobT] {P : Program} {T : List AFun} {n vi : Nat} {args : List AV} {r : AV} {ps : List Prop} {F : AFun} (o : Orc) (L : List (AExit × St)) (M : List (Option Heap)) (hF : getF T vi=some F) (h : oF P T n o L M F args=some (r,ps)) (hp : AllP ps) : pv P T (n + 1) vi args=some r:=by
 rw [bFn F hF]
 unfold oF at h
 split at h
 ·rename_i x s hs
  split at h
  ·rename_i r' hr
   cases h
   obtain ⟨k,_⟩:=aDj P (evF P T n) 0 o n F.body _ x s hs hp
   rw [k]
   exact hr
  ·cases h
 ·cases h
def oE [GlobT] (P : Program) (T : List AFun) (n : Nat) (o : Orc) (L : List (AExit × St)) (M : List (Option Heap)) (F : AFun) (fl : Nat) (args : List AV) (H : Heap) : Option (AV × Heap × List Prop) :=
 match oC P (evF P T n) fl o n F.body ⟨⟨args++List.replicate (F.nt - args.length) (.lit gD),H⟩,L,M,[]⟩ with
 | some (x,s)=>match finA F (some (x,s.st)) with
  | some (r,H')=>some (r,H',s.ps)
  | none=>none
 | none=>none
theorem bI4 [GlobT] {P : Program} {T : List AFun} {n fl vi : Nat} {args : List AV} {H H' : Heap} {r : AV} {ps : List Prop} {F : AFun} (o : Orc) (L : List (AExit × St)) (M : List (Option Heap)) (hF : getF T vi=some F) (h : oE P T n o L M F fl args H=some (r,H',ps)) (hp : AllP ps) : evF P T (n + 1) fl vi args H=some (r,H'):=by
 rw [bB2 F hF]
 unfold oE at h
 split at h
 ·rename_i x s hs
  split at h
  ·rename_i r' H'' hr
   cases h
   obtain ⟨k,_⟩:=aDj P (evF P T n) fl o n F.body _ x s hs hp
   rw [k]
   exact hr
  ·cases h
 ·cases h
def oB [GlobT] (P : Program) (cf : Nat→Nat→List AV→Heap→Option (AV × Heap)) (lf fl : Nat) (head : St→St) (o : Orc) (L : List (AExit × St)) (M : List (Option Heap)) (c : ACode) (st : St) : Option (AExit × St × List Prop) :=
 match oC P cf fl o lf c ⟨st,L,M,[]⟩ with
 | some (.normal,s)=>some (.normal,head s.st,s.ps)
 | some (x,s)=>some (x,s.st,s.ps)
 | none=>none
theorem bFv [GlobT] {P : Program} {cf : Nat→Nat→List AV→Heap→Option (AV × Heap)} {lf fl : Nat} {head : St→St} {c : ACode} {st st' : St} {ps : List Prop} (o : Orc) (L : List (AExit × St)) (M : List (Option Heap)) (h : oB P cf lf fl head o L M c st=some (.normal,st',ps)) (hp : AllP ps) : aW7 head (evC P cf lf fl c st) st':=by
 unfold oB at h
 split at h
 ·rename_i s hs
  cases h
  obtain ⟨k,_⟩:=aDj P cf fl o lf c _ _ s hs hp
  rw [k]
  rfl
 ·rename_i x s hn hs
  cases h
  exact (hn rfl).elim
 ·cases h
theorem bFw [GlobT] {P : Program} {cf : Nat→Nat→List AV→Heap→Option (AV × Heap)} {lf fl n m : Nat} {live : Option (List Bool)} {tr : Bool} {c : ACode} {st st' : St} {ps : List Prop} {r : Option (AExit × St)} (o : Orc) (L : List (AExit × St)) (M : List (Option Heap)) (hn : Nat.ble fl n=true) (h : oB P cf lf fl (aGa live tr n) o L M c st=some (.normal,st',ps)) (hp : AllP ps)
  (hc : eS tr fl n st'.heap) (hr : eG (eO live tr fl n) (evC P cf lf fl c) m st'=r) : eG (eO live tr fl n) (evC P cf lf fl c) (m + 1) st=r:=by
 have:=bFv o L M h hp
 obtain ⟨s,e1,e2⟩:=aW6 this
 subst e2
 simp only [eG,e1]
 rw [aE0,aCu hn hc]
 exact hr
def oX [GlobT] (P : Program) (cf : Nat→Nat→List AV→Heap→Option (AV × Heap)) (lf fl n : Nat) (lx lr : List Bool) (tr : Bool) (o : Orc) (L : List (AExit × St)) (M : List (Option Heap)) (c : ACode) (st : St) : Option (AExit × St × List Prop) :=
 match oC P cf fl o lf c ⟨st,L,M,[]⟩ with
 | some (x,s)=>match x with
  | .normal=>none
  | x=>some (x,aIp lx lr tr n x s.st,s.ps)
 | none=>none
def oP [GlobT] (P : Program) (cf : Nat→Nat→List AV→Heap→Option (AV × Heap)) (lf fl : Nat) (lx lr : List Bool) (o : Orc) (L : List (AExit × St)) (M : List (Option Heap)) (c : ACode) (st : St) : Option (AExit × St × List Prop) :=
 match oC P cf fl o lf c ⟨st,L,M,[]⟩ with
 | some (x,s)=>some (x,aIp lx lr false 0 x s.st,s.ps)
 | none=>none
theorem bDu [GlobT] {P : Program} {cf : Nat→Nat→List AV→Heap→Option (AV × Heap)} {lf fl n : Nat} {lx lr : List Bool} {c : ACode} {st st' : St} {x : AExit} {ps : List Prop} (o : Orc) (L : List (AExit × St)) (M : List (Option Heap)) (h : oP P cf lf fl lx lr o L M c st=some (x,st',ps)) (hp : AllP ps) :
  eT lx lr false fl n (evC P cf lf fl c st)=some (x,st'):=by
 unfold oP at h
 split at h
 ·rename_i y s hs
  cases h
  obtain ⟨k,_⟩:=aDj P cf fl o lf c _ _ s hs hp
  rw [k]
  cases x <;> rfl
 ·cases h
theorem bFz [GlobT] {P : Program} {cf : Nat→Nat→List AV→Heap→Option (AV × Heap)} {lf fl n m : Nat} {live : Option (List Bool)} {tr tr' : Bool} {lx lr : List Bool} {c : ACode} {st st' : St} {x : AExit} {ps : List Prop} (o : Orc) (L : List (AExit × St)) (M : List (Option Heap)) (hn : Nat.ble fl n=true) (h : oX P cf lf fl n lx lr tr o L M c st=some (x,st',ps)) (hp : AllP ps)
  (hc : aQc tr fl n x st'.heap) : eT lx lr tr fl n (eG (eO live tr' fl n) (evC P cf lf fl c) (m + 1) st)=some (x,st'):=by
 unfold oX at h
 split at h
 ·rename_i y s hs
  have hk:=(aDj P cf fl o lf c _ _ s hs (by
   split at h
   ·cases h
   ·cases h; exact hp)).1
  split at h
  ·cases h
  ·rename_i hne
   cases h
   have : eG (eO live tr' fl n) (evC P cf lf fl c) (m + 1) st=some (x,s.st):=by
    simp only [eG,hk]
    cases x with
    | normal=>exact (hne rfl).elim
    | exit i=>rfl
    | ret=>rfl
   rw [this]
   exact aPm hn hc
 ·cases h
end Go.Proofs.YtapabkfjeiknbaaGreat.Av
namespace Go.Proofs.YtapabkfjeiknbaaGreat.Av
open Go
abbrev iv (n : Int) : AV:=.lit (.int .i64 n)
abbrev bv (b : Bool) : AV:=.lit (.bool b)
abbrev sv (s : ByteArray) : AV:=.lit (.string s)
def bnd {α β : Type} (x : Option α) (f : α→Option β) : Option β:=match x with
 | some a=>f a
 | none=>none
theorem dQ {α β : Type} {x : Option α} {f : α→Option β} {r : β} (h : bnd x f=some r) : ∃ a,x=some a∧f a=some r:=by
 cases x with
 | none=>cases h
 | some a=>exact ⟨a,rfl,h⟩
def bnd2 {α β γ : Type} (x : Option (α ⊕ β)) (f : α→Option γ) (g : β→Option γ) : Option γ:=match x with
 | some (.inl a)=>f a
 | some (.inr b)=>g b
 | none=>none
theorem gF {α β γ : Type} {x : Option (α ⊕ β)} {f : α→Option γ} {g : β→Option γ} {r : γ} (h : bnd2 x f g=some r) : (∃ a,x=some (.inl a)∧f a=some r) ∨ (∃ a,x=some (.inr a)∧g a=some r):=by
 match x,h with
 | some (.inl a),h=>exact .inl ⟨a,rfl,h⟩
 | some (.inr a),h=>exact .inr ⟨a,rfl,h⟩
def cnd {α : Type} (b : Bool) (x y : α) : α:=match b with
 | true=>x
 | false=>y
theorem yX {e b : Bool} (h : e=b) : some (AV.lit (.bool e))=some (AV.lit (.bool b)):=by rw [h]
theorem aFd [GlobT] {P : Program} {T : List AFun} {n vi : Nat} {args : List AV} {r r' : AV} {H' : Heap} (h : evF P T n 0 vi args []=some (r,H')) (hs : mI H' 0 r=r') : pv P T n vi args=some r':=by
 unfold pv; rw [h,← hs]
def imax (a b : Int) : Int:=if a < b then b else a
def imin (a b : Int) : Int:=if b < a then b else a
section
variable {P : Program} {cf : Nat→Nat→List AV→Heap→Option (AV × Heap)} {fl : Nat} {H : Heap} {t : TypeId} {a b : ByteArray} {r : Bool}
end
def idx {α : Type} (l : List α) (i : Int) : Option α:=if 0 ≤ i then l[i.toNat]? else none
theorem nM {α : Type} (l : List α) (i : Nat) : idx l (i : Int)=l[i]?:=by simp [idx]
theorem aCs {α : Type} {l : List α} {i : Int} {x : α} (h : idx l i=some x) : 0 ≤ i∧l[i.toNat]? = some x∧i.toNat < l.length:=by
 unfold idx at h
 split at h
 ·rename_i hi
  refine ⟨hi,h,?_⟩
  rcases Nat.lt_or_ge i.toNat l.length with h1 | h1
  ·exact h1
  ·rw [List.getElem?_eq_none h1] at h; cases h
 ·cases h
section
variable {α : Type} {c : α→List AV} {H : Heap} {fl id s : Nat} {l l' m : List α} {i : Int} {x : α} {f : Bool}
theorem idxl [GlobT] (h : idx l i=some x) (hs : (c x).length=s) : idxA H s (.sl f (l.map c)) (.lit (.int .i64 i))=some (.rptr (c x)):=by
 obtain ⟨h1,h2,_⟩:=aCs h
 simp [idxA,uS,h1,h2,hs]
def idxK {α : Type} (l : List α) (k : Nat) (i : Int) : Option α:=if 0 ≤ i∧i.toNat < k then l[i.toNat]? else none
theorem aK5 {k : Nat} (h : idxK l k i=some x) : 0 ≤ i∧i.toNat < k∧l[i.toNat]? = some x∧i.toNat < l.length:=by
 unfold idxK at h
 split at h
 ·rename_i hi
  refine ⟨hi.1,hi.2,h,?_⟩
  rcases Nat.lt_or_ge i.toNat l.length with h1 | h1
  ·exact h1
  ·rw [List.getElem?_eq_none h1] at h; cases h
 ·cases h
theorem aPp [GlobT] {k : Nat} (h : idxK l k i=some x) (hH : H[id]? = some (.blk s (l.map c))) : idxA H s (.ms id l.length 0 k) (.lit (.int .i64 i))=some (.ptr id l.length (0 + i.toNat) 0):=by
 obtain ⟨h1,h2,_,_⟩:=aK5 h
 simp [idxA,uS,h1,hH,h2]
theorem nP [GlobT] {P : Program} {cf : Nat→Nat→List AV→Heap→Option (AV × Heap)} : evOp P cf fl (.lenS (.tmp 0)) [.sl f (l.map c)] H=some (iv l.length,H):=by
 show some (AV.lit (.int .i64 ((l.map c).length : Nat)),H)=_
 rw [List.length_map]
def app {α : Type} (l m : List α) : Option (List α):=if l.length + m.length ≤ 1000000 then some (l++m) else none
theorem aOg (h : app l m=some l') : l'=l++m∧l.length + m.length ≤ 1000000:=by
 unfold app at h
 split at h
 ·cases h; exact ⟨rfl,by assumption⟩
 ·cases h
theorem aM2 (h : l.length + m.length ≤ 1000000) : app l m=some (l++m):=by simp [app,h]
theorem aE2 (hc : ∀ x,(c x).length=s) : zJ s (l.map c)=true:=by
 simp [zJ,hc]
theorem yN [GlobT] {bytes : Nat} (h : app l m=some l') (hH : H[id]? = some (.blk s (l.map c))) (hc : ∀ x,(c x).length=s) (hs : 0 < s) (hb : bytes ≤ 100000) (hfl : fl ≤ id) :
  iE fl H s bytes (.ms id l.length 0 l.length) (m.map c)=some (.ms id l'.length 0 l'.length,H.set id (.blk s (l'.map c))):=by
 obtain ⟨rfl,hl⟩:=aOg h
 have hmul : ∀ a,a ≤ 1000000→a * bytes ≤ 2 ^ 40:=by
  intro a ha
  have:=Nat.mul_le_mul ha hb
  omega
 have h1:=aVm (fl:=fl) (bytes:=bytes) (tot:=l.length) (ys:=m.map c) hH (by simp) (aE2 hc) hs (by simp [room]; exact ⟨hmul _ (by omega),by omega⟩) (by simp [room]; exact ⟨hmul _ (by omega),by omega⟩) hfl
 rw [h1]
 simp
def appK {α : Type} (l : List α) (k : Nat) (m : List α) : Option (List α) :=
 if k=l.length then app l m else if k + m.length ≤ l.length∧l.length ≤ 500000 then some (l.take k++(m++l.drop (k + m.length))) else none
theorem bE2 [GlobT] {bytes k : Nat} (h : appK l k m=some l') (hH : H[id]? = some (.blk s (l.map c))) (hc : ∀ x,(c x).length=s) (hs : 0 < s) (hb : bytes ≤ 100000) (hfl : fl ≤ id) :
  iE fl H s bytes (.ms id l.length 0 k) (m.map c)=some (.ms id l'.length 0 (k + m.length),H.set id (.blk s (l'.map c))):=by
 unfold appK at h
 split at h
 ·rename_i hk
  subst hk
  have:=yN h hH hc hs hb hfl
  rw [this,(aOg h).1]
  simp
 ·rename_i hk
  split at h
  ·rename_i hl
   cases h
   have hlt : id < H.length:=by
    rcases Nat.lt_or_ge id H.length with h | h
    ·exact h
    ·rw [List.getElem?_eq_none h] at hH; cases hH
   have hmul : ∀ a,a ≤ 1000000→a * bytes ≤ 2 ^ 40:=by
    intro a ha
    have:=Nat.mul_le_mul ha hb
    omega
   have r1 : room m.length bytes=true:=by simp [room]; exact ⟨hmul _ (by omega),by omega⟩
   have r2 : room (l.length + m.length) bytes=true:=by simp [room]; exact ⟨hmul _ (by omega),by omega⟩
   have hll : (l.take k++(m++l.drop (k + m.length))).length=l.length:=by simp; omega
   unfold iE
   simp only [aE2 hc,hs,r1,r2,hH,List.length_map,hfl,and_self,if_true]
   by_cases h0 : m.length=0
   ·have : m=[]:=List.length_eq_zero_iff.1 h0
    subst this
    simp only [List.length_nil,Nat.add_zero] at r1 r2
    simp only [List.length_nil,Nat.add_zero,List.nil_append,List.take_append_drop,if_true,Option.some.injEq,Prod.mk.injEq,true_and]
    apply List.ext_getElem?
    intro i
    rw [List.getElem?_set]
    split
    ·rename_i hi; subst hi; first | exact hH | (rw [if_pos hlt]; exact hH)
    ·rfl
   ·rw [hll]
    have h1 : ¬ (0=0∧k=l.length):=by omega
    have h2 : 0 + k + m.length ≤ l.length:=by omega
    simp only [h0,h1,h2,if_true,if_false,jM,List.length_map,List.map_append,List.map_take,List.map_drop,Nat.zero_add,and_false,true_and,hk]
    rw [if_pos hl.1]
  ·cases h
theorem bGe [GlobT] {bytes : Nat} {x : AV} (h : app ([] : List α) m=some l') (he : List.isEmpty m=false) (hc : ∀ x,(c x).length=s) (hs : 0 < s) (hb : bytes ≤ 100000) (hx : x=.lit nilS ∨ x=.sl true []) :
  iE fl H s bytes x (m.map c)=some (.ms H.length l'.length 0 l'.length,H++[.blk s (l'.map c)]):=by
 obtain ⟨e,hl⟩:=aOg h
 rw [List.nil_append] at e
 subst e
 have h0 : (l'.map c).length ≠ 0:=by
  intro h1
  have : l'=[]:=by simpa using h1
  rw [this] at he
  simp at he
 have hmul : ∀ a,a ≤ 1000000→a * bytes ≤ 2 ^ 40:=by
  intro a ha
  have:=Nat.mul_le_mul ha hb
  omega
 simp only [List.length_nil,Nat.zero_add] at hl
 have r1 : room (l'.map c).length bytes=true:=by simp [room]; exact ⟨hmul _ (by omega),by omega⟩
 rcases hx with rfl | rfl
 ·unfold iE nilS
  simp only [aE2 hc,hs,r1,h0,and_self,if_true,if_false]
  simp only [List.length_map]
 ·unfold iE
  have ha : zJ s ([] : List (List AV))=true:=rfl
  simp only [aE2 hc,hs,r1,h0,ha,and_self,if_true,if_false,List.length_nil,Nat.zero_add,List.nil_append]
  simp only [List.length_map]
theorem bIt (hH : H[id]? = some (.blk s (l.map c))) : rd H (.ms id l.length 0 l.length)=some (l.map c):=by
 have h1 : (l.map c).length=l.length:=by simp
 simp only [rd,hH,h1,if_true,List.drop_zero]
 rw [List.take_of_length_le (by omega)]
theorem bFm {y : AV} {ys : List (List AV)} {bytes : Nat} {x : AV} {r : AV × Heap} (h : rd H y=some ys) (k : iE fl H s bytes x ys=some r) : (match rd H y with | some ys=>iE fl H s bytes x ys | none=>none)=some r:=by
 rw [h]; exact k
theorem bIs [GlobT] {P : Program} {cf : Nat→Nat→List AV→Heap→Option (AV × Heap)} {off n k : Nat} {x' : α} {v : AV} {cs : List AV} (h : idxK l k i=some x) (hH : H[id]? = some (.blk s (l.map c))) (hfl : fl ≤ id) (hv : cellsOf v=some cs) (hx : jM (c x) off (cs.map nrm)=c x') (hn : cs.length=n∧off + cs.length ≤ (c x).length) (hnrm : cs.map nrm=cs) :
  evOp P cf fl (.store n (.tmp 0) (.tmp 1)) [.ptr id l.length (0 + i.toNat) off,v] H=some (.lit gD,H.set id (.blk s ((l.set i.toNat x').map c))):=by
 obtain ⟨h1,h2,h3,h4⟩:=aK5 h
 have h5 : (l.map c)[0 + i.toNat]? = some (c x):=by simp [h3]
 rw [hnrm] at hx
 simp only [evOp,dU,List.getElem?_cons_zero,List.getElem?_cons_succ,hv,hn.1,if_true,aDs,hfl,hH,List.length_map,h5,hn.2,hx]
 have : (l.map c).set (0 + i.toNat) (c x')=(l.set i.toNat x').map c:=by rw [Nat.zero_add,List.map_set]
 have h6 : off + n ≤ (c x).length:=by have:=hn.2; rw [hn.1] at this; exact this
 rw [this,if_pos h6]
def grd (b : Bool) : Option Unit:=match b with
 | true=>some ()
 | false=>none
theorem aEw {b : Bool} {u : Unit} (h : grd b=some u) : b=true:=by cases b <;> first | rfl | cases h
def prd (n : Nat) : Option Nat:=match n with
 | 0=>none
 | k + 1=>some k
theorem pQ {n k : Nat} (h : prd n=some k) : n=k + 1:=by
 cases n with
 | zero=>cases h
 | succ n=>cases h; rfl
def cut {α : Type} (l : List α) (lo hi : Int) : Option (List α):=if 0 ≤ lo∧lo ≤ hi∧hi ≤ l.length then some ((l.take hi.toNat).drop lo.toNat) else none
theorem aK6 (hc : ∀ x,(c x).length=s) : aCv s (l.map c)=true:=by
 cases l with
 | nil=>rfl
 | cons x r=>simp [aCv,hc]
theorem aOx [GlobT] {lo hi : Option Nat} {L Hh : Nat} (hl : lo.getD 0=L) (hh : hi.getD l.length=Hh) (h1 : L ≤ Hh) (h2 : Hh ≤ l.length) (hc : ∀ x,(c x).length=s) : aBy H s (.sl false (l.map c)) lo hi none=some (.sl false (((l.take Hh).drop L).map c)):=by
 unfold aBy
 simp only [List.length_map,hl,hh,h1,h2,aK6 hc,and_self,if_true,Bool.false_and,List.map_drop,List.map_take]
section
variable {P : Program} {cf : Nat→Nat→List AV→Heap→Option (AV × Heap)} {lo hi : Int} {w y z : AV}
theorem aUp [GlobT] (h : cut l lo ((l.length : Nat) : Int)=some l') (hc : ∀ x,(c x).length=s) : evOp P cf fl (.slice s (.tmp 0) (some (.tmp 1)) none none) [.sl false (l.map c),iv lo,y,z] H=some (.sl false (l'.map c),H):=by
 unfold cut at h
 split at h
 ·rename_i hb
  cases h
  simp only [evOp,dU,tH,uS,List.getElem?_cons_zero,List.getElem?_cons_succ,hb.1,if_true]
  rw [aOx (L:=lo.toNat) (Hh:=l.length) rfl rfl (by omega) (by omega) hc]
  simp
 ·cases h
theorem aKq [GlobT] {a b : Int} : evOp P cf fl (.minmax true [.tmp 0,.tmp 1]) [iv a,iv b] H=some (iv (imax a b),H):=by
 simp [evOp,dU,litL,bFo,imax]
theorem aWu [GlobT] {a b : Int} : evOp P cf fl (.minmax false [.tmp 0,.tmp 1]) [iv a,iv b] H=some (iv (imin a b),H):=by
 have : eD P (Builtin.min_ #[] 0 #[.int .i64 a,.int .i64 b])=some (.int .i64 (if b < a then b else a)):=by
  by_cases h : b < a <;> simp [Builtin.min_,Builtin.min2,h] <;> rfl
 simp [evOp,dU,litL,this,imin]
end
theorem aV3 {k : Nat} (hH : H[id]? = some (.blk s (l.map c))) (hp : ∀ x,(c x).map (lD H 0 5)=c x) : jX H 0 (.ms id l.length 0 k)=.sl false ((l.take k).map c):=by
 simp only [jX,Nat.not_lt_zero,if_false,nV,lD,Nat.zero_le,if_true,rd,hH,List.length_map,List.drop_zero]
 congr 1
 rw [← List.map_take,List.map_map]
 exact List.map_congr_left fun x _=>hp x
theorem bBu [GlobT] {P : Program} {cf : Nat→Nat→List AV→Heap→Option (AV × Heap)} (hH : H[id]? = some (.blk s (l.map c))) (hfl : fl ≤ id) (hp : ∀ x,(c x).map toP=c x) :
  evOp P cf fl (.freeze (.tmp 0)) [.ms id l.length 0 l.length] H=some (.sl false (l.map c),H.set id (.blk s (l.map c++[List.replicate s .undef]))):=by
 have h1 : (l.map c).length=l.length:=by simp
 simp only [evOp,dU,List.getElem?_cons_zero,hfl,if_true,hH,h1,List.drop_zero]
 rw [List.take_of_length_le (by omega)]
 have : (l.map c).map (fun e=>e.map toP)=l.map c:=by
  rw [List.map_map]
  exact List.map_congr_left fun x _=>hp x
 rw [this]
theorem aAx (hH : H[id]? = some (.blk s (l.map c))) (hp : ∀ x,(c x).map (lD H 0 5)=c x) : jX H 0 (.ms id l.length 0 l.length)=.sl false (l.map c):=by
 have h1 : (l.map c).length=l.length:=by simp
 simp only [jX,Nat.not_lt_zero,if_false,nV,lD,Nat.zero_le,if_true,rd,hH,h1,List.drop_zero]
 rw [List.take_of_length_le (by omega)]
 congr 1
 rw [List.map_map]
 exact List.map_congr_left fun x _=>hp x
theorem bAr [GlobT] {P : Program} {cf : Nat→Nat→List AV→Heap→Option (AV × Heap)} {off n k : Nat} {agg : Bool} {v : AV} (h : idxK l k i=some x) (hH : H[id]? = some (.blk s (l.map c))) (ho : off + n ≤ (c x).length)
  (hv : (if agg then some (AV.agg (((c x).drop off).take n)) else match ((c x).drop off).take n with | [y]=>some y | _=>none)=some v) :
  evOp P cf fl (.load agg n (.tmp 0)) [.ptr id l.length (0 + i.toNat) off] H=some (v,H):=by
 obtain ⟨h1,h2,h3,h5⟩:=aK5 h
 have h4 : (l.map c)[0 + i.toNat]? = some (c x):=by simp [h3]
 simp only [evOp,dU,List.getElem?_cons_zero,uT,hH,List.length_map,if_true,h4,ho]
 cases agg with
 | true=>simp only [if_true] at hv ⊢; cases hv; rfl
 | false =>
  simp only [Bool.false_eq_true,if_false] at hv ⊢
  split at hv
  ·rename_i y hy
   cases hv
   rw [hy]
  ·cases hv
end
end Go.Proofs.YtapabkfjeiknbaaGreat.Av
namespace Go.Proofs.YtapabkfjeiknbaaGreat.Av
open Go
section
variable {K V : Type} [DecidableEq K]
def mget (m : List (K × V)) (k : K) : Option V:=match m with
 | []=>none
 | (k',v) :: r=>if k'=k then some v else mget r k
def mput (m : List (K × V)) (k : K) (v : V) : List (K × V):=match m with
 | []=>[(k,v)]
 | (k',v') :: r=>if k'=k then (k,v) :: r else (k',v') :: mput r k v
theorem aEv [GlobT] (k k' : K) (v : V) : ∀ m : List (K × V),mget (mput m k v) k'=if k=k' then some v else mget m k'
 | []=>by simp [mput,mget]
 | (a,b) :: r=>by
  simp only [mput]
  split
  ·rename_i h
   subst h
   simp only [mget]
   split <;> rfl
  ·rename_i h
   simp only [mget,aEv k k' v r]
   split
   ·rename_i h1
    subst h1
    rw [if_neg fun h2=>h h2.symm]
   ·rfl
def entL (kv : K→Value) (va : V→AV) (m : List (K × V)) : List (Value × AV):=m.map fun p=>(kv p.1,va p.2)
structure KeyOK (P : Program) (kt : TypeId) (kv : K→Value) : Prop where
 find : ∀ (k : K) (ks : List K),aAr P kt (kv k) (ks.map fun x=>(kv x,AV.undef))=some (ks.findIdx? fun x=>decide (x=k))
 chk : ∀ (e : Bool) (k : K),eD P (Instr.checkKey e 10000 kt (kv k))=some ()
 same : ∀ k : K,Instr.sameBits 10000 (kv k) (kv k)=true
theorem aVa {P : Program} {kt : TypeId} {k : Value} {e1 e2 : List (Value × AV)} (h : e1.map (·.1)=e2.map (·.1)) : aAr P kt k e1=aAr P kt k e2:=by
 unfold aAr
 have : (e1.map fun e=>({ key:=e.1,val:=.bool false,born:=0 } : MapEntry))=e2.map fun e=>{ key:=e.1,val:=.bool false,born:=0 }:=by
  have e : ∀ l : List (Value × AV),(l.map fun e=>({ key:=e.1,val:=.bool false,born:=0 } : MapEntry))=(l.map (·.1)).map fun k=>{ key:=k,val:=.bool false,born:=0 }:=fun l=>by simp
  rw [e,e,h]
 rw [this]
theorem aJr [GlobT] {P : Program} {kt : TypeId} {kv : K→Value} (hk : KeyOK P kt kv) (va : V→AV) (k : K) (m : List (K × V)) : aAr P kt (kv k) (entL kv va m)=some (m.findIdx? fun p=>decide (p.1=k)):=by
 rw [aVa (e2:=(m.map (·.1)).map fun x=>(kv x,AV.undef)) (by simp [entL]),hk.find]
 congr 1
 rw [List.findIdx?_map]
 rfl
theorem aGy [GlobT] (k : K) : ∀ m : List (K × V),(mget m k=none∧m.findIdx? (fun p=>decide (p.1=k))=none) ∨ ∃ i v,mget m k=some v∧m.findIdx? (fun p=>decide (p.1=k))=some i∧m[i]? = some (k,v)
 | []=>.inl ⟨rfl,rfl⟩
 | (a,b) :: r=>by
  simp only [mget,List.findIdx?_cons]
  by_cases h : a=k
  ·subst h
   exact .inr ⟨0,b,by simp,by simp,rfl⟩
  ·rw [if_neg h,decide_eq_false h]
   simp only [Bool.false_eq_true,if_false]
   rcases aGy k r with ⟨h1,h2⟩ | ⟨i,v,h1,h2,h3⟩
   ·exact .inl ⟨h1,by simp [h2]⟩
   ·exact .inr ⟨i + 1,v,h1,by simp [h2],by simpa using h3⟩
theorem aTf [GlobT] (k : K) (v : V) : ∀ m : List (K × V),mput m k v=match m.findIdx? (fun p=>decide (p.1=k)) with | some i=>m.set i (k,v) | none=>m++[(k,v)]
 | []=>rfl
 | (a,b) :: r=>by
  simp only [mput,List.findIdx?_cons]
  by_cases h : a=k
  ·subst h
   simp
  ·rw [if_neg h,decide_eq_false h,aTf k v r]
   simp only [Bool.false_eq_true,if_false]
   cases r.findIdx? fun p=>decide (p.1=k) with
   | none=>simp
   | some i=>simp
variable {P : Program} {cf : Nat→Nat→List AV→Heap→Option (AV × Heap)} {fl id : Nat} {H : Heap} {kt : TypeId} {kv : K→Value} {va : V→AV} {m : List (K × V)} {x : AV} {k : K}
theorem xF [GlobT] (hk : KeyOK P kt kv) (z : V) (hx : lits x=some (kv k)) (hH : H[id]? = some (.mp (entL kv va m))) : evOp P cf fl (.lookup kt (.tmp 2) (.tmp 0) (.tmp 1) false) [.mp id,x,va z] H=some (va ((mget m k).getD z),H):=by
 simp only [evOp,dU,List.getElem?_cons_zero,List.getElem?_cons_succ,hx,hH,hk.chk,aJr hk]
 rcases aGy k m with ⟨h1,h2⟩ | ⟨i,v,h1,h2,h3⟩
 ·simp [h1,h2]
 ·have : (entL kv va m)[i]? = some (kv k,va v):=by simp [entL,h3]
  simp [h1,h2,this]
theorem aIl [GlobT] (hk : KeyOK P kt kv) (v : V) (hx : lits x=some (kv k)) (hfl : fl ≤ id) (hH : H[id]? = some (.mp (entL kv va m))) : evOp P cf fl (.mapUpd kt (.tmp 0) (.tmp 1) (.tmp 2)) [.mp id,x,va v] H=some (.lit gD,H.set id (.mp (entL kv va (mput m k v)))):=by
 simp only [evOp,dU,List.getElem?_cons_zero,List.getElem?_cons_succ,hx,hH,hk.chk,aJr hk,hfl,if_true,aTf]
 rcases aGy k m with ⟨h1,h2⟩ | ⟨i,u,h1,h2,h3⟩
 ·simp [h2,entL]
 ·have : (entL kv va m)[i]? = some (kv k,va u):=by simp [entL,h3]
  simp only [h2,this,hk.same,if_true]
  simp [entL,List.map_set]
end
theorem aYs {K V : Type} {kv : K→Value} {va : V→AV} {n : Nat} {m : List (K × V)} (h : ∀ v,aIw n (va v)=va v) : (entL kv va m).map (fun e=>(e.1,aIw n e.2))=entL kv va m:=by
 simp [entL,h]
theorem aLd [GlobT] (k : Int) : ∀ (ks : List Int) (i : Nat),Instr.findNow (.int .i64) (.int .i64 k) (ks.map fun x=>{ key:=.int .i64 x,val:=.bool false,born:=0 }) i=some ((ks.findIdx? fun x=>decide (x=k)).map fun j=>(i + j,.bool false))
 | [],i=>rfl
 | x :: r,i=>by
  simp only [List.map_cons,Instr.findNow,Instr.sameNow,if_true,List.findIdx?_cons]
  by_cases h : x=k
  ·subst h
   simp
  ·have h' : (k == x)=false:=by simpa using fun e=>h e.symm
   rw [decide_eq_false h,h']
   simp only [Bool.false_eq_true,if_false,aLd k r (i + 1)]
   cases r.findIdx? fun x=>decide (x=k) with
   | none=>rfl
   | some j=>simp; omega
theorem bEg [GlobT] {P : Program} {kt : TypeId} (hu : eD P (underlying kt)=some (.int .i64)) : KeyOK P kt (fun k : Int=>.int .i64 k) where
 find:=fun k ks=>by
  unfold aAr
  simp only [Instr.findKey,iG,hu,Option.bind_some,List.map_map,Function.comp_def,aLd,jA]
  cases ks.findIdx? fun x=>decide (x=k) with
  | none=>rfl
  | some j=>simp
 chk:=fun e k=>by
  rw [Instr.checkKey]
  simp only [iG,hu,Option.bind_some]
  rfl
 same:=fun k=>by simp [Instr.sameBits]
theorem bEc [GlobT] {K V : Type} {P : Program} {cf : Nat→Nat→List AV→Heap→Option (AV × Heap)} {fl id : Nat} {H : Heap} {kv : K→Value} {va : V→AV} {m : List (K × V)} (hH : H[id]? = some (.mp (entL kv va m))) : evOp P cf fl (.lenM (.tmp 0)) [.mp id] H=some (iv (m.length : Nat),H):=by
 simp only [evOp,dU,List.getElem?_cons_zero,hH]
 simp [entL]
end Go.Proofs.YtapabkfjeiknbaaGreat.Av
