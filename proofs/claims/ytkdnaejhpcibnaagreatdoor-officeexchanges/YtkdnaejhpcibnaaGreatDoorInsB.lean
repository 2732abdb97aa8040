/- A part of the proofs of laws of the chapter office: an evaluator of the program, proved sound, and what it says. -/
import Derived.Test.YtkdnaejhpcibnaaGreatDoorInsA
import Derived.Test.YtkdnaejhpcibnaaGreatDoorAvStr
set_option linter.unusedVariables false
set_option linter.unusedSimpArgs false
namespace Go.Proofs.YtkdnaejhpcibnaaGreatDoor.Av
open Go Go.Proofs Go.Shelf Go.RowKit Go.Lib
section
variable {P : Program} {T : List AFun} {c : Ctx} {fl : Nat}
def aK4 [GlobT] (FT : Nat → Option Nat) (c : Ctx) (fl : Nat) (r : AV) (H' : Heap) (v : Value) (w' : World) : Prop :=
 ∃ c',c'.w = w' ∧ c'.H = H' ∧ c'.X = c.X ∧ Step fl c c' ∧ Sim FT c' ∧ RV FT c' r v
theorem aMc [GlobT] (hs : Sim (ftOf T) c) {id id2 : Nat} {es : List (List AV)} {row : List AV} {t e : TypeId} {i : TypeInfo} {z : Value} {s bytes : Nat} {xv yv : Value} (hflid : fl ≤ id)
  (hob : c.H[id]? = some (.blk s es)) (hov : c.H[id2]? = some (.blk s [row])) (hx : RV (ftOf T) c (.ms id es.length 0 es.length) xv) (hy : RV (ftOf T) c (.ms id2 1 0 1) yv)
  (ht : P.underlying t = some (.slice e)) (hi : P.info? e = some i) (hsz : i.size = s) (hby : i.bytes = bytes) (hz : i.zero = some z) (hzs : z.cells.size = s) (hs0 : 0 < s)
  (hroom : room (es.length + 1) bytes = true) (ty : TypeId) :
  ∃ v w',(Builtin.append_ #[t,t] ty #[xv,yv]).run P c.w = .ok v w' ∧ aK4 (ftOf T) c fl (.ms id (es.length + 1) 0 (es.length + 1)) (c.H.set id (.blk s (es ++ [row]))) v w':=by
 subst hsz hby
 have hlens:=hs.lens id i.size es hob
 have hly : ∀ e ∈ [row],e.length = i.size:=hs.lens id2 i.size [row] hov
 obtain ⟨xa,xc,news,hv2,_,hE,hfc⟩:=aMv (P:=P) hs hy (by simp [rd,hov] : rd c.H (.ms id2 1 0 1) = some [row]) hly hs0
 have hsrc : Src P c.w t t e i yv 1 news:=by
  rw [hv2]
  refine aFs ht ht hi (fun w' hd => ?_)
  have:=hfc w' hd
  rw [hv2] at this
  exact this
 obtain ⟨ad,cap,s0,n0,hv,g1,g2,g3,g4⟩:=hx.ms_inv
 rw [pQ hob] at g1
 cases g1
 obtain ⟨m1,m2⟩:=g4 rfl
 have moves : cap < es.length + 1 → ∃ v w',(Builtin.append_ #[t,t] ty #[xv,yv]).run P c.w = .ok v w' ∧ aK4 (ftOf T) c fl (.ms id (es.length + 1) 0 (es.length + 1)) (c.H.set id (.blk i.size (es ++ [row]))) v w':=by
  intro hcap
  obtain ⟨xa',xc',olds,k1,k2,k3⟩:=pB (P:=P) hs hx (by simp [rd,hob] : rd c.H (.ms id es.length 0 es.length) = some es) hlens hs0
  rw [hv] at k1
  cases k1
  obtain ⟨f1,f2⟩:=aGh hroom hcap
  obtain ⟨cells,q1,q2⟩:=hsrc.grow ty z ad es.length cap olds hz hcap f2 f1 k3
  have hge:=grownCap_ge c.w (es.length + 1) cap e
  have hsize : cells.size = grownCap c.w (es.length + 1) cap e * i.size:=by
   have:=congrArg List.length q1
   simp only [Array.length_toList,List.length_append,k2.1,hE.1,size_zeroCells,hzs] at this
   rw [this,← Nat.add_mul,← Nat.add_mul]; congr 1; show es.length + 1 + _ = _; omega
  have hgt : es.length < (es ++ [row]).length:=by simp
  have q4 : ∀ f ∈ es ++ [row],f.length = i.size:=by
   intro f hf
   rcases List.mem_append.1 hf with h | h
   ·exact hlens f h
   ·exact hly f h
  have q5 : ∀ k j x,mA (es ++ [row]) k j = some x → ∃ v,cells[k * i.size + j]? = some v ∧ lB v = true ∧ RV (ftOf T) c x v:=by
   intro k j x hx
   obtain ⟨u,k1,k2,k3⟩:=vC (rest:=(Builtin.zeroCells z.cells (grownCap c.w (es.length + 1) cap e - (es.length + 1))).toList) k2 hE k j x hx
   refine ⟨u,?_,k2,k3⟩
   rw [← q1] at k1
   simpa using k1
  rw [hv]
  refine ⟨_,_,q2,⟨c.w.drew.alloc (.cells cells e (0,0)),c.X,upd c.β id c.w.heap.size,c.H.set id (.blk i.size (es ++ [row]))⟩,rfl,rfl,rfl,sV (ob:=.cells cells e (0,0)) hs hflid hob hgt rfl rfl rfl rfl,
   zK (cs':=cells) (T:=e) hs hob hgt rfl rfl rfl rfl q4 (by rw [hsize]; exact Nat.mul_le_mul_right _ (by simpa using hge)) q5,?_⟩
  refine .ms id (es.length + 1) 0 (es.length + 1) _ _ i.size (es.length + 1) (by rw [qL hob]; simp) (Nat.le_refl _) hge fun _ => ⟨by omega,.inr ⟨c.w.heap.size,cells,e,_,mK _ _ _,?_,by simpa using hsize.symm,rfl,fun _ => by simp⟩⟩
  exact heap_alloc_new c.w.drew _
 rcases m2 with ⟨_,m3,m4,m5⟩ | ⟨b,cc,Ty,a',m3,m4,m5,m6,m7⟩
 ·exact moves (by omega)
 ·by_cases hcap : cap < es.length + 1
  ·exact moves hcap
  ·have ha:=m7 (by omega)
   subst m6
   subst ha
   obtain ⟨cc',Ty',q1,q2,q3⟩:=hs.blk id i.size es b hob m3
   rw [m4] at q1
   cases q1
   have hfit : es.length * i.size + news.length ≤ cc.size:=by
    rw [hE.1,← m5,← Nat.add_mul]; exact Nat.mul_le_mul_right _ (by show es.length + 1 ≤ 0 + cap; omega)
   obtain ⟨p1,p2⟩:=xK (k:=es.length) hlens hly (Nat.le_refl _) hE hfit q3
   have hsp : lG es es.length [row] = es ++ [row]:=by simp [lG]
   rw [hsp] at p1 p2
   have hst:=run_storeCells_at P b (es.length * i.size) Ty news 0 cc c.w m4 (by simpa using hfit) (nS hly hE)
   rw [nN] at hst
   have hsplen:=lR (l:=cc.toList) (vs:=news) (k:=es.length * i.size) (by simpa using hfit)
   have hrun:=hsrc.run ty (some ⟨b,0 * i.size,none⟩) es.length cap (by omega) _ (fun ad' h => by cases h; rw [nU]; simpa using hst) (fun h => by cases h)
   rw [← hv] at hrun
   refine ⟨_,_,hrun,⟨c.w.setRow b (lG cc.toList (es.length * i.size) news).toArray,c.X,c.β,c.H.set id (.blk i.size (es ++ [row]))⟩,rfl,rfl,rfl,
    rI (cs':=(lG cc.toList (es.length * i.size) news).toArray) hs hflid hob m3 m4 (by simp) (by simpa using hsplen) (setRow_heap c.w b cc _ Ty _ m4) (fun k hk => setRow_other c.w b k _ hk) (by simp) rfl rfl rfl,
    xS (cs':=(lG cc.toList (es.length * i.size) news).toArray) hs hob m3 m4 (by simp) (by simpa using hsplen) (setRow_heap c.w b cc _ Ty _ m4) (fun k hk => setRow_other c.w b k _ hk) (by simp) rfl rfl rfl p1 ?_ p2,?_⟩
   ·simp only [List.length_append,List.size_toArray,hsplen,Array.length_toList]
    rw [Nat.add_mul,← hE.1]; exact hfit
   ·refine .ms id (es.length + 1) 0 (es.length + 1) _ cap i.size (es.length + 1) (by rw [qL hob]; simp) (Nat.le_refl _) (by omega) fun _ => ⟨by omega,.inr ⟨b,_,Ty,_,m3,setRow_heap c.w b cc _ Ty _ m4,?_,rfl,fun _ => rfl⟩⟩
    simpa [hsplen] using m5
theorem aDz [GlobT] {FT : Nat → Option Nat} {s : Nat} {ys zs : List (List AV)} {m n : List Value} (h : nF FT c s ys m) (k : nF FT c s zs n) : nF FT c s (ys ++ zs) (m ++ n):=by
 refine ⟨by rw [List.length_append,List.length_append,h.1,k.1,Nat.add_mul],fun i j x hx => ?_⟩
 obtain ⟨u,h1,h2,h3⟩:=vC (rest:=[]) h k i j x hx
 exact ⟨u,by simpa using h1,h2,h3⟩
theorem aI1 {FT : Nat → Option Nat} {s k : Nat} {ys : List (List AV)} {m : List Value} (hl : ∀ e ∈ ys,e.length = s) (h : nF FT c s ys m) (hk : k ≤ ys.length) : nF FT c s (ys.take k) (m.take (k * s)):=by
 refine ⟨?_,fun i j x hx => ?_⟩
 ·rw [List.length_take,List.length_take,h.1,Nat.min_eq_left hk,Nat.min_eq_left (Nat.mul_le_mul_right _ hk)]
 ·obtain ⟨e,h1,h2⟩:=mL hx
  rw [List.getElem?_take] at h1
  split at h1
  ·rename_i hi
   have hj : j < s:=by
    have:=hl e (List.mem_of_getElem? h1)
    rw [← this]; exact (List.getElem?_eq_some_iff.1 h2).1
   obtain ⟨u,g1,g2,g3⟩:=h.2 i j x (by simp [mA,h1,h2])
   exact ⟨u,by rw [List.getElem?_take,if_pos (aDe hi hj)]; exact g1,g2,g3⟩
  ·cases h1
theorem aI2 {FT : Nat → Option Nat} {s k : Nat} {ys : List (List AV)} {m : List Value} (h : nF FT c s ys m) : nF FT c s (ys.drop k) (m.drop (k * s)):=by
 refine ⟨?_,fun i j x hx => ?_⟩
 ·rw [List.length_drop,List.length_drop,h.1,Nat.sub_mul]
 ·obtain ⟨e,h1,h2⟩:=mL hx
  rw [List.getElem?_drop] at h1
  obtain ⟨u,g1,g2,g3⟩:=h.2 (k + i) j x (by simp [mA,h1,h2])
  exact ⟨u,by rw [List.getElem?_drop,← Nat.add_assoc,← Nat.add_mul]; exact g1,g2,g3⟩
theorem aDy {FT : Nat → Option Nat} {s : Nat} {es : List (List AV)} {cc : Array Value} (hl : ∀ e ∈ es,e.length = s) (hfit : es.length * s ≤ cc.size)
  (h : ∀ i j x,mA es i j = some x → ∃ v,cc[i * s + j]? = some v ∧ lB v = true ∧ RV FT c x v) : nF FT c s es (cc.toList.take (es.length * s)):=by
 refine ⟨by rw [List.length_take,Array.length_toList]; exact Nat.min_eq_left hfit,fun i j x hx => ?_⟩
 obtain ⟨e,h1,h2⟩:=mL hx
 have hi:=(List.getElem?_eq_some_iff.1 h1).1
 have hj : j < s:=by
  have:=hl e (List.mem_of_getElem? h1)
  rw [← this]; exact (List.getElem?_eq_some_iff.1 h2).1
 obtain ⟨u,g1,g2,g3⟩:=h i j x hx
 exact ⟨u,by rw [List.getElem?_take,if_pos (aDe hi hj),Array.getElem?_toList]; exact g1,g2,g3⟩
theorem aN7 {l v d : List Value} {i n : Nat} (hl : (n + 1) * 5 ≤ l.length) (hv : v.length = 1 * 5) (hd : d.length = (n - i) * 5) (hi : i < n) :
  (lG (lG l ((i + 1) * 5) d) (i * 5) v).take ((n + 1) * 5) = l.take (i * 5) ++ (v ++ d):=by
 unfold lG
 have h0 : (List.take ((i + 1) * 5) l).length = (i + 1) * 5:=by rw [List.length_take]; omega
 have e1 : (List.take ((i + 1) * 5) l ++ (d ++ List.drop ((i + 1) * 5 + d.length) l)).take (i * 5) = l.take (i * 5):=by
  rw [List.take_append_of_le_length (by rw [h0]; omega),List.take_take,Nat.min_eq_left (by omega)]
 have e2 : (List.take ((i + 1) * 5) l ++ (d ++ List.drop ((i + 1) * 5 + d.length) l)).drop (i * 5 + v.length) = d ++ List.drop ((i + 1) * 5 + d.length) l:=by
  rw [hv,show i * 5 + 1 * 5 = (List.take ((i + 1) * 5) l).length by rw [h0]; omega,List.drop_left]
 have h1 : (List.take (i * 5) l).length = i * 5:=by rw [List.length_take]; omega
 rw [e1,e2,← List.append_assoc v d,← List.append_assoc]
 rw [List.take_append_of_le_length (by simp only [List.length_append,h1,hv,hd]; omega)]
 exact List.take_of_length_le (by simp only [List.length_append,h1,hv,hd]; omega)
set_option maxHeartbeats 1000000 in
theorem aXa [GlobT] {ρ : Ren} {zs : Array Value} {zb : Nat} (L : InsL P ρ zs zb) (hzb : zb ≤ 100000) (hs : Sim (ftOf T) c) {id id2 i : Nat} {es : List (List AV)} {row : List AV} {vs : Array Value} (hflid : fl ≤ id) (hne : id ≠ id2)
  (hob : c.H[id]? = some (.blk 5 es)) (hov : c.H[id2]? = some (.blk 5 [row])) (hi : i ≤ es.length) (hl : es.length ≤ 1000000)
  (hargs : aC8 (ftOf T) c [.ms id es.length 0 es.length,.lit (.int .i64 i),.ms id2 1 0 1] vs) :
  Calls P (ρ.f 22) vs c.w fun e w' => ∃ v,e = .returned v ∧ aK4 (ftOf T) c fl (.ms id (es.length + 1) 0 (es.length + 1)) (c.H.set id (.blk 5 (es.take i ++ row :: es.drop i))) v w':=by
 obtain ⟨x0,k0,r0⟩:=hargs.2 0 _ rfl
 obtain ⟨x1,k1,r1⟩:=hargs.2 1 _ rfl
 obtain ⟨x2,k2,r2⟩:=hargs.2 2 _ rfl
 have hx1:=r1.lit_inv
 have hvs : vs = #[x0,.int .i64 i,x2]:=by
  subst hx1
  apply Array.ext
  ·exact hargs.1
  ·intro j hj1 hj2
   have hj3 : j < 3:=by simpa using hj2
   match j,hj3 with
   | 0,_ => exact Option.some.inj ((Array.getElem?_eq_getElem hj1).symm.trans k0)
   | 1,_ => exact Option.some.inj ((Array.getElem?_eq_getElem hj1).symm.trans k1)
   | 2,_ => exact Option.some.inj ((Array.getElem?_eq_getElem hj1).symm.trans k2)
 subst hvs
 have hlens:=hs.lens id 5 es hob
 have hly : ∀ e ∈ [row],e.length = 5:=hs.lens id2 5 [row] hov
 obtain ⟨i0,hi0,hz0,hzs,hzb'⟩:=info_parts L.i9
 have hroom : room (es.length + 1) zb = true:=by
  have h1 : (es.length + 1) * zb ≤ 1000001 * 100000:=Nat.mul_le_mul (by omega) hzb
  simp only [room,Bool.and_eq_true,decide_eq_true_eq]
  omega
 obtain ⟨a0,c0,s0,n0,rfl,g1,g2,g3,g4⟩:=r0.ms_inv
 rw [pQ hob] at g1
 cases g1
 obtain ⟨m1,m2⟩:=g4 rfl
 obtain ⟨a2,c2,s2,n2,rfl,j1,j2,j3,j4⟩:=r2.ms_inv
 rw [pQ hov] at j1
 cases j1
 obtain ⟨_,p2⟩:=j4 rfl
 rcases p2 with ⟨_,h0,_⟩ | ⟨vb,vv,Tv,b2,q1,q2,q3,rfl,q5⟩
 ·cases h0
 obtain rfl:=q5 (by omega)
 by_cases hin : i = es.length
 ·subst hin
  obtain ⟨v,w',hrun,hleft⟩ : ∃ v w',(∀ ty,(Builtin.append_ #[(ρ.t 24),(ρ.t 24)] ty #[.slice a0 es.length c0,.slice (some ⟨vb,0 * 5,none⟩) 1 c2]).run P c.w = .ok v w') ∧ aK4 (ftOf T) c fl (.ms id (es.length + 1) 0 (es.length + 1)) (c.H.set id (.blk 5 (es ++ [row]))) v w':=by
   have key:=fun ty => aMc (P:=P) (fl:=fl) hs (id:=id) (id2:=id2) (es:=es) (row:=row) (t:=ρ.t 24) (e:=ρ.t 9) (i:=i0) (z:=.agg zs) (s:=5) (bytes:=zb) hflid hob hov r0 r2 L.t24 hi0 hzs hzb' hz0 L.zl (by omega) hroom ty
   obtain ⟨v,w',h1,h2⟩:=key 0
   refine ⟨v,w',fun ty => ?_,h2⟩
   rw [← h1]
   rfl
  refine (aVg L a0 es.length c0 vb c2 c.w w' v g3 (fun h => by
   rcases m2 with ⟨_,h0,_⟩ | ⟨b,cc,Ty,a',m3,m4,m5,m6,m7⟩
   ·exact h0
   ·rw [h] at m6; cases m6) (by simpa using hrun)).mono fun e w'' ⟨he,hw⟩ => ?_
  subst hw
  refine ⟨v,he,?_⟩
  simpa using hleft
 have hlt : i < es.length:=by omega
 rcases m2 with ⟨_,h0,_⟩ | ⟨b,cc,Ty,a',m3,m4,m5,rfl,m7⟩
 ·omega
 obtain rfl:=m7 (by omega)
 have hvb : vb ≠ b:=fun e => hne (hs.inj id id2 b m3 (e ▸ q1))
 obtain ⟨cc',Ty',u1,u2,u3⟩:=hs.blk id 5 es b hob m3
 rw [m4] at u1
 cases u1
 obtain ⟨vv',Tv',w1,w2,w3⟩:=hs.blk id2 5 [row] vb hov q1
 rw [q2] at w1
 cases w1
 have E1:=aDy hlens u2 u3
 have E2:=aDy hly w2 w3
 have E2' : nF (ftOf T) c 5 [row] (vv.toList.take 5):=E2
 have hvl : 5 ≤ vv.size:=by simpa using w2
 have h1c:=nS hlens E1
 have h1v:=nS hly E2'
 have E3 : nF (ftOf T) c 5 (es.take i ++ row :: es.drop i) (cc.toList.take (i * 5) ++ (vv.toList.take 5 ++ (cc.toList.take (es.length * 5)).drop (i * 5))):=by
  have e1 : cc.toList.take (i * 5) = (cc.toList.take (es.length * 5)).take (i * 5):=by rw [List.take_take,Nat.min_eq_left (by omega)]
  rw [e1]
  exact aDz (aI1 hlens E1 hi) (aDz (ys:=[row]) E2' (aI2 E1))
 have hl' : ∀ f ∈ es.take i ++ row :: es.drop i,f.length = 5:=by
  intro f hf
  rcases List.mem_append.1 hf with h | h
  ·exact hlens f (List.mem_of_mem_take h)
  ·rcases List.mem_cons.1 h with rfl | h
   ·exact hly _ (by simp)
   ·exact hlens f (List.mem_of_mem_drop h)
 have hlen' : (es.take i ++ row :: es.drop i).length = es.length + 1:=by
  simp only [List.length_append,List.length_take,List.length_cons,List.length_drop]
  omega
 have hrows : ∀ R : Array Value,R.toList.take ((es.length + 1) * 5) = cc.toList.take (i * 5) ++ (vv.toList.take 5 ++ (cc.toList.take (es.length * 5)).drop (i * 5)) →
   ∀ k j x,mA (es.take i ++ row :: es.drop i) k j = some x → ∃ v,R[k * 5 + j]? = some v ∧ lB v = true ∧ RV (ftOf T) c x v:=by
  intro R hR k j x hx
  obtain ⟨v,h1,h2,h3⟩:=E3.2 k j x hx
  refine ⟨v,?_,h2,h3⟩
  rw [← hR,List.getElem?_take] at h1
  split at h1
  ·rw [← Array.getElem?_toList]; exact h1
  ·cases h1
 by_cases hcap : c0 < es.length + 1
 ·refine (aQw L b es.length c0 i vb c2 cc vv Ty Tv c.w hlt g3 hcap (by
   have:=(aFz hroom).1
   omega) (by omega) m4 u2 q2 hvl h1c h1v).mono fun e w' hq => ?_
  obtain ⟨G,R,q,f1,f2,f3,rfl,f5,f6,f7,f8,f9⟩:=hq
  have hgt : es.length < (es.take i ++ row :: es.drop i).length:=by omega
  refine ⟨_,rfl,⟨w',c.X,upd c.β id c.w.heap.size,c.H.set id (.blk 5 (es.take i ++ row :: es.drop i))⟩,rfl,rfl,rfl,sV hs hflid hob hgt f5 f6 f7 f8 f9,zK (cs':=R) hs hob hgt f5 f6 f7 f8 hl' (by rw [hlen',f2]; exact Nat.mul_le_mul_right _ f1) (hrows R f3) f9,?_⟩
  refine .ms id (es.length + 1) 0 (es.length + 1) _ G 5 (es.length + 1) (by rw [qL hob,if_pos rfl,hlen']) (Nat.le_refl _) f1 fun _ => ⟨by omega,.inr ⟨c.w.heap.size,R,ρ.t 9,_,mK _ _ _,?_,by rw [f2,Nat.zero_add],rfl,fun _ => by simp⟩⟩
  show w'.heap[c.w.heap.size]? = _
  rw [f5]; simp
 ·have hfit : (es.length + 1) * 5 ≤ cc.size:=by rw [← m5,Nat.zero_add]; exact Nat.mul_le_mul_right _ (by omega)
  ·refine (aN6 L b es.length c0 i vb c2 cc vv Ty Tv c.w hlt (by omega) (by omega) hvb m4 hfit q2 hvl h1c h1v).mono fun e w' hq => ?_
   obtain ⟨rfl,rfl⟩:=hq
   have hD : ((cc.toList.take (es.length * 5)).drop (i * 5)).length = (es.length - i) * 5:=by
    rw [List.length_drop,List.length_take,Array.length_toList,Nat.min_eq_left (by omega),Nat.sub_mul]
   have hV : (vv.toList.take 5).length = 1 * 5:=by rw [List.length_take,Array.length_toList,Nat.min_eq_left hvl]
   have hB:=aN7 (l:=cc.toList) (v:=vv.toList.take 5) (i:=i) (n:=es.length) (by rw [Array.length_toList]; exact hfit) hV hD hlt
   have hXl : (lG cc.toList ((i + 1) * 5) ((cc.toList.take (es.length * 5)).drop (i * 5))).length = cc.size:=by
    have h1 : (i + 1) * 5 + (es.length - i) * 5 ≤ cc.size:=by
     clear hrows hl' E3 h1c h1v E1 E2 E2'
     omega
    rw [lR (by rw [hD,Array.length_toList]; exact h1),Array.length_toList]
   generalize hX : lG cc.toList ((i + 1) * 5) ((cc.toList.take (es.length * 5)).drop (i * 5)) = X at hXl hB ⊢
   have hYl : (lG X (i * 5) (vv.toList.take 5)).length = cc.size:=by rw [lR (by rw [hV,hXl]; omega),hXl]
   generalize hY : lG X (i * 5) (vv.toList.take 5) = Y at hYl hB ⊢
   have h1 : (c.w.drew.setRow b X.toArray).heap[b]? = some (.cells X.toArray Ty (0,0)):=setRow_heap c.w.drew b cc _ Ty _ m4
   have h2 : ((c.w.drew.setRow b X.toArray).setRow b Y.toArray).heap[b]? = some (.cells Y.toArray Ty (0,0)):=setRow_heap _ b _ _ Ty _ h1
   have h3 : ∀ k,k ≠ b → ((c.w.drew.setRow b X.toArray).setRow b Y.toArray).heap[k]? = c.w.heap[k]?:=fun k hk => (setRow_other _ b k _ hk).trans (setRow_other c.w.drew b k _ hk)
   have h4 : ((c.w.drew.setRow b X.toArray).setRow b Y.toArray).heap.size = c.w.heap.size:=by simp
   refine ⟨_,rfl,⟨(c.w.drew.setRow b X.toArray).setRow b Y.toArray,c.X,c.β,c.H.set id (.blk 5 (es.take i ++ row :: es.drop i))⟩,rfl,rfl,rfl,
    rI (cs':=Y.toArray) hs hflid hob m3 m4 (by omega) (by simpa using hYl) h2 h3 h4 rfl rfl rfl (Nat.le_succ _),
    xS (cs':=Y.toArray) hs hob m3 m4 (by omega) (by simpa using hYl) h2 h3 h4 rfl rfl rfl hl' (by rw [hlen']; simpa [hYl] using hfit) (hrows Y.toArray hB) (Nat.le_succ _),?_⟩
   refine .ms id (es.length + 1) 0 (es.length + 1) _ c0 5 (es.length + 1) (by rw [qL hob,if_pos rfl,hlen']) (Nat.le_refl _) (by omega) fun _ => ⟨by omega,.inr ⟨b,Y.toArray,Ty,_,m3,h2,by rw [List.size_toArray,hYl]; exact m5,rfl,fun _ => rfl⟩⟩
def insA (fl : Nat) (args : List AV) (H : Heap) : Option (AV × Heap):=match args with
 | [] => none
 | x :: r => match r with
  | [] => none
  | y :: r => match r with
   | [] => none
   | z :: r => match r with
    | _ :: _ => none
    | [] => match x with
     | .ms id tot off len => match y with
      | .lit v => match v with
       | .int k n => match k with
        | .i64 => match z with
         | .ms id2 tot2 off2 len2 => match H[id]? with
          | some o => match o with
           | .blk s es => match H[id2]? with
            | some o2 => match o2 with
             | .blk s2 es2 => match es2 with
              | [] => none
              | row :: r2 => match r2 with
               | _ :: _ => none
               | [] => match (Nat.ble fl id && Nat.beq off 0 && Nat.beq len tot && Nat.beq tot2 1 && Nat.beq off2 0 && Nat.beq len2 1 && !Nat.beq id id2 && Nat.beq s 5 && Nat.beq s2 5 && Nat.beq es.length tot && Nat.ble tot 1000000 && decide (0 ≤ n) && Nat.ble n.toNat tot) with
                | true => some (.ms id (tot + 1) 0 (tot + 1),H.set id (.blk 5 (es.take n.toNat ++ row :: es.drop n.toNat)))
                | false => none
             | _ => none
            | none => none
           | _ => none
          | none => none
         | _ => none
        | _ => none
       | _ => none
      | _ => none
     | _ => none
theorem aJu {fl : Nat} {args : List AV} {H H' : Heap} {r : AV} (h : insA fl args H = some (r,H')) :
  ∃ id id2 i es row,args = [.ms id es.length 0 es.length,.lit (.int .i64 (i : Nat)),.ms id2 1 0 1] ∧ fl ≤ id ∧ id ≠ id2 ∧ H[id]? = some (.blk 5 es) ∧ H[id2]? = some (.blk 5 [row]) ∧ i ≤ es.length ∧ es.length ≤ 1000000 ∧
   r = .ms id (es.length + 1) 0 (es.length + 1) ∧ H' = H.set id (.blk 5 (es.take i ++ row :: es.drop i)):=by
 unfold insA at h
 repeat' split at h
 all_goals first
  | (cases h; done)
  | skip
 rename_i id tot off len _ _ n _ _ id2 tot2 off2 len2 _ _ s es hob _ _ s2 _ row _ hov _ hc
 cases h
 simp only [Bool.and_eq_true,Bool.not_eq_true',decide_eq_true_eq] at hc
 obtain ⟨⟨⟨⟨⟨⟨⟨⟨⟨⟨⟨⟨h1,h2⟩,h3⟩,h4⟩,h5⟩,h6⟩,h7⟩,h8⟩,h9⟩,h10⟩,h11⟩,h12⟩,h13⟩:=hc
 have e2:=Nat.eq_of_beq_eq_true h2
 have e3:=Nat.eq_of_beq_eq_true h3
 have e4:=Nat.eq_of_beq_eq_true h4
 have e5:=Nat.eq_of_beq_eq_true h5
 have e6:=Nat.eq_of_beq_eq_true h6
 have e7 : id ≠ id2:=Nat.ne_of_beq_eq_false h7
 have e8:=Nat.eq_of_beq_eq_true h8
 have e9:=Nat.eq_of_beq_eq_true h9
 have e10:=Nat.eq_of_beq_eq_true h10
 subst e2 e3 e4 e5 e6 e8 e9 e10
 refine ⟨id,id2,n.toNat,es,row,?_,Nat.le_of_ble_eq_true h1,e7,hob,hov,Nat.le_of_ble_eq_true h13,Nat.le_of_ble_eq_true h11,rfl,rfl⟩
 rw [Int.toNat_of_nonneg h12]
end
end Go.Proofs.YtkdnaejhpcibnaaGreatDoor.Av
