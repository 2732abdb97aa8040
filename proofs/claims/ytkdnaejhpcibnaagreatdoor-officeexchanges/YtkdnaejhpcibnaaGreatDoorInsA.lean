/- A part of the proofs of laws of the chapter office: an evaluator of the program, proved sound, and what it says. -/
import Derived.Shelf.Spec.SlicesInsertGrow
import Derived.Shelf.SlGeneric
import Derived.Test.YtkdnaejhpcibnaaGreatDoorAvDisp
set_option linter.unusedVariables false
set_option linter.unusedSimpArgs false
namespace Go.Proofs.YtkdnaejhpcibnaaGreatDoor.Av
open Go Go.Proofs Go.Shelf Go.RowKit Go.Lib
variable {P : Program} {ρ : Ren}
structure InsL (P : Program) (ρ : Ren) (zs : Array Value) (zb : Nat) : Prop where
 mixed : P.follows .mixedOrders = true
 f22 : Bears P (ρ.f 22) (Body2.n22 ρ)
 ov : ∀ args w,(callFunc (ρ.f 29) args).run P w = ((Extern.SlicesOverlaps.overlaps #[ρ.t 24,ρ.t 24] #[ρ.t 4] args).run P w).andThen fun v w' => .ok (.value v) w'
 t3 : P.underlying (ρ.t 3) = some (TypeDesc.int IntKind.i64)
 a3 : ∀ w,(Go.isAgg (ρ.t 3)).run P w = .ok false w
 z3 : ∀ w,(Go.sizeOf (ρ.t 3)).run P w = .ok 1 w
 v3 : ∀ w,(zeroValue (ρ.t 3)).run P w = .ok (Value.int IntKind.i64 0) w
 t4 : P.underlying (ρ.t 4) = some (TypeDesc.bool)
 a4 : ∀ w,(Go.isAgg (ρ.t 4)).run P w = .ok false w
 z4 : ∀ w,(Go.sizeOf (ρ.t 4)).run P w = .ok 1 w
 v4 : ∀ w,(zeroValue (ρ.t 4)).run P w = .ok (Value.bool false) w
 z9 : ∀ w,(Go.sizeOf (ρ.t 9)).run P w = .ok 5 w
 t24 : P.underlying (ρ.t 24) = some (TypeDesc.slice (ρ.t 9))
 a24 : ∀ w,(Go.isAgg (ρ.t 24)).run P w = .ok false w
 z24 : ∀ w,(Go.sizeOf (ρ.t 24)).run P w = .ok 1 w
 v24 : ∀ w,(zeroValue (ρ.t 24)).run P w = .ok (Value.slice none 0 0) w
 i9 : (P.info? (ρ.t 9)).map (fun i => (i.zero,i.size,i.bytes)) = some (some (Value.agg zs),5,zb)
 zl : zs.size = 5
theorem vZ (w : World) (dT sT ty elem : TypeId) (g o dLen dCap : Nat) (a : Addr) (sLen sCap n : Nat) (cur : Array Value) (t : TypeId) (cs : List Value)
  (hu : P.underlying dT = some (.slice elem)) (hs : (P.info? elem).map (·.size) = some 5) (hn : Nat.min sLen dLen = n) (hcs : cs.length = n * 5)
  (hsrc : ∀ j v,cs[j]? = some v → w.cell? (a.add j) = some v) (hg : w.heap[g]? = some (.cells cur t (0,0))) (hfit : o + n * 5 ≤ cur.size) (h1 : ∀ v ∈ cs,v.oneCell' = true) :
  (Builtin.copy_ #[dT,sT] ty #[.slice (some ⟨g,o,none⟩) dLen dCap,.slice (some a) sLen sCap]).run P w = .ok (goInt n) (w.setRow g (lG cur.toList o cs).toArray):=by
 have hl:=run_firstCells_some (P:=P) w 5 n a sLen sCap cs hcs hsrc
 have hst:=run_storeCells_at P g o t cs 0 cur w hg (by rw [hcs]; omega) h1
 rw [nN] at hst
 cases hq : P.info? elem with
 | none => simp [hq] at hs
 | some i =>
  have hi : i.size = 5:=by simpa [hq] using hs
  simp [Builtin.copy_,run_underlying hu,Builtin.lenOf,sizeOf,typeInfo,hq,hi,hn,hl,hst]
theorem aCw {w : World} {b j : Nat} {cc : Array Value} {t : TypeId} {fz : Nat × Nat} {v : Value} (h : w.heap[b]? = some (.cells cc t fz)) (hj : cc[j]? = some v) : w.cell? ⟨b,j,none⟩ = some v:=by
 simp [World.cell?,h,hj]
set_option maxHeartbeats 4000000 in
set_option maxRecDepth 100000 in
theorem aN6 {zs : Array Value} {zb : Nat} (L : InsL P ρ zs zb) (b n c i vb vc : Nat) (cc vv : Array Value) (Ty Tv : TypeId) (w : World) (hi : i < n) (hroom : n + 1 ≤ c) (h40 : n + 1 ≤ 1099511627776) (hvb : vb ≠ b)
  (hb : w.heap[b]? = some (.cells cc Ty (0,0))) (hfit : (n + 1) * 5 ≤ cc.size) (hv : w.heap[vb]? = some (.cells vv Tv (0,0))) (hvl : 5 ≤ vv.size)
  (h1c : ∀ v ∈ cc.toList.take (n * 5),v.oneCell' = true) (h1v : ∀ v ∈ vv.toList.take 5,v.oneCell' = true) :
  Calls P (ρ.f 22) #[.slice (some ⟨b,0,none⟩) n c,.int .i64 i,.slice (some ⟨vb,0,none⟩) 1 vc] w fun e w' =>
   e = .returned (.slice (some ⟨b,0,none⟩) (n + 1) c) ∧
   w' = (w.drew.setRow b (lG cc.toList ((i + 1) * 5) ((cc.toList.take (n * 5)).drop (i * 5))).toArray).setRow b (lG (lG cc.toList ((i + 1) * 5) ((cc.toList.take (n * 5)).drop (i * 5))) (i * 5) (vv.toList.take 5)).toArray:=by
 have t3:=L.t3; have a3:=L.a3; have z3:=L.z3; have v3:=L.v3; have t4:=L.t4; have a4:=L.a4; have z4:=L.z4; have v4:=L.v4; have z9:=L.z9; have t24:=L.t24; have a24:=L.a24; have z24:=L.z24; have v24:=L.v24
 have u3:=run_underlying L.t3; have u4:=run_underlying L.t4; have u24:=run_underlying L.t24
 have mixed:=L.mixed
 obtain ⟨nm22,_,F22⟩:=L.f22
 have hz2 : ¬ ((i : Int) = (n : Int)):=by omega
 have hsz : (P.info? (ρ.t 9)).map (·.size) = some 5:=by
  obtain ⟨i0,hi0,h0,h1,h2⟩:=info_parts L.i9
  rw [hi0]; simp [h1]
 have hov : ∀ lb cb,(callFunc (ρ.f 29) #[.slice (some ⟨vb,0,none⟩) 1 vc,.slice (some ⟨b,(i + 1) * 5,none⟩) lb cb]).run P w = .ok (.value (.bool false)) w:=fun lb cb => by
  rw [L.ov,
   Lib.run_overlaps_apart w (ρ.t 24) (ρ.t 4) (ρ.t 9) L.t24 5 L.z9 ⟨vb,0,none⟩ ⟨b,(i + 1) * 5,none⟩ 1 vc lb cb hvb Tv Ty vv.size cc.size (by simp [World.shape?,hv]) (by simp [World.shape?,hb]) (by omega) (by simp [World.frozen?,hv]) (by simp [World.frozen?,hv])]
  rfl
 have hw1 : IntKind.i64.wrap ((i : Int) + 1) = ((i + 1 : Nat) : Int):=by rw [IntKind.wrap_i64]; omega
 have hw2 : IntKind.i64.wrap ((n : Int) + 1) = ((n + 1 : Nat) : Int):=by rw [IntKind.wrap_i64]; omega
 have hg1 : ¬ (((n + 1 : Nat) : Int) > (c : Int)):=by omega
 have hin : i ≤ n:=by omega
 have hb1 : (0 : Int) ≤ (i : Int) + 1:=by omega
 have hb2 : ¬ (c = i + 1):=by omega
 have hb3 : (i : Int) ≤ (n : Int) + 1:=by omega
 have hb4 : ¬ (c = i):=by omega
 have hD : ((cc.toList.take (n * 5)).drop (i * 5)).length = (n - i) * 5:=by
  rw [List.length_drop,List.length_take,Array.length_toList,Nat.min_eq_left (by omega),Nat.sub_mul]
 have hV : (vv.toList.take 5).length = 1 * 5:=by
  rw [List.length_take,Array.length_toList,Nat.min_eq_left hvl]
 have hcp1 : ∀ ty dc sc,(Builtin.copy_ #[(ρ.t 24),(ρ.t 24)] ty #[.slice (some ⟨b,(i + 1) * 5,none⟩) (n - i) dc,.slice (some ⟨b,i * 5,none⟩) (n + 1 - i) sc]).run P w.drew = .ok (goInt ((n - i : Nat) : Int)) (w.drew.setRow b (lG cc.toList ((i + 1) * 5) ((cc.toList.take (n * 5)).drop (i * 5))).toArray):=fun ty dc sc =>
  vZ w.drew _ _ ty (ρ.t 9) b ((i + 1) * 5) (n - i) dc ⟨b,i * 5,none⟩ (n + 1 - i) sc (n - i) cc Ty _ L.t24 hsz (by simp only [Nat.min_def]; split <;> omega) hD
   (fun j v hj => by
    rw [Addr.add_lit]
    refine aCw (w:=w.drew) hb ?_
    rw [List.getElem?_drop,List.getElem?_take] at hj
    split at hj
    ·simpa using hj
    ·cases hj) hb (by omega) (fun v hv' => h1c v (List.mem_of_mem_drop hv'))
 generalize hX : lG cc.toList ((i + 1) * 5) ((cc.toList.take (n * 5)).drop (i * 5)) = X at hcp1 ⊢
 have hXl : X.length = cc.size:=by rw [← hX,lR (by rw [hD,Array.length_toList]; omega)]; simp
 obtain ⟨W1,hW1⟩ : ∃ W1,W1 = w.drew.setRow b X.toArray:=⟨_,rfl⟩
 have hW1b : W1.heap[b]? = some (.cells X.toArray Ty (0,0)):=by rw [hW1]; exact setRow_heap w.drew b cc _ Ty _ hb
 have hW1v : W1.heap[vb]? = some (.cells vv Tv (0,0)):=by rw [hW1,setRow_other w.drew b vb _ hvb]; exact hv
 rw [← hW1] at hcp1 ⊢
 have hcp2 : ∀ ty dc,(Builtin.copy_ #[(ρ.t 24),(ρ.t 24)] ty #[.slice (some ⟨b,i * 5,none⟩) (n + 1 - i) dc,.slice (some ⟨vb,0,none⟩) 1 vc]).run P W1 = .ok (goInt 1) (W1.setRow b (lG X (i * 5) (vv.toList.take 5)).toArray):=fun ty dc =>
  vZ W1 _ _ ty (ρ.t 9) b (i * 5) (n + 1 - i) dc ⟨vb,0,none⟩ 1 vc 1 X.toArray Ty _ L.t24 hsz (by simp only [Nat.min_def]; split <;> omega) hV
   (fun j v hj => by
    rw [Addr.add_lit,Nat.zero_add]
    refine aCw hW1v ?_
    rw [List.getElem?_take] at hj
    split at hj
    ·simpa using hj
    ·cases hj) hW1b (by simp [hXl]; omega) h1v
 clear hW1
 go_enter F22,Body2.n22_ntmps ρ
 go_wp2_with (simp only [hov])
 go_region_law_o (refine step_copy_runI rfl _ _ (ρ.t 24) (ρ.t 24) rfl (.slice (some ⟨b,(i + 1) * 5,none⟩) (n - i) (c - (i + 1))) (.slice (some ⟨b,i * 5,none⟩) (n + 1 - i) (c - i)) (by simp [Act.eval,Act.put]) (by simp [Act.eval,Act.put]) (hcp1 _ _ _) ?_)
 go_wp2_with (at_builtin; refine wpList_copy_runI _ rfl _ _ (ρ.t 24) (ρ.t 24) rfl _ _ rfl rfl (hcp2 _ _) ?_)
 go_ret
 exact ⟨rfl,rfl⟩
set_option maxHeartbeats 4000000 in
set_option maxRecDepth 100000 in
theorem aVg {zs : Array Value} {zb : Nat} (L : InsL P ρ zs zb) (base : Option Addr) (n c vb vc : Nat) (w w' : World) (rv : Value) (hnc : n ≤ c) (hnil : base = none → n = 0)
  (hrun : ∀ ty,(Builtin.append_ #[(ρ.t 24),(ρ.t 24)] ty #[.slice base n c,.slice (some ⟨vb,0,none⟩) 1 vc]).run P w = .ok rv w') :
  Calls P (ρ.f 22) #[.slice base n c,.int .i64 n,.slice (some ⟨vb,0,none⟩) 1 vc] w fun e w'' => e = .returned rv ∧ w'' = w':=by
 have t3:=L.t3; have a3:=L.a3; have z3:=L.z3; have v3:=L.v3; have t4:=L.t4; have a4:=L.a4; have z4:=L.z4; have v4:=L.v4; have z9:=L.z9; have t24:=L.t24; have a24:=L.a24; have z24:=L.z24; have v24:=L.v24
 have u3:=run_underlying L.t3; have u4:=run_underlying L.t4; have u24:=run_underlying L.t24
 have mixed:=L.mixed
 obtain ⟨nm22,_,F22⟩:=L.f22
 go_enter F22,Body2.n22_ntmps ρ
 cases base with
 | none =>
  have h0:=hnil rfl
  subst h0
  go_wp2_with (at_builtin; refine Lib.wpList_append_run _ rfl _ _ _ _ rfl _ _ rfl rfl _ _ (hrun _) ?_)
  go_ret
  exact ⟨rfl,rfl⟩
 | some a =>
  obtain ⟨ab,ao,asp⟩:=a
  go_wp2_with (at_builtin; refine Lib.wpList_append_run _ rfl _ _ _ _ rfl _ _ rfl rfl _ _ (hrun _) ?_)
  all_goals (go_ret; exact ⟨rfl,rfl⟩)
theorem aQv {l v d o : List Value} {i n : Nat} (hl : (n + 1) * 5 ≤ l.length) (hv : v.length = 1 * 5) (hd : d.length = (n - i) * 5) (ho : l.take (i * 5) = o) (hi : i < n) :
  (lG (lG l (i * 5) v) ((i + 1) * 5) d).take ((n + 1) * 5) = o ++ (v ++ d):=by
 subst ho
 unfold lG
 have h1 : (List.take (i * 5) l).length = i * 5:=by rw [List.length_take]; omega
 have e1 : (List.take (i * 5) l ++ (v ++ List.drop (i * 5 + v.length) l)).take ((i + 1) * 5) = List.take (i * 5) l ++ v:=by
  rw [← List.append_assoc,List.take_append_of_le_length (by rw [List.length_append,h1,hv]; omega)]
  exact List.take_of_length_le (by rw [List.length_append,h1,hv]; omega)
 rw [e1,List.append_assoc,← List.append_assoc v d,← List.append_assoc]
 rw [List.take_append_of_le_length (by simp only [List.length_append,h1,hv,hd]; omega)]
 exact List.take_of_length_le (by simp only [List.length_append,h1,hv,hd]; omega)
set_option maxHeartbeats 4000000 in
set_option maxRecDepth 100000 in
theorem aQw {zs : Array Value} {zb : Nat} (L : InsL P ρ zs zb) (b n c i vb vc : Nat) (cc vv : Array Value) (Ty Tv : TypeId) (w : World) (hi : i < n) (hnc : n ≤ c) (hroom : c < n + 1) (hbig : (n + 1) * zb ≤ 140737488355328) (h40 : n + 1 ≤ 1099511627776)
  (hb : w.heap[b]? = some (.cells cc Ty (0,0))) (hfit : n * 5 ≤ cc.size) (hv : w.heap[vb]? = some (.cells vv Tv (0,0))) (hvl : 5 ≤ vv.size)
  (h1c : ∀ v ∈ cc.toList.take (n * 5),v.oneCell' = true) (h1v : ∀ v ∈ vv.toList.take 5,v.oneCell' = true) :
  Calls P (ρ.f 22) #[.slice (some ⟨b,0,none⟩) n c,.int .i64 i,.slice (some ⟨vb,0,none⟩) 1 vc] w fun e w' => ∃ (G : Nat) (R : Array Value) (q : Nat),n + 1 ≤ G ∧ R.size = G * 5 ∧
   R.toList.take ((n + 1) * 5) = cc.toList.take (i * 5) ++ (vv.toList.take 5 ++ (cc.toList.take (n * 5)).drop (i * 5)) ∧
   e = .returned (.slice (some ⟨w.heap.size,0,none⟩) (n + 1) G) ∧ w'.heap = w.heap.push (.cells R (ρ.t 9) (0,0)) ∧ w'.os = w.os ∧ w'.tape = w.tape ∧ w'.output = w.output ∧ w.drawn ≤ w'.drawn:=by
 have t3:=L.t3; have a3:=L.a3; have z3:=L.z3; have v3:=L.v3; have t4:=L.t4; have a4:=L.a4; have z4:=L.z4; have v4:=L.v4; have z9:=L.z9; have t24:=L.t24; have a24:=L.a24; have z24:=L.z24; have v24:=L.v24
 have u3:=run_underlying L.t3; have u4:=run_underlying L.t4; have u24:=run_underlying L.t24
 have mixed:=L.mixed
 obtain ⟨nm22,_,F22⟩:=L.f22
 obtain ⟨i0,hi0,hz0,hzs,hzb⟩:=info_parts L.i9
 have hz2 : ¬ ((i : Int) = (n : Int)):=by omega
 have hz3 : (c : Int) < (n : Int) + 1:=by omega
 have hsz : (P.info? (ρ.t 9)).map (·.size) = some 5:=by rw [hi0]; simp [hzs]
 have hbw : b < w.heap.size:=by
  rcases Nat.lt_or_ge b w.heap.size with h | h
  ·exact h
  ·rw [Array.getElem?_eq_none h] at hb; cases hb
 have hvw : vb < w.heap.size:=by
  rcases Nat.lt_or_ge vb w.heap.size with h | h
  ·exact h
  ·rw [Array.getElem?_eq_none h] at hv; cases hv
 have hkk : (n : Int) + 1 - (i : Int) = ((n + 1 - i : Nat) : Int):=by omega
 have hik : i + (n + 1 - i) = n + 1:=by omega
 have hold : (Builtin.firstCells i0.size i (.slice (some ⟨b,0,none⟩) i c)).run P w.drew = .ok (cc.toList.take (i * 5)).toArray w.drew:=by
  rw [hzs]
  exact run_firstCells_some w.drew 5 i ⟨b,0,none⟩ i c (cc.toList.take (i * 5)) (by rw [List.length_take,Array.length_toList]; omega) (fun j v hj => by
   rw [Addr.add_lit,Nat.zero_add]
   refine aCw (w:=w.drew) hb ?_
   rw [List.getElem?_take] at hj
   split at hj
   ·simpa using hj
   ·cases hj)
 have hrz : ∀ ty,(Builtin.append_ #[(ρ.t 24),(ρ.t 3)] ty #[.slice (some ⟨b,0,none⟩) i c,.int .i64 ((n : Int) + 1 - (i : Int))]).run P w =
   .ok (.slice (some ⟨w.heap.size,0,none⟩) (n + 1) (grownCap w (n + 1) c (ρ.t 9))) (w.drew.alloc (.cells ((cc.toList.take (i * 5)).toArray ++ Builtin.zeroCells (Value.agg zs).cells (n + 1 - i) ++ Builtin.zeroCells (Value.agg zs).cells (grownCap w (n + 1) c (ρ.t 9) - (n + 1))) (ρ.t 9))):=fun ty => by
  have h:=Lib.run_append_grow_zeros w (ρ.t 24) (ρ.t 3) ty (ρ.t 9) i0 _ .i64 .i64 L.t24 L.t3 hi0 hz0 (some ⟨b,0,none⟩) i c (cc.toList.take (i * 5)) hold (n + 1 - i) (by omega) (by omega) (by omega) (by omega) (by rw [hzb]; exact Nat.le_trans (Nat.mul_le_mul_right _ (by omega : n + 1 - i ≤ n + 1)) (by omega)) (by rw [hzb,hik]; exact growslice_fits hroom hbig)
  rw [hik] at h
  rw [hkk]
  exact h
 obtain ⟨G,hG⟩ : ∃ G,G = grownCap w (n + 1) c (ρ.t 9):=⟨_,rfl⟩
 have hGn : n + 1 ≤ G:=by rw [hG]; exact grownCap_ge w _ _ _
 obtain ⟨ROW,hROW⟩ : ∃ ROW : Array Value,ROW = (cc.toList.take (i * 5)).toArray ++ Builtin.zeroCells (Value.agg zs).cells (n + 1 - i) ++ Builtin.zeroCells (Value.agg zs).cells (G - (n + 1)):=⟨_,rfl⟩
 rw [← hG] at hrz
 rw [← hROW] at hrz
 have hzc : (Value.agg zs).cells = zs:=rfl
 have hRl : ROW.size = G * 5:=by
  rw [hROW,hzc]
  simp only [Array.size_append,size_zeroCells,L.zl,List.size_toArray,List.length_take,Array.length_toList]
  omega
 obtain ⟨W1,hW1⟩ : ∃ W1,W1 = w.drew.alloc (.cells ROW (ρ.t 9)):=⟨_,rfl⟩
 have hh1 : W1.heap = w.heap.push (.cells ROW (ρ.t 9) (0,0)):=by rw [hW1]; rfl
 have e1 : W1.os = w.os:=by rw [hW1]; rfl
 have e2 : W1.tape = w.tape:=by rw [hW1]; rfl
 have e3 : W1.output = w.output:=by rw [hW1]; rfl
 have e4 : w.drawn ≤ W1.drawn:=by rw [hW1]; exact Nat.le_succ _
 rw [← hW1] at hrz
 have hNb : W1.heap[w.heap.size]? = some (.cells ROW (ρ.t 9) (0,0)):=by rw [hh1]; simp
 have hOb : W1.heap[b]? = some (.cells cc Ty (0,0)):=by rw [hh1,Array.getElem?_push,if_neg (by omega)]; exact hb
 have hOv : W1.heap[vb]? = some (.cells vv Tv (0,0)):=by rw [hh1,Array.getElem?_push,if_neg (by omega)]; exact hv
 clear hW1
 have hV : (vv.toList.take 5).length = 1 * 5:=by rw [List.length_take,Array.length_toList,Nat.min_eq_left hvl]
 have hD : ((cc.toList.take (n * 5)).drop (i * 5)).length = (n - i) * 5:=by
  rw [List.length_drop,List.length_take,Array.length_toList,Nat.min_eq_left (by omega),Nat.sub_mul]
 have hG63 : G ≤ 9223372036854775807:=by
  have:=grownCap_le_maxLen w (n + 1) c (ρ.t 9) (by unfold maxLen; omega)
  rw [← hG] at this
  unfold maxLen at this
  omega
 clear hG
 generalize hA : lG ROW.toList (i * 5) (vv.toList.take 5) = A
 have hAl : A.length = G * 5:=by rw [← hA,lR (by rw [hV,Array.length_toList]; omega),Array.length_toList,hRl]
 have hcpA : ∀ ty dc,(Builtin.copy_ #[(ρ.t 24),(ρ.t 24)] ty #[.slice (some ⟨w.heap.size,i * 5,none⟩) (n + 1 - i) dc,.slice (some ⟨vb,0,none⟩) 1 vc]).run P W1 = .ok (goInt 1) (W1.setRow w.heap.size A.toArray):=fun ty dc => by
  rw [← hA]
  exact vZ W1 _ _ ty (ρ.t 9) w.heap.size (i * 5) (n + 1 - i) dc ⟨vb,0,none⟩ 1 vc 1 ROW (ρ.t 9) _ L.t24 hsz (by simp only [Nat.min_def]; split <;> omega) hV
   (fun j v hj => by
    rw [Addr.add_lit,Nat.zero_add]
    refine aCw hOv ?_
    rw [List.getElem?_take] at hj
    split at hj
    ·simpa using hj
    ·cases hj) hNb (by omega) h1v
 obtain ⟨W2,hW2⟩ : ∃ W2,W2 = W1.setRow w.heap.size A.toArray:=⟨_,rfl⟩
 rw [← hW2] at hcpA
 have hN2 : W2.heap[w.heap.size]? = some (.cells A.toArray (ρ.t 9) (0,0)):=by rw [hW2]; exact setRow_heap W1 _ ROW _ _ _ hNb
 have hO2 : W2.heap[b]? = some (.cells cc Ty (0,0)):=by rw [hW2,setRow_other W1 _ b _ (by omega)]; exact hOb
 have hh2 : W2.heap = w.heap.push (.cells A.toArray (ρ.t 9) (0,0)):=by
  apply Array.ext_getElem?
  intro k
  by_cases hk : k = w.heap.size
  ·subst hk; rw [hN2]; simp
  ·rw [hW2,setRow_other W1 _ k _ hk,hh1,Array.getElem?_push,Array.getElem?_push,if_neg hk,if_neg hk]
 have f1 : W2.os = W1.os:=by rw [hW2]; rfl
 have f2 : W2.tape = W1.tape:=by rw [hW2]; rfl
 have f3 : W2.output = W1.output:=by rw [hW2]; rfl
 have f4 : W2.drawn = W1.drawn:=by rw [hW2]; rfl
 clear hW2
 generalize hB : lG A ((i + 1) * 5) ((cc.toList.take (n * 5)).drop (i * 5)) = B
 have hBl : B.length = G * 5:=by rw [← hB,lR (by rw [hD,hAl]; omega),hAl]
 have hcpB : ∀ ty dc sc,(Builtin.copy_ #[(ρ.t 24),(ρ.t 24)] ty #[.slice (some ⟨w.heap.size,(i + 1) * 5,none⟩) (n - i) dc,.slice (some ⟨b,i * 5,none⟩) (n - i) sc]).run P W2.drew = .ok (goInt ((n - i : Nat) : Int)) (W2.drew.setRow w.heap.size B.toArray):=fun ty dc sc => by
  rw [← hB]
  exact vZ W2.drew _ _ ty (ρ.t 9) w.heap.size ((i + 1) * 5) (n - i) dc ⟨b,i * 5,none⟩ (n - i) sc (n - i) A.toArray (ρ.t 9) _ L.t24 hsz (by simp only [Nat.min_def]; split <;> omega) hD
   (fun j v hj => by
    rw [Addr.add_lit]
    refine aCw (w:=W2.drew) hO2 ?_
    rw [List.getElem?_drop,List.getElem?_take] at hj
    split at hj
    ·simpa using hj
    ·cases hj) hN2 (by rw [List.size_toArray,hAl]; omega) (fun v hv' => h1c v (List.mem_of_mem_drop hv'))
 obtain ⟨W3,hW3⟩ : ∃ W3,W3 = W2.drew.setRow w.heap.size B.toArray:=⟨_,rfl⟩
 rw [← hW3] at hcpB
 have hh3 : W3.heap = w.heap.push (.cells B.toArray (ρ.t 9) (0,0)):=by
  have hN2' : W2.drew.heap[w.heap.size]? = some (.cells A.toArray (ρ.t 9) (0,0)):=hN2
  apply Array.ext_getElem?
  intro k
  by_cases hk : k = w.heap.size
  ·subst hk; rw [hW3,setRow_heap W2.drew _ A.toArray _ _ _ hN2']; simp
  ·rw [hW3,setRow_other W2.drew _ k _ hk]
   show W2.heap[k]? = _
   rw [hh2,Array.getElem?_push,Array.getElem?_push,if_neg hk,if_neg hk]
 have g1 : W3.os = w.os:=by rw [hW3,← e1,← f1]; rfl
 have g2 : W3.tape = w.tape:=by rw [hW3,← e2,← f2]; rfl
 have g3 : W3.output = w.output:=by rw [hW3,← e3,← f3]; rfl
 have g4 : w.drawn ≤ W3.drawn:=by
  rw [hW3]
  show w.drawn ≤ W2.drawn + 1
  omega
 clear hW3
 have hfin : B.toArray.toList.take ((n + 1) * 5) = cc.toList.take (i * 5) ++ (vv.toList.take 5 ++ (cc.toList.take (n * 5)).drop (i * 5)):=by
  have hRo : ROW.toList.take (i * 5) = cc.toList.take (i * 5):=by
   rw [hROW]
   simp only [Array.toList_append,List.append_assoc]
   rw [List.take_append_of_le_length (by rw [List.length_take,Array.length_toList]; omega)]
   exact List.take_of_length_le (by rw [List.length_take,Array.length_toList]; omega)
  show B.take ((n + 1) * 5) = _
  rw [← hB,← hA]
  refine aQv (l:=ROW.toList) (by rw [Array.length_toList,hRl]; omega) (by rw [hV]) (by rw [hD]) hRo (by omega)
 have hw1 : IntKind.i64.wrap ((i : Int) + 1) = (i : Int) + 1:=by rw [IntKind.wrap_i64]; omega
 have hw2 : IntKind.i64.wrap ((n : Int) + 1) = (n : Int) + 1:=by rw [IntKind.wrap_i64]; omega
 have hb1 : (0 : Int) ≤ (i : Int) + 1:=by omega
 have hin : i ≤ n:=by omega
 have hb3 : (i : Int) ≤ (n : Int):=by omega
 have hGi : ¬ (G = i):=by omega
 have hGim : ¬ (G = i + 1):=by omega
 have hci : ¬ (c = i):=by omega
 have hres : ∀ e w',e = Ending.returned (.slice (some ⟨w.heap.size,0,none⟩) (n + 1) G) ∧ w' = W3 → ∃ (G : Nat) (R : Array Value) (q : Nat),n + 1 ≤ G ∧ R.size = G * 5 ∧
   R.toList.take ((n + 1) * 5) = cc.toList.take (i * 5) ++ (vv.toList.take 5 ++ (cc.toList.take (n * 5)).drop (i * 5)) ∧
   e = .returned (.slice (some ⟨w.heap.size,0,none⟩) (n + 1) G) ∧ w'.heap = w.heap.push (.cells R (ρ.t 9) (0,0)) ∧ w'.os = w.os ∧ w'.tape = w.tape ∧ w'.output = w.output ∧ w.drawn ≤ w'.drawn:=by
  rintro e w' ⟨rfl,rfl⟩
  exact ⟨G,B.toArray,0,hGn,by simpa using hBl,hfin,rfl,hh3,g1,g2,g3,g4⟩
 clear hkk hik hold hROW hRl hfin hh1 hh2 hh3 e1 e2 e3 e4 f1 f2 f3 f4 g1 g2 g3 g4 hNb hOb hOv hN2 hO2
 refine Calls.mono (R:=fun e w' => e = Ending.returned (.slice (some ⟨w.heap.size,0,none⟩) (n + 1) G) ∧ w' = W3) ?_ fun e w' h => hres e w' h
 clear hres
 go_enter F22,Body2.n22_ntmps ρ
 go_wp2_with (first
  | (at_builtin; refine Lib.wpList_append_run _ rfl _ _ _ _ rfl _ _ rfl rfl _ _ (hrz _) ?_)
  | (at_builtin; refine wpList_copy_runI _ rfl _ _ (ρ.t 24) (ρ.t 24) rfl _ _ rfl rfl (hcpA _ _) ?_))
 go_region_law_o (refine step_copy_runI rfl _ _ (ρ.t 24) (ρ.t 24) rfl (.slice (some ⟨w.heap.size,(i + 1) * 5,none⟩) (n - i) (G - (i + 1))) (.slice (some ⟨b,i * 5,none⟩) (n - i) (c - i)) (by simp [Act.eval,Act.put]) (by simp [Act.eval,Act.put]) (hcpB (ρ.t 3) (G - (i + 1)) (c - i)) ?_)
 go_wp2
 go_ret
 exact ⟨rfl,rfl⟩
end Go.Proofs.YtkdnaejhpcibnaaGreatDoor.Av
