/- A part of the proof of a law of the chapter warp: an evaluator of the program, proved sound, and what it says. -/
import Derived.Test.YtapabkfjeiknbaaGreatAvMap
import Derived.KernelRfl
import Derived.Shelf.SlSortCmp.InsertionK
import Derived.Sort.AssemblyPlain
import Derived.Test.YtapabkfjeiknbaaGreatAvOps
import Derived.Test.YtapabkfjeiknbaaGreatChecked
import Derived.Lib.IndexMore
set_option linter.unusedVariables false
set_option linter.unusedSimpArgs false
namespace Go.Proofs.YtapabkfjeiknbaaGreat.Av
open Go
abbrev U : AV:=.undef
abbrev V : AV:=.lit gD
abbrev bt : AV:=.lit (.bool true)
abbrev bf : AV:=.lit (.bool false)
structure PZ where
 ps : List Prop
 ok : AllP ps
theorem pv_z [GlobT] {P : Program} {T : List AFun} {n vi : Nat} {args : List AV} {r : AV} {F : AFun} (o : Orc) (L : List (AExit × St)) (M : List (Option Heap)) (hF : getF T vi=some F) (z : PZ) (h : oF P T n o L M F args=some (r,z.ps)) : pv P T (n + 1) vi args=some r:=pv_o o L M hF h z.ok
theorem bI3 [GlobT] {P : Program} {T : List AFun} {n fl vi : Nat} {args : List AV} {H H' : Heap} {r : AV} {F : AFun} (o : Orc) (L : List (AExit × St)) (M : List (Option Heap)) (hF : getF T vi=some F) (z : PZ) (h : oE P T n o L M F fl args H=some (r,H',z.ps)) : evF P T (n + 1) fl vi args H=some (r,H'):=bI4 o L M hF h z.ok
theorem bFt [GlobT] {P : Program} {cf : Nat→Nat→List AV→Heap→Option (AV × Heap)} {lf fl n m : Nat} {live : Option (List Bool)} {tr : Bool} {c : ACode} {st st' : St} {r : Option (AExit × St)} (o : Orc) (L : List (AExit × St)) (M : List (Option Heap)) (hn : Nat.ble fl n=true) (z : PZ) (h : oB P cf lf fl (aGa live tr n) o L M c st=some (.normal,st',z.ps))
  (hc : eS tr fl n st'.heap) (hr : eG (eO live tr fl n) (evC P cf lf fl c) m st'=r) : eG (eO live tr fl n) (evC P cf lf fl c) (m + 1) st=r:=bFw o L M hn h z.ok hc hr
theorem bFy [GlobT] {P : Program} {cf : Nat→Nat→List AV→Heap→Option (AV × Heap)} {lf fl n m : Nat} {live : Option (List Bool)} {tr tr' : Bool} {lx lr : List Bool} {c : ACode} {st st' : St} {x : AExit} (o : Orc) (L : List (AExit × St)) (M : List (Option Heap)) (hn : Nat.ble fl n=true) (z : PZ) (h : oX P cf lf fl n lx lr tr o L M c st=some (x,st',z.ps))
  (hc : aQc tr fl n x st'.heap) : eT lx lr tr fl n (eG (eO live tr' fl n) (evC P cf lf fl c) (m + 1) st)=some (x,st'):=bFz o L M hn h z.ok hc
def prdk (k n : Nat) : Option Nat:=if k ≤ n then some (n - k) else none
theorem aWd {k n m : Nat} (h : prdk k n=some m) : n=m + k:=by
 unfold prdk at h
 split at h
 ·cases h; omega
 ·cases h
section
variable {P : Program} {cf : Nat→Nat→List AV→Heap→Option (AV × Heap)} {fl : Nat} {H : Heap} {t : TypeId} {s r : ByteArray} {i b lo hi : Int} {k : IntKind}
theorem bFk [GlobT] {a d : Int} (hd : d ≠ 0) : evOp P cf fl (.bin .rem t (.tmp 0) (.tmp 1)) [.lit (.int k a),.lit (.int k d)] H=some (.lit (.int k (a.tmod d)),H):=by
 have h1 : eD P (eqGuard .rem t (.tmp 0) (.tmp 0) (.int k a) (.int k d))=some ():=rfl
 have h2 : eD P (binOp .rem t (.int k a) (.int k d))=some (.int k (a.tmod d)):=by
  simp [binOp,Op.intDiv,hd]
  rfl
 simp only [evOp,dU,List.getElem?_cons_zero,List.getElem?_cons_succ,lits,aGv,if_true,h1,h2]
theorem bFx [GlobT] {tm : List AV} {x : AOpd} {b r : Bool} (hx : dU tm x=.lit (.bool b)) (h : b=r) : evOp P cf fl (.mov x) tm H=some (.lit (.bool r),H):=by
 subst h
 simp only [evOp,hx]
end
end Go.Proofs.YtapabkfjeiknbaaGreat.Av
namespace Go.Proofs.YtapabkfjeiknbaaGreat.Av
open Go
def aYr (s bytes : Nat) (z : List Value) : ACode:=(.seq (.region false [] [⟨(some 2),.mov (.lit nilS),none⟩]) (.nilIf 0 3 4 (.seq (.region false [] [⟨(some 2),.mov (.lit nilS),none⟩]) .ret) (.seq (.region false [] [⟨(some 5),.buildSl true s 0 z [],none⟩,⟨(some 6),.mov (.tmp 0),none⟩,⟨(some 7),.append s bytes (.tmp 5) (.tmp 6),none⟩,⟨(some 2),.mov (.tmp 7),none⟩]) .ret)))
end Go.Proofs.YtapabkfjeiknbaaGreat.Av
namespace Go.Proofs.YtapabkfjeiknbaaGreat.Av
open Go
section
variable {H : Heap} {α : Type} {c : α→List AV} {l l' : List α} {x : α} {i : Int} {s id fl k : Nat}
theorem idxv [GlobT] (h : idx l i=some x) (hs : (c x).length=s) : idxA H s (.vw (l.map c)) (.lit (.int .i64 i))=some (.rptr (c x)):=by
 obtain ⟨h1,h2,_⟩:=aCs h
 have : (l.map c)[i.toNat]? = some (c x):=by rw [List.getElem?_map,h2]; rfl
 simp [idxA,uS,h1,this,hs]
variable {P : Program} {cf : Nat→Nat→List AV→Heap→Option (AV × Heap)} {lo hi : Int} {w y z : AV}
theorem iM [GlobT] : evOp P cf fl (.lenS (.tmp 0)) [.vw (l.map c)] H=some (iv l.length,H):=by
 show some (AV.lit (.int .i64 ((l.map c).length : Nat)),H)=_
 rw [List.length_map]
theorem aOw {lo hi : Option Nat} {L Hh : Nat} (hl : lo.getD 0=L) (hh : hi.getD l.length=Hh) (h1 : L ≤ Hh) (h2 : Hh ≤ l.length) (hc : ∀ x,(c x).length=s) : aBy H s (.vw (l.map c)) lo hi none=some (.vw (((l.take Hh).drop L).map c)):=by
 unfold aBy
 simp only [List.length_map,hl,hh,h1,h2,aK6 hc,and_self,if_true,List.map_drop,List.map_take]
theorem aUo [GlobT] (h : cut l 0 hi=some l') (hc : ∀ x,(c x).length=s) : evOp P cf fl (.slice s (.tmp 0) none (some (.tmp 2)) none) [.vw (l.map c),w,iv hi,z] H=some (.vw (l'.map c),H):=by
 unfold cut at h
 split at h
 ·rename_i hb
  cases h
  have h1 : (0 : Int) ≤ hi:=by omega
  simp only [evOp,dU,tH,uS,List.getElem?_cons_zero,List.getElem?_cons_succ,h1,if_true]
  rw [aOw (L:=0) (Hh:=hi.toNat) rfl rfl (by omega) (by omega) hc]
  simp
 ·cases h
theorem vwl {a b : AV} {r t : List AV} (h : a=b) (k : r=t) : a :: r=b :: t:=by rw [h,k]
theorem vwB [GlobT] {T : List AFun} {n vi : Nat} {args args' : List AV} {v : AV} (h : args.map (nO H)=args') (k : pv P T n vi args'=some v) : pvc (evF P T n) vi (args.map (nO H))=some v:=by rw [h]; exact k
theorem aZv {K V : Type} {kv : K→Value} {va : V→AV} {m : List (K × V)} (hH : H[id]? = some (.mp (entL kv va m))) (hp : ∀ v,lD H 0 5 (va v)=va v) : jX H 0 (.mp id)=.rmp (entL kv va m):=by
 simp only [jX,Nat.not_lt_zero,if_false,nV,lD,Nat.zero_le,if_true,hH]
 congr 1
 simp [entL,hp]
end
section
variable {K V : Type} [DecidableEq K] {P : Program} {cf : Nat→Nat→List AV→Heap→Option (AV × Heap)} {fl : Nat} {H : Heap} {kt : TypeId} {kv : K→Value} {va : V→AV} {m : List (K × V)} {x : AV} {k : K}
theorem aWa [GlobT] (hk : KeyOK P kt kv) (d : V) (z : AV) (hx : lits x=some (kv k)) (h : Option.isSome (mget m k)=true) : evOp P cf fl (.lookup kt (.tmp 2) (.tmp 0) (.tmp 1) false) [.rmp (entL kv va m),x,z] H=some (va ((mget m k).getD d),H):=by
 simp only [evOp,dU,List.getElem?_cons_zero,List.getElem?_cons_succ,hx,hk.chk,aJr hk]
 rcases aGy k m with ⟨h1,h2⟩ | ⟨i,v,h1,h2,h3⟩
 ·simp [h1] at h
 ·have : (entL kv va m)[i]? = some (kv k,va v):=by simp [entL,h3]
  simp [h1,h2,this]
theorem bDo [GlobT] (hk : KeyOK P kt kv) (z : AV) (hx : lits x=some (kv k)) (h : Option.isSome (mget m k)=false) : evOp P cf fl (.lookup kt (.tmp 2) (.tmp 0) (.tmp 1) false) [.rmp (entL kv va m),x,z] H=some (z,H):=by
 simp only [evOp,dU,List.getElem?_cons_zero,List.getElem?_cons_succ,hx,hk.chk,aJr hk]
 rcases aGy k m with ⟨h1,h2⟩ | ⟨i,v,h1,h2,h3⟩
 ·simp [h1,h2]
 ·simp [h1] at h
def remO (a d : Int) : Option Int:=if d=0 then none else some (a.tmod d)
theorem bDp [GlobT] {t : TypeId} {k : IntKind} {a d v : Int} (h : remO a d=some v) : evOp P cf fl (.bin .rem t (.tmp 0) (.tmp 1)) [.lit (.int k a),.lit (.int k d)] H=some (.lit (.int k v),H):=by
 unfold remO at h
 split at h
 ·cases h
 ·rename_i hd
  cases h
  exact bFk hd
end
section
variable {P : Program} {T : List AFun} {α : Type} {c : α→List AV} {vi fid s bytes n : Nat} {z : List Value}
theorem bA7 [GlobT] (hT : getF T vi=some ⟨fid,8,[.tmp 2],aYr s bytes z⟩) (hc : ∀ x,(c x).length=s) (hs : 0 < s) (hb : bytes ≤ 100000)
  (hseal : ∀ (H : Heap) x,(c x).map (lD H 0 5)=c x) (l : List α) (hl : l.length ≤ 1000000) : pv P T (n + 1) vi [.vw (l.map c)]=some (.sl false (l.map c)):=by
 have hb1 : Nat.blt 3 8=true:=rfl
 have hb2 : Nat.blt 4 8=true:=rfl
 rw [bFn _ hT]
 cases l with
 | nil =>
  have happ : iE 0 [] s bytes (.sl true []) []=some (.sl true [],[]):=by simp [iE,zJ,hs,room]
  simp [hb1,hb2,aYr,evC,aFb,yW,jK,xP,evOp,dU,nilK,aD5,putA,aN5,rd,happ,finA,aGp,aX9,aL1,aZu,mI,qM,jX,aU5,aK4,bAt,empA,nilS,gD]
 | cons x r =>
  have happ : iE 0 [] s bytes (.sl true []) ((x :: r).map c)=some (.ms 0 (x :: r).length 0 (x :: r).length,[.blk s ((x :: r).map c)]) :=
   bGe (l':=x :: r) (x:=.sl true []) (aM2 (by simpa using hl)) rfl hc hs hb (.inr rfl)
  have hse : jX [.blk s ((x :: r).map c)] 0 (.ms 0 (x :: r).length 0 (x :: r).length)=.sl false ((x :: r).map c):=aAx (id:=0) (s:=s) (c:=c) (l:=x :: r) rfl (hseal _)
  generalize hys : (x :: r).map c=ys at happ hse ⊢
  obtain ⟨y,q,rfl⟩ : ∃ y q,ys=y :: q:=by
   cases ys with
   | nil=>simp at hys
   | cons y q=>exact ⟨y,q,rfl⟩
  generalize (x :: r).length=L at happ hse
  simp [hb1,hb2,aYr,evC,aFb,yW,jK,xP,evOp,dU,nilK,aD5,putA,aN5,rd,happ,finA,aGp,aX9,aL1,aZu,mI,qM,hse,nilS,gD]
end
end Go.Proofs.YtapabkfjeiknbaaGreat.Av
namespace Go.Proofs.YtapabkfjeiknbaaGreat.Av
open Go
def cmpC (c : Ctx) (w' : World) : Ctx:=⟨w',fun b=>c.X b ∨ ∃ id,c.β id=some b,fun _=>none,[]⟩
def aEi (c : Ctx) (b : Nat) (w' : World) : Prop:=c.w.heap.size ≤ w'.heap.size∧∀ k o,k ≠ b→c.w.heap[k]? = some o→w'.heap[k]? = some o
section
variable {FT : Nat→Option Nat} {c : Ctx} {w' : World} {id0 b0 : Nat}
theorem cmp_imm {b : Nat} : Imm (cmpC c w') b ↔ Imm c b:=(bare_imm (c:=c) (b:=b))
theorem bBn {x : AV} {v : Value} (hb0 : c.β id0=some b0) (hw : aEi c b0 w') (h : RP c.w (Imm c) x v) : RP (cmpC c w').w (Imm (cmpC c w')) x v :=
 h.mono fun b o hi hb=>⟨cmp_imm.2 hi,hw.2 b o (fun e=>hi.2 id0 (by rw [e]; exact hb0)) hb⟩
theorem bDk [GlobT] (hs : Sim FT c) (hb0 : c.β id0=some b0) (hw : aEi c b0 w') : Sim FT (cmpC c w') where
 gl:=fun g cs hcs=>by
  obtain ⟨cc,T,fz,vals,h1,h2,h0,h3,h4⟩:=hs.gl g cs hcs
  exact ⟨cc,T,fz,vals,cmp_imm.2 h1,hw.2 g _ (fun e=>h1.2 id0 (by rw [e]; exact hb0)) h2,h0,h3,fun j x hx=>bBn hb0 hw (h4 j x hx)⟩
 inj:=fun _ _ _ h=>by cases h
 dom:=fun _ _ h=>by cases h
 nx:=fun _ _ h=>by cases h
 fresh:=fun k hk h=>by
  have hk' : c.w.heap.size ≤ k:=Nat.le_trans hw.1 hk
  rcases h with h | ⟨id,hid⟩
  ·exact hs.fresh k hk' h
  ·have:=pM hs hid
   omega
 lens:=fun id s es h=>by simp [cmpC] at h
 blk:=fun id s es b h=>by simp [cmpC] at h
 map:=fun id es b h=>by simp [cmpC] at h
 raw:=fun id q b h=>by simp [cmpC] at h
def outO (H : Heap) (id : Nat) : Heap:=H.set id (.mp [])
theorem bDx {H : Heap} {id i : Nat} (h : i ≠ id) : (outO H id)[i]? = H[i]?:=by
 unfold outO
 rw [List.getElem?_set_ne (Ne.symm h)]
theorem aSp [GlobT] (hs : Sim FT c) (hb0 : c.β id0=some b0) (hw : aEi c b0 w') {x : AV} {v : Value} (h : RV FT c x v) : RV FT (cmpC c w') (aLw (outO c.H id0) x) v:=by
 have hvis : ∀ b,Vis (cmpC c w') b:=fun b id h=>by cases h
 have hrp : ∀ {x v},RP c.w (Imm c) x v→RP (cmpC c w').w (Imm (cmpC c w')) x v:=fun hr=>bBn hb0 hw hr
 have him : ∀ b,Imm c b→b ≠ b0:=fun b hi e=>hi.2 id0 (by rw [e]; exact hb0)
 have hvs : ∀ b,Vis c b→b ≠ b0:=fun b hi e=>hi id0 (by rw [e]; exact hb0)
 cases h with
 | pure _ _ hp =>
  cases hp with
  | undef v=>exact RV.undef _
  | lit v =>
   have hor : nrmV v=.lit v ∨ (v=.slice none 0 0∧nrmV v=.sl false []):=by
    unfold nrmV
    repeat' split
    all_goals first
     | exact .inl rfl
     | exact .inr ⟨rfl,rfl⟩
   simp only [aLw]
   rcases hor with e | ⟨rfl,e⟩ <;> rw [e]
   ·exact RV.lit _
   ·exact .vnil none 0
  | nil f a cap hf=>exact .vnil a cap
  | sl f es b off cap cc T fz s vals h1 h2 h3 h4 h5 h6 h7 h8=>exact .vw es b off cap cc T fz s vals h1 (hvis b) (hw.2 b _ (him b h2) h3) h4 h5 h7 fun i j x hx=>hrp (h8 i j x hx)
  | sptr cs b off cc T fz vals h1 h2 h3 h4=>exact .pure _ _ (hrp (.sptr cs b off cc T fz vals h1 h2 h3 h4))
  | rmp ents b es clk vals h1 h2 h3 h4 h5 h6=>exact .pure _ _ (hrp (.rmp ents b es clk vals h1 h2 h3 h4 h5 h6))
 | ms id tot off len a cap s n g1 g2 g3 g4 =>
  simp only [aLw]
  split
  ·rename_i es hrd
   unfold rd at hrd
   simp only at hrd
   split at hrd
   ·rename_i s' es0 hob
    have hid : id ≠ id0:=by
     intro e
     subst e
     unfold outO at hob
     rw [List.getElem?_set_self' ] at hob
     cases hx : c.H[id]? <;> simp [hx] at hob
    rw [bDx hid] at hob
    split at hrd
    ·rename_i htot
     cases hrd
     rw [qP hob] at g1
     cases g1
     obtain ⟨m1,m2⟩:=g4 htot.symm
     have hlen : ((es0.drop off).take len).length=len:=by simp; omega
     by_cases hl0 : len=0
     ·subst hl0
      simp only [List.take_zero,List.map_nil]
      exact .vnil _ _
     ·rcases m2 with ⟨_,m3,m4,m5⟩ | ⟨b,cc,Ty,a',m3,m4,m5,m6,m7⟩
      ·omega
      ·have ha:=m7 (by omega)
       subst m6
       subst ha
       obtain ⟨cc',Ty',q1,q2,q3⟩:=hs.blk id s es0 b hob m3
       rw [m4] at q1
       cases q1
       have hbne : b ≠ b0:=fun e=>hid (hs.inj id id0 b m3 (by rw [e]; exact hb0))
       have hlens:=hs.lens id s es0 hob
       have hcell : ∀ i j x,hZ (((es0.drop off).take len).map fun e=>e.map toP) i j=some x →
         ∃ y u,x=toP y∧cc[off * s + (i * s + j)]? = some u∧gA u=true∧RV FT c y u:=by
        intro i j x hx
        obtain ⟨y,hy,rfl⟩:=tO hx
        obtain ⟨e,he,hj⟩:=jJ hy
        rw [List.getElem?_take] at he
        split at he
        ·rw [List.getElem?_drop] at he
         obtain ⟨u,w1,w2,w3⟩:=q3 (off + i) j y (by simp [hZ,he,hj])
         exact ⟨y,u,rfl,by rw [← w1]; congr 1; rw [Nat.add_mul]; omega,w2,w3⟩
        ·cases he
       have hres:=RV.vw (FT:=FT) (c:=cmpC c w') (((es0.drop off).take len).map fun e=>e.map toP) b (off * s) cap cc Ty (0,0) s
        (fun i j=>(cc[off * s + (i * s + j)]?).getD gD)
        (by intro e; have:=congrArg List.length e; simp at this; omega) (hvis b) (hw.2 b _ hbne m4)
        (fun e he=>by
         simp only [List.mem_map] at he
         obtain ⟨e0,h0,rfl⟩:=he
         simpa using hlens e0 (List.mem_of_mem_drop (List.mem_of_mem_take h0)))
        (by simp only [List.length_map,hlen]; exact g3)
        (fun i j x hx=>by
         obtain ⟨y,u,_,w1,w2,_⟩:=hcell i j x hx
         simp [w1,w2])
        (fun i j x hx=>by
         obtain ⟨y,u,hxy,w1,_,w3⟩:=hcell i j x hx
         rw [hxy]
         simp only [w1,Option.getD_some]
         exact hrp (aOs w3))
       simp only [List.length_map,hlen] at hres
       exact hres
    ·cases hrd
   ·cases hrd
  ·exact RV.undef _
 | ptr=>exact RV.undef _
 | rptr cs b off cc T fz vals g1 g2 g3 g4=>exact .rptr cs b off cc T fz vals (hvis b) (hw.2 b _ (hvs b g1) g2) g3 fun j x hx=>hrp (g4 j x hx)
 | vnil a cap=>exact .vnil a cap
 | vw es b off cap cc T fz s vals h1 h2 h3 h4 h5 h6 h7=>exact .vw es b off cap cc T fz s vals h1 (hvis b) (hw.2 b _ (hvs b h2) h3) h4 h5 h6 fun i j x hx=>hrp (h7 i j x hx)
 | mp=>exact RV.undef _
 | it=>exact RV.undef _
 | fn vi f caps cv vals g1 g2 g3 g4 =>
  cases caps with
  | nil=>exact .fn vi f [] cv vals g1 g2 g3 fun i x hx=>by simp at hx
  | cons _ _=>exact RV.undef _
 | agg=>exact RV.undef _
 | tup=>exact RV.undef _
theorem aOp [GlobT] (hs : Sim FT c) (hb0 : c.β id0=some b0) (hw : aEi c b0 w') {x : AV} {v : Value} (h : RV FT c x v) : RV FT (cmpC c w') (nO (outO c.H id0) x) v:=by
 unfold nO
 split
 ·rename_i cs
  obtain ⟨cv,vals,rfl,g1,g2,g3⟩:=h.agg_inv
  refine .agg _ cv vals (by simpa using g1) ?_ ?_
  ·intro i x hx
   simp only [List.getElem?_map,Option.map_eq_some_iff] at hx
   obtain ⟨y,hy,rfl⟩:=hx
   exact g2 i y hy
  ·intro i x hx
   simp only [List.getElem?_map,Option.map_eq_some_iff] at hx
   obtain ⟨y,hy,rfl⟩:=hx
   exact aSp hs hb0 hw (g3 i y hy)
 ·exact aSp hs hb0 hw h
end
def detW (c : Ctx) (w' : World) (id s : Nat) (es : List (List AV)) : Ctx:=⟨w',fun k=>c.X k ∨ c.β id=some k,fun i=>if i=id then none else c.β i,c.H.set id (.blk s (es++[List.replicate s .undef]))⟩
section
variable {FT : Nat→Option Nat} {c : Ctx} {w' : World} {b0 : Nat}
theorem aT5 {id s : Nat} {es : List (List AV)} {b : Nat} : Imm (detW c w' id s es) b ↔ Imm c b:=det_imm (c:=c) (id:=id) (s:=s) (es:=es)
theorem aNf {id s : Nat} {es : List (List AV)} {x : AV} {v : Value} (hb0 : c.β id=some b0) (hw : aEi c b0 w') (h : RP c.w (Imm c) x v) : RP (detW c w' id s es).w (Imm (detW c w' id s es)) x v :=
 h.mono fun b o hi hb=>⟨(aT5 (w':=w')).2 hi,hw.2 b o (fun e=>hi.2 id (by rw [e]; exact hb0)) hb⟩
theorem aJ9 [GlobT] {id s : Nat} {es : List (List AV)} {x : AV} {v : Value} (hs0 : Sim FT c) (hb0 : c.β id=some b0) (hw : aEi c b0 w') (ho : c.H[id]? = some (.blk s es)) (h : RV FT c x v) : RV FT (detW c w' id s es) x v:=by
 have hget : ∀ i,i ≠ id→(detW c w' id s es).H[i]? = c.H[i]?:=fun i hi=>aAq (s:=s) (es:=es) hi
 have hsame : (detW c w' id s es).H[id]? = some (.blk s (es++[List.replicate s .undef])):=aEy ho
 have hβ : ∀ i,i ≠ id→(detW c w' id s es).β i=c.β i:=fun i hi=>by simp [detW,hi]
 have hvis : ∀ b,Vis c b→Vis (detW c w' id s es) b:=by
  intro b hb i hi
  simp only [detW] at hi
  split at hi
  ·cases hi
  ·exact hb i hi
 have hvs : ∀ b,Vis c b→b ≠ b0:=fun b hi e=>hi id (by rw [e]; exact hb0)
 have hmp : ∀ i,aGz c.H i→i ≠ id:=by
  rintro i ⟨e,he,hnb⟩ rfl
  rw [ho] at he; cases he; exact hnb
 induction h with
 | pure x v hp=>exact .pure x v (aNf hb0 hw hp)
 | ms i tot off len a cap s' n g1 g2 g3 g4 =>
  by_cases hi : i=id
  ·subst hi
   rw [qP ho] at g1
   cases g1
   exact .ms i tot off len a cap s (es.length + 1) (by simp [shp,hsame]) (by omega) g3 fun e=>by omega
  ·refine .ms i tot off len a cap s' n (by simp only [shp,hget i hi]; exact g1) g2 g3 fun e=>?_
   obtain ⟨m1,m2⟩:=g4 e
   refine ⟨m1,?_⟩
   rw [hβ i hi]
   rcases m2 with m2 | ⟨b,cs,T,a',q1,q2,q3⟩
   ·exact .inl m2
   ·exact .inr ⟨b,cs,T,a',q1,hw.2 b _ (fun e=>hi (hs0.inj i id b q1 (by rw [e]; exact hb0))) q2,q3⟩
 | ptr i tot idx off a s' n g1 g2 g3 =>
  by_cases hi : i=id
  ·subst hi
   rw [qP ho] at g1
   cases g1
   exact .ptr i tot idx off a s (es.length + 1) (by simp [shp,hsame]) (by omega) fun e=>by omega
  ·refine .ptr i tot idx off a s' n (by simp only [shp,hget i hi]; exact g1) g2 fun e=>?_
   rw [hβ i hi]
   exact g3 e
 | rptr cs b off cc T fz vals hi hb hv hp=>exact .rptr cs b off cc T fz vals (hvis b hi) (hw.2 b _ (hvs b hi) hb) hv fun j x hx=>aNf hb0 hw (hp j x hx)
 | vnil a cap=>exact .vnil a cap
 | vw es' b off cap cc T fz s' vals hne hi hb hlen hcap hv hp=>exact .vw es' b off cap cc T fz s' vals hne (hvis b hi) (hw.2 b _ (hvs b hi) hb) hlen hcap hv fun i j x hx=>aNf hb0 hw (hp i j x hx)
 | mp i b hm hb =>
  have hi:=hmp i hm
  obtain ⟨e,he,hnb⟩:=hm
  exact .mp i b ⟨e,by rw [hget i hi]; exact he,hnb⟩ (by rw [hβ i hi]; exact hb)
 | it i b hm hb =>
  have hi:=hmp i hm
  obtain ⟨e,he,hnb⟩:=hm
  exact .it i b ⟨e,by rw [hget i hi]; exact he,hnb⟩ (by rw [hβ i hi]; exact hb)
 | fn vi f caps cv vals hf hs hv _ ih=>exact .fn vi f caps cv vals hf hs hv ih
 | agg cs cv vals hs hv _ ih=>exact .agg cs cv vals hs hv ih
 | tup cs cv vals hs hv _ ih=>exact .tup cs cv vals hs hv ih
theorem aZr [GlobT] {id s : Nat} {es : List (List AV)} (hs : Sim FT c) (hb0 : c.β id=some b0) (hw : aEi c b0 w') (ho : c.H[id]? = some (.blk s es)) : Sim FT (detW c w' id s es):=by
 have hβ : ∀ i b,(detW c w' id s es).β i=some b→i ≠ id∧c.β i=some b:=by
  intro i b hb
  simp only [detW] at hb
  split at hb
  ·cases hb
  ·rename_i h; exact ⟨h,hb⟩
 have hget : ∀ i,i ≠ id→(detW c w' id s es).H[i]? = c.H[i]?:=fun i hi=>aAq (s:=s) (es:=es) hi
 refine ⟨?_,fun i j b hi hj=>hs.inj i j b (hβ i b hi).2 (hβ j b hj).2,fun i b hi=>?_,fun i b hi hx=>?_,fun k hk hx=>?_,?_,?_,?_,fun i q b h hb=>by
  obtain ⟨hi,hb⟩:=hβ i b hb
  rw [hget i hi] at h
  exact hw.2 b _ (fun e=>hi (hs.inj i id b hb (by rw [e]; exact hb0))) (hs.raw i q b h hb)⟩
 ·intro g cs hcs
  obtain ⟨cc,T,fz,vals,h1,h2,h0,h3,h4⟩:=hs.gl g cs hcs
  exact ⟨cc,T,fz,vals,(aT5 (w':=w')).2 h1,hw.2 g _ (fun e=>h1.2 id (by rw [e]; exact hb0)) h2,h0,h3,fun j x hx=>aNf hb0 hw (h4 j x hx)⟩
 ·have:=hs.dom i b (hβ i b hi).2
  simpa [detW] using this
 ·obtain ⟨hne,hb⟩:=hβ i b hi
  rcases hx with hx | hx
  ·exact hs.nx i b hb hx
  ·exact hne (hs.inj i id b hb hx)
 ·have hk' : c.w.heap.size ≤ k:=Nat.le_trans hw.1 hk
  rcases hx with hx | hx
  ·exact hs.fresh k hk' hx
  ·have h1:=hs.lt hx
   omega
 ·intro i s' es' h e he
  by_cases hi : i=id
  ·subst hi
   have h' : (detW c w' i s es).H[i]? = some (.blk s (es++[List.replicate s .undef])):=aEy ho
   rw [h'] at h
   cases h
   rcases List.mem_append.1 he with he | he
   ·exact hs.lens i s es ho e he
   ·simp at he; subst he; simp
  ·rw [hget i hi] at h
   exact hs.lens i s' es' h e he
 ·intro i s' es' b h hb
  obtain ⟨hi,hb⟩:=hβ i b hb
  rw [hget i hi] at h
  obtain ⟨cs,T,g1,g2,g3⟩:=hs.blk i s' es' b h hb
  exact ⟨cs,T,hw.2 b _ (fun e=>hi (hs.inj i id b hb (by rw [e]; exact hb0))) g1,g2,fun i j x hx=>let ⟨v,k1,k2,k3⟩:=g3 i j x hx; ⟨v,k1,k2,aJ9 hs hb0 hw ho k3⟩⟩
 ·intro i ents b h hb
  obtain ⟨hi,hb⟩:=hβ i b hb
  rw [hget i hi] at h
  obtain ⟨cs,T,g1,g2,g3⟩:=hs.map i ents b h hb
  exact ⟨cs,T,hw.2 b _ (fun e=>hi (hs.inj i id b hb (by rw [e]; exact hb0))) g1,g2,fun i j x hx=>let ⟨v,k1,k2,k3⟩:=g3 i j x hx; ⟨v,k1,k2,aJ9 hs hb0 hw ho k3⟩⟩
end
end Go.Proofs.YtapabkfjeiknbaaGreat.Av
namespace Go.Proofs.YtapabkfjeiknbaaGreat.Av
open Go
noncomputable def getK (l : List AV) : Nat→AV:=List.rec (motive:=fun _=>Nat→AV) (fun _=>.lit gD) (fun x _ ih n=>Nat.rec (motive:=fun _=>AV) x (fun m _=>ih m) n) l
theorem aN3 [GlobT] : ∀ (l : List AV) (t : Nat),getK l t=match l[t]? with | some v=>v | none=>.lit gD
 | [],t=>by simp [getK]
 | x :: r,0=>rfl
 | x :: r,t + 1=>by
  have:=aN3 r t
  simp only [List.getElem?_cons_succ]
  rw [← this]
  rfl
noncomputable def eK [GlobT] (tm : List AV) (x : AOpd) : AV:=match x with
 | .tmp t=>getK tm t
 | .lit v=>.lit v
 | .agg vs=>.agg (vs.map .lit)
 | .fn vi=>.fn vi []
 | .glob g=>match GlobT.tab g with | some cs=>.rptr cs | none=>.undef
theorem aCc [GlobT] (tm : List AV) (x : AOpd) : eK tm x=dU tm x:=by
 cases x with
 | tmp t=>simp only [eK,aN3,dU]; rfl
 | _=>rfl
theorem aSa [GlobT] (tm : List AV) : eK tm=dU tm:=funext (aCc tm)
noncomputable def aF3 [GlobT] (tm : List AV) (x : Option AOpd) : Option (Option Nat):=match x with
 | none=>some none
 | some x=>match uS (eK tm x) with | some n=>some (some n) | none=>none
theorem aU3 [GlobT] (tm : List AV) (x : Option AOpd) : aF3 tm x=tH tm x:=by
 cases x <;> simp only [aF3,tH,aCc] <;> rfl
def bGc (cf : Nat→Nat→List AV→Heap→Option (AV × Heap)) (vi : Nat) (args : List AV) (H : Heap) : Option (AV × Heap):=match cf 0 vi args [] with
 | some (r,H')=>match aQ8 (mI H' 0 r) with
  | true=>some (mI H' 0 r,H)
  | false=>none
 | none=>none
def aYx (mem : Nat→List AV→Option AV) (cf : Nat→Nat→List AV→Heap→Option (AV × Heap)) (vi : Nat) (args : List AV) (H : Heap) : Option (AV × Heap) :=
 match mem vi args with
 | some r=>match aQ8 r with
  | true=>some (r,H)
  | false=>none
 | none=>bGc cf vi args H
def bGd (cf : Nat→Nat→List AV→Heap→Option (AV × Heap)) (vi : Nat) (args : List AV) (H : Heap) : Option (AV × Heap):=match cf 0 vi args [] with
 | some (r,H')=>some (mI H' 0 r,H)
 | none=>none
def aYz (mem : Nat→List AV→Option AV) (cf : Nat→Nat→List AV→Heap→Option (AV × Heap)) (vi : Nat) (args : List AV) (H : Heap) : Option (AV × Heap) :=
 match mem vi args with
 | some r=>some (r,H)
 | none=>bGd cf vi args H
def bA9 (mem : Nat→List AV→Option AV) (cf : Nat→Nat→List AV→Heap→Option (AV × Heap)) (fl : Nat) (pu : Bool) (vi : Nat) (args : List AV) (H : Heap) : Option (AV × Heap) :=
 match pu with
 | true=>match pJ args with
  | true=>match mem vi (args.map nrm2) with
   | some r=>some (r,H)
   | none=>yM cf fl true vi args H
  | false=>yM cf fl true vi args H
 | false=>cf fl vi args H
def aIj (mem : Nat→List AV→Option AV) (cf : Nat→Nat→List AV→Heap→Option (AV × Heap)) : Prop :=
 ∀ vi args r,mem vi args=some r→(match cf 0 vi args [] with | some (r',H')=>some (mI H' 0 r') | none=>none)=some r
theorem aYw {mem : Nat→List AV→Option AV} {cf : Nat→Nat→List AV→Heap→Option (AV × Heap)} (h : aIj mem cf) (vi : Nat) (args : List AV) (H : Heap) : aYx mem cf vi args H=match cf 0 vi args [] with
  | some (r,H')=>match aQ8 (mI H' 0 r) with
   | true=>some (mI H' 0 r,H)
   | false=>none
  | none=>none:=by
 unfold aYx
 cases hm : mem vi args with
 | none=>rfl
 | some r =>
  have:=h vi _ r hm
  cases hc : cf 0 vi args [] with
  | none=>rw [hc] at this; cases this
  | some x =>
   rw [hc] at this
   simp only [Option.some.injEq] at this ⊢
   rw [this]
theorem aYy {mem : Nat→List AV→Option AV} {cf : Nat→Nat→List AV→Heap→Option (AV × Heap)} (h : aIj mem cf) (vi : Nat) (args : List AV) (H : Heap) : aYz mem cf vi args H=match cf 0 vi args [] with
  | some (r,H')=>some (mI H' 0 r,H)
  | none=>none:=by
 unfold aYz
 cases hm : mem vi args with
 | none=>rfl
 | some r =>
  have:=h vi _ r hm
  cases hc : cf 0 vi args [] with
  | none=>rw [hc] at this; cases this
  | some x =>
   rw [hc] at this
   simp only [Option.some.injEq] at this ⊢
   rw [this]
theorem bA8 {mem : Nat→List AV→Option AV} {cf : Nat→Nat→List AV→Heap→Option (AV × Heap)} (h : aIj mem cf) (fl : Nat) (pu : Bool) (vi : Nat) (args : List AV) (H : Heap) : bA9 mem cf fl pu vi args H=yM cf fl pu vi args H:=by
 unfold bA9
 cases pu with
 | false=>rfl
 | true =>
  simp only
  cases hp : pJ args with
  | false=>rfl
  | true =>
   simp only
   cases hm : mem vi (args.map nrm2) with
   | none=>rfl
   | some r =>
    have:=h vi _ r hm
    unfold yM
    simp only [hp]
    cases hc : cf 0 vi (args.map nrm2) [] with
    | none=>rw [hc] at this; cases this
    | some x =>
     rw [hc] at this
     simp only [Option.some.injEq] at this ⊢
     rw [this]
section
variable (P : Program) (cf : Nat→Nat→List AV→Heap→Option (AV × Heap)) (fl : Nat) (mem : Nat→List AV→Option AV)
noncomputable def bEh [GlobT] (x : AOpd) (tm : List AV) (H : Heap) : Option (AV × Heap):=some (eK tm x,H)
noncomputable def aXk [GlobT] (x : AOpd) (tm : List AV) (H : Heap) : Option (AV × Heap):=some (nrm2 (eK tm x),H)
noncomputable def aXj [GlobT] (c : AOpd) (a : AOpd) (b : AOpd) (tm : List AV) (H : Heap) : Option (AV × Heap):=match eK tm c with
  | .lit (.bool t)=>some (if t then eK tm a else eK tm b,H)
  | _=>none
noncomputable def aR8 (z : List Value) (tm : List AV) (H : Heap) : Option (AV × Heap):=some (.ptr H.length 1 0 0,H++[.blk z.length [z.map .lit]])
noncomputable def aR1 (s : Nat) (tm : List AV) (H : Heap) : Option (AV × Heap):=some (.ms H.length 0 0 0,H++[.blk s []])
noncomputable def aN0 (z : List Value) (cl : List (Nat × Nat)) (tm : List AV) (H : Heap) : Option (AV × Heap):=some (.ptr (H.length + cl.length) 1 0 0,
   (H++cl.map fun c=>.blk c.2 [])++[.blk z.length [rN H.length (z.map .lit) cl]])
noncomputable def bEi [GlobT] (x : AOpd) (tm : List AV) (H : Heap) : Option (AV × Heap):=match cellsOf (eK tm x) with
  | some cs=>some (.ptr H.length 1 0 0,H++[.blk cs.length [cs]])
  | none=>none
noncomputable def aR7 [GlobT] (z : List Value) (parts : List (Nat × Nat × AOpd)) (tm : List AV) (H : Heap) : Option (AV × Heap):=match aSd (z.map .lit) (parts.map fun (o,s,x)=>(o,s,eK tm x)) with
  | some cs=>some (.agg cs,H)
  | none=>none
noncomputable def aK1 [GlobT] (pu : Bool) (s : Nat) (n : Nat) (z : List Value) (parts : List (Nat × AOpd)) (tm : List AV) (H : Heap) : Option (AV × Heap):=match aN5 s (List.replicate n (z.map .lit)) (parts.map fun (i,x)=>(i,eK tm x)) with
  | some es=>if pu then some (.sl true (es.map fun e=>e.map toP),H) else some (.ms H.length n 0 n,H++[.blk s es])
  | none=>none
noncomputable def aXm [GlobT] (agg : Bool) (n : Nat) (x : AOpd) (tm : List AV) (H : Heap) : Option (AV × Heap):=match uT H (eK tm x) n with
  | some cs=>if agg then some (.agg cs,H) else match cs with
   | [c]=>some (c,H)
   | _=>none
  | none=>none
noncomputable def aRu [GlobT] (n : Nat) (x : AOpd) (v : AOpd) (tm : List AV) (H : Heap) : Option (AV × Heap):=match cellsOf (eK tm v) with
  | some cs=>if cs.length=n then match aDs fl H (eK tm x) cs with
    | some H'=>some (.lit gD,H')
    | none=>none
   else none
  | none=>none
noncomputable def aH7 [GlobT] (x : AOpd) (tm : List AV) (H : Heap) : Option (AV × Heap):=match eK tm x with
  | .ptr ..=>some (eK tm x,H)
  | .rptr _=>some (eK tm x,H)
  | .sptr _=>some (eK tm x,H)
  | .fn ..=>some (eK tm x,H)
  | _=>none
noncomputable def aXq [GlobT] (op : BinOp) (x : AOpd) (y : AOpd) (tm : List AV) (H : Heap) : Option (AV × Heap):=match eK tm x,eK tm y with
  | .lit (.int k a),.lit (.int k' b)=>if k=k' then match aU6 op k a b with
    | some v=>some (.lit v,H)
    | none=>none
   else none
  | _,_=>none
noncomputable def bEj [GlobT] (op : BinOp) (t : TypeId) (x : AOpd) (y : AOpd) (tm : List AV) (H : Heap) : Option (AV × Heap):=match lits (eK tm x),lits (eK tm y) with
  | some v,some u=>match (if aGv v then eD P (eqGuard op t (.tmp 0) (.tmp 0) v u) else none) with
   | some _=>match eD P (binOp op t v u) with
    | some r=>some (.lit r,H)
    | none=>none
   | none=>none
  | _,_=>none
noncomputable def k_un [GlobT] (op : UnOp) (x : AOpd) (tm : List AV) (H : Heap) : Option (AV × Heap):=match eK tm x with
  | .lit v=>match eD P (Op.unary op v) with
   | some r=>some (.lit r,H)
   | none=>none
  | _=>none
noncomputable def aXs [GlobT] (src : TypeId) (dst : TypeId) (x : AOpd) (tm : List AV) (H : Heap) : Option (AV × Heap):=match eK tm x with
  | .lit v=>match eD P (convert src dst v) with
   | some r=>some (.lit r,H)
   | none=>none
  | .sl _ es=>match aN1 P src dst with
   | true=>match aFl es with
    | some ns=>some (.lit (.string (aJx ns)),H)
    | none=>none
   | false=>none
  | _=>none
noncomputable def aF8 [GlobT] (off : Nat) (x : AOpd) (tm : List AV) (H : Heap) : Option (AV × Heap):=match eK tm x with
  | .ptr id tot idx o=>some (.ptr id tot idx (o + off),H)
  | .rptr cs=>some (.rptr (cs.drop off),H)
  | .sptr cs=>some (.rptr (cs.drop off),H)
  | _=>none
noncomputable def aRz [GlobT] (agg : Bool) (n : Nat) (off : Nat) (x : AOpd) (tm : List AV) (H : Heap) : Option (AV × Heap):=match eK tm x with
  | .agg cs=>if off + n ≤ cs.length then
    if agg then some (.agg ((cs.drop off).take n),H) else match (cs.drop off).take n with
     | [c]=>some (c,H)
     | _=>none
   else none
  | _=>none
noncomputable def aKz [GlobT] (s : Nat) (x : AOpd) (i : AOpd) (tm : List AV) (H : Heap) : Option (AV × Heap):=match uS (eK tm i) with
  | some i=>match eK tm x with
   | .sl _ es=>match es[i]? with
    | some e=>if e.length=s then some (.rptr e,H) else none
    | none=>none
   | .vw es=>match es[i]? with
    | some e=>if e.length=s then some (.rptr e,H) else none
    | none=>none
   | .ms id tot off len=>match H[id]? with
    | some (.blk s' es)=>if s'=s∧es.length=tot∧i < len then some (.ptr id tot (off + i) 0,H) else none
    | _=>none
   | _=>none
  | none=>none
noncomputable def aNw [GlobT] (s : Nat) (n : Nat) (x : AOpd) (i : AOpd) (tm : List AV) (H : Heap) : Option (AV × Heap):=match uS (eK tm i) with
  | some i=>if i < n then match eK tm x with
    | .ptr id tot idx o=>some (.ptr id tot idx (o + i * s),H)
    | .rptr cs=>some (.rptr (cs.drop (i * s)),H)
    | _=>none
   else none
  | none=>none
noncomputable def aRy [GlobT] (agg : Bool) (s : Nat) (n : Nat) (x : AOpd) (i : AOpd) (tm : List AV) (H : Heap) : Option (AV × Heap):=match uS (eK tm i) with
  | some i=>if i < n then match eK tm x with
    | .agg cs=>if i * s + s ≤ cs.length then
      if agg then some (.agg ((cs.drop (i * s)).take s),H) else match (cs.drop (i * s)).take s with
       | [c]=>some (c,H)
       | _=>none
     else none
    | _=>none
   else none
  | none=>none
noncomputable def aNr [GlobT] (t : TypeId) (x : AOpd) (i : AOpd) (tm : List AV) (H : Heap) : Option (AV × Heap):=match eK tm x,eK tm i with
  | .lit v,.lit u=>match eD P (Instr.index t v u) with
   | some r=>some (.lit r,H)
   | none=>none
  | _,_=>none
noncomputable def aRv [GlobT] (s : Nat) (x : AOpd) (lo : Option AOpd) (hi : Option AOpd) (mx : Option AOpd) (tm : List AV) (H : Heap) : Option (AV × Heap):=match aF3 tm lo,aF3 tm hi,aF3 tm mx with
  | some lo,some hi,some mx=>match aBy H s (eK tm x) lo hi mx with
   | some v=>some (v,H)
   | none=>none
  | _,_,_=>none
noncomputable def aH5 [GlobT] (u0 : TypeId) (x : AOpd) (lo : Option AOpd) (hi : Option AOpd) (tm : List AV) (H : Heap) : Option (AV × Heap):=match eK tm x,aF3 tm lo,aF3 tm hi with
  | .lit (.string s),some lo,some hi =>
   if lo.getD 0 ≤ hi.getD s.size∧hi.getD s.size ≤ s.size then some (.lit (.string (s.extract (lo.getD 0) (hi.getD s.size))),H) else none
  | _,_,_=>none
noncomputable def aKy [GlobT] (s : Nat) (z : List Value) (bytes : Nat) (len : AOpd) (cap : AOpd) (tm : List AV) (H : Heap) : Option (AV × Heap):=match uS (eK tm len),uS (eK tm cap) with
  | some l,some c=>if l ≤ c∧c * bytes ≤ 2 ^ 40∧c ≤ 2 ^ 40∧z.length=s then
    some (.ms H.length l 0 l,H++[.blk s (List.replicate l (z.map .lit))]) else none
  | _,_=>none
noncomputable def aRw (tm : List AV) (H : Heap) : Option (AV × Heap):=some (.mp H.length,H++[.mp []])
noncomputable def aNu [GlobT] (kt : TypeId) (z : AOpd) (m : AOpd) (k : AOpd) (ok : Bool) (tm : List AV) (H : Heap) : Option (AV × Heap):=match lits (eK tm k) with
  | some kv =>
   let r (ents : List (Value × AV)) : Option (AV × Heap) :=
    match eD P (Instr.checkKey ents.isEmpty 10000 kt kv),aAr P kt kv ents with
    | some _,some (some i)=>match ents[i]? with
     | some e=>some (if ok then .tup [e.2,.lit (.bool true)] else e.2,H)
     | none=>none
    | some _,some none=>some (if ok then .tup [eK tm z,.lit (.bool false)] else eK tm z,H)
    | _,_=>none
   match eK tm m with
   | .lit (.map none)=>r []
   | .mp id=>match H[id]? with
    | some (.mp ents)=>r ents
    | _=>none
   | .rmp ents=>r ents
   | _=>none
  | none=>none
noncomputable def aNt [GlobT] (kt : TypeId) (m : AOpd) (k : AOpd) (v : AOpd) (tm : List AV) (H : Heap) : Option (AV × Heap):=match lits (eK tm k),eK tm m with
  | some kv,.mp id=>if fl ≤ id then match H[id]? with
    | some (.mp ents)=>match eD P (Instr.checkKey false 10000 kt kv),aAr P kt kv ents with
     | some _,some (some i)=>match ents[i]? with
      | some e=>if Instr.sameBits 10000 e.1 kv then some (.lit gD,H.set id (.mp (ents.set i (kv,eK tm v)))) else none
      | none=>none
     | some _,some none=>some (.lit gD,H.set id (.mp (ents++[(kv,eK tm v)])))
     | _,_=>none
    | _=>none
   else none
  | _,_=>none
noncomputable def aXn [GlobT] (x : AOpd) (tm : List AV) (H : Heap) : Option (AV × Heap):=match eK tm x with
  | .lit (.slice none 0 0)=>some (.lit (.int .i64 0),H)
  | .sl _ es=>some (.lit (.int .i64 es.length),H)
  | .vw es=>some (.lit (.int .i64 es.length),H)
  | .ms _ _ _ len=>some (.lit (.int .i64 len),H)
  | _=>none
noncomputable def aXo [GlobT] (x : AOpd) (tm : List AV) (H : Heap) : Option (AV × Heap):=match eK tm x with
  | .lit (.map none)=>some (.lit (.int .i64 0),H)
  | .mp id=>match H[id]? with
   | some (.mp ents)=>some (.lit (.int .i64 ents.length),H)
   | _=>none
  | .rmp ents=>some (.lit (.int .i64 ents.length),H)
  | _=>none
noncomputable def aNv [GlobT] (t : TypeId) (x : AOpd) (tm : List AV) (H : Heap) : Option (AV × Heap):=match eK tm x with
  | .lit v=>match eD P (Builtin.len_ #[t] 0 #[v]) with
   | some r=>some (.lit r,H)
   | none=>none
  | _=>none
noncomputable def aXp (n : Nat) (tm : List AV) (H : Heap) : Option (AV × Heap):=some (.lit (.int .i64 n),H)
noncomputable def aNz [GlobT] (s : Nat) (bytes : Nat) (x : AOpd) (y : AOpd) (tm : List AV) (H : Heap) : Option (AV × Heap):=match rd H (eK tm y) with
  | some ys=>iE fl H s bytes (eK tm x) ys
  | none=>none
noncomputable def aK2 [GlobT] (s : Nat) (bytes : Nat) (z : List Value) (x : AOpd) (n : AOpd) (tm : List AV) (H : Heap) : Option (AV × Heap):=match uS (eK tm n) with
  | some n=>if z.length=s∧n ≤ 2 ^ 20∧n * bytes ≤ 2 ^ 40 then iE fl H s bytes (eK tm x) (List.replicate n (z.map .lit)) else none
  | none=>none
noncomputable def aXr [GlobT] (s : Nat) (x : AOpd) (y : AOpd) (tm : List AV) (H : Heap) : Option (AV × Heap):=match rd H (eK tm y) with
  | some ys=>if zJ s ys=true∧0 < s then match eK tm x with
    | .ms id tot off len=>match H[id]? with
     | some (.blk s' es)=>if s'=s∧es.length=tot∧ys.length ≤ len∧fl ≤ id then (if ys.length=0 then some (.lit (.int .i64 0),H) else some (.lit (.int .i64 ys.length),H.set id (.blk s (jM es off ys)))) else none
     | _=>none
    | _=>none
   else none
  | none=>none
noncomputable def aR0 [GlobT] (s : Nat) (z : List Value) (x : AOpd) (tm : List AV) (H : Heap) : Option (AV × Heap):=match eK tm x with
  | .lit (.slice none 0 0)=>some (.tup [],H)
  | .sl _ []=>some (.tup [],H)
  | .ms id tot off len=>match H[id]? with
   | some (.blk s' es)=>if s'=s∧es.length=tot∧off + len ≤ tot∧fl ≤ id∧0 < s∧z.length=s then (if len=0 then some (.tup [],H) else some (.tup [],H.set id (.blk s (jM es off (List.replicate len (z.map .lit)))))) else none
   | _=>none
  | _=>none
noncomputable def aNy [GlobT] (kt : TypeId) (m : AOpd) (k : AOpd) (tm : List AV) (H : Heap) : Option (AV × Heap):=match lits (eK tm k),eK tm m with
  | some kv,.mp id=>if fl ≤ id then match H[id]? with
    | some (.mp ents)=>match eD P (Instr.checkKey ents.isEmpty 10000 kt kv),aAr P kt kv ents with
     | some _,some (some i)=>some (.lit gD,H.set id (.mp (ents.eraseIdx i)))
     | some _,some none=>some (.lit gD,H)
     | _,_=>none
    | _=>none
   else none
  | _,_=>none
noncomputable def aNs [GlobT] (mx : Bool) (xs : List AOpd) (tm : List AV) (H : Heap) : Option (AV × Heap):=match litL (xs.map (eK tm)) with
  | some vs=>match eD P (if mx then Builtin.max_ #[] 0 vs.toArray else Builtin.min_ #[] 0 vs.toArray) with
   | some r=>some (.lit r,H)
   | none=>none
  | none=>none
noncomputable def aXl [GlobT] (vi : Nat) (caps : List AOpd) (tm : List AV) (H : Heap) : Option (AV × Heap):=some (.fn vi (caps.map (eK tm)),H)
noncomputable def aXu [GlobT] (pu : Bool) (vi : Nat) (args : List AOpd) (tm : List AV) (H : Heap) : Option (AV × Heap):=bA9 mem cf fl pu vi (args.map (eK tm)) H
noncomputable def aR2 [GlobT] (pu : Bool) (x : AOpd) (args : List AOpd) (tm : List AV) (H : Heap) : Option (AV × Heap):=match eK tm x with
  | .fn vi caps=>bA9 mem cf fl pu vi (args.map (eK tm)++caps) H
  | _=>none
noncomputable def aR5 [GlobT] (vi : Nat) (args : List AOpd) (tm : List AV) (H : Heap) : Option (AV × Heap):=cf H.length vi (args.map (eK tm)) H
noncomputable def aR3 [GlobT] (s vi : Nat) (args : List AOpd) (tm : List AV) (H : Heap) : Option (AV × Heap):=aKv s H (cf 0 vi ((args.map (eK tm)).map (nO H)) [])
noncomputable def aR6 [GlobT] (vi : Nat) (args : List AOpd) (tm : List AV) (H : Heap) : Option (AV × Heap):=aYz mem cf vi ((args.map (eK tm)).map (nO H)) H
noncomputable def aR4 [GlobT] (vi : Nat) (args : List AOpd) (tm : List AV) (H : Heap) : Option (AV × Heap):=aYx mem cf vi ((args.map (eK tm)).map (qM H 0)) H
noncomputable def aXt [GlobT] (x : AOpd) (tm : List AV) (H : Heap) : Option (AV × Heap):=match eK tm x with
  | .lit (.slice none 0 0)=>some (.lit (.int .i64 0),H)
  | .sl true es=>some (.lit (.int .i64 es.length),H)
  | _=>none
noncomputable def aK0 [GlobT] (x : AOpd) (i : Nat) (tm : List AV) (H : Heap) : Option (AV × Heap):=match eK tm x with
  | .tup vs=>match vs[i]? with
   | some v=>some (v,H)
   | none=>none
  | _=>none
noncomputable def aH6 [GlobT] (x : AOpd) (tm : List AV) (H : Heap) : Option (AV × Heap):=match eK tm x with
  | .lit (.string s)=>some (.it H.length,H++[.raw (.stringIter s 0)])
  | _=>none
noncomputable def aKx [GlobT] (x : AOpd) (tm : List AV) (H : Heap) : Option (AV × Heap):=match eK tm x with
  | .it id=>if fl ≤ id then match H[id]? with
    | some (.raw (.stringIter s pos))=>if pos < s.size then some (.tup [.lit (.bool true),.lit (.int .i64 pos),.lit (.int .i32 (Utf8.decode s pos).1)],H.set id (.raw (.stringIter s (pos + (Utf8.decode s pos).2)))) else some (.tup [.lit (.bool false)],H)
    | _=>none
   else none
  | _=>none
noncomputable def aNx [GlobT] (x : AOpd) (tm : List AV) (H : Heap) : Option (AV × Heap):=match eK tm x with
  | .ms id tot off len=>if fl ≤ id then match H[id]? with
    | some (.blk s es)=>if es.length=tot then some (.sl false (((es.drop off).take len).map fun e=>e.map toP),H.set id (.blk s (es++[List.replicate s .undef]))) else none
    | _=>none
   else none
  | .ptr id tot idx off=>if fl ≤ id then match H[id]? with
    | some (.blk s es)=>if es.length=tot then match es[idx]? with
      | some e=>some (.sptr ((e.drop off).map toP),H.set id (.blk s (es++[List.replicate s .undef])))
      | none=>none
     else none
    | _=>none
   else none
  | v=>some (v,H)
noncomputable def aK3 [GlobT] (s bytes : Nat) (x y : AOpd) (tm : List AV) (H : Heap) : Option (AV × Heap):=match appP s bytes (eK tm x) (eK tm y) with
  | some v=>some (v,H)
  | none=>none
noncomputable def aRx [GlobT] (n k : Nat) (x : AOpd) (tm : List AV) (H : Heap) : Option (AV × Heap):=match uT H (eK tm x) n with
  | some cs=>match cs[k]? with
   | some (.ms id tot off len)=>if fl ≤ id then match H[id]? with
     | some (.blk s es)=>if es.length=tot then some (.agg (cs.set k (.sl false (((es.drop off).take len).map fun e=>e.map toP))),H.set id (.blk s (es++[List.replicate s .undef]))) else none
     | _=>none
    else none
   | some _=>some (.agg cs,H)
   | none=>none
  | none=>none
noncomputable def bAz [GlobT] (op : AOp) (tm : List AV) (H : Heap) : Option (AV × Heap) :=
 match op with
 | .mov x=>bEh x tm H
 | .movN x=>aXk x tm H
 | .pick c a b=>aXj c a b tm H
 | .alloc z=>aR8 z tm H
 | .claim s=>aR1 s tm H
 | .allocC z cl=>aN0 z cl tm H
 | .box x=>bEi x tm H
 | .build z parts=>aR7 z parts tm H
 | .buildSl pu s n z parts=>aK1 pu s n z parts tm H
 | .load agg n x=>aXm agg n x tm H
 | .store n x v=>aRu fl n x v tm H
 | .nilCheck x=>aH7 x tm H
 | .ibin op x y=>aXq op x y tm H
 | .bin op t x y=>bEj P op t x y tm H
 | .un op x=>k_un P op x tm H
 | .conv src dst x=>aXs P src dst x tm H
 | .fieldAddr off x=>aF8 off x tm H
 | .field agg n off x=>aRz agg n off x tm H
 | .idxAddr s x i=>aKz s x i tm H
 | .idxArr s n x i=>aNw s n x i tm H
 | .index agg s n x i=>aRy agg s n x i tm H
 | .strIdx t x i=>aNr P t x i tm H
 | .slice s x lo hi mx=>aRv s x lo hi mx tm H
 | .strSlice u0 x lo hi=>aH5 u0 x lo hi tm H
 | .mkSlice s z bytes len cap=>aKy s z bytes len cap tm H
 | .mkMap=>aRw  tm H
 | .lookup kt z m k ok=>aNu P kt z m k ok tm H
 | .mapUpd kt m k v=>aNt P fl kt m k v tm H
 | .lenS x=>aXn x tm H
 | .lenM x=>aXo x tm H
 | .lenStr t x=>aNv P t x tm H
 | .lenC n=>aXp n tm H
 | .append s bytes x y=>aNz fl s bytes x y tm H
 | .appendZ s bytes z x n=>aK2 fl s bytes z x n tm H
 | .copy s x y=>aXr fl s x y tm H
 | .clear s z x=>aR0 fl s z x tm H
 | .delete kt m k=>aNy P fl kt m k tm H
 | .minmax mx xs=>aNs P mx xs tm H
 | .mkFn vi caps=>aXl vi caps tm H
 | .call pu vi args=>aXu cf fl mem pu vi args tm H
 | .callv pu x args=>aR2 cf fl mem pu x args tm H
 | .callF vi args=>aR5 cf vi args tm H
 | .callT s vi args=>aR3 cf s vi args tm H
 | .callB vi args=>aR6 cf mem vi args tm H
 | .callS vi args=>aR4 cf mem vi args tm H
 | .capS x=>aXt x tm H
 | .extract x i=>aK0 x i tm H
 | .rangeStr x=>aH6 x tm H
 | .nextStr x=>aKx fl x tm H
 | .freeze x=>aNx fl x tm H
 | .loadF n k x=>aRx fl n k x tm H
 | .appendP s bytes x y=>aK3 s bytes x y tm H
theorem aTz [GlobT] (hmem : aIj mem cf) (op : AOp) (tm : List AV) (H : Heap) : bAz P cf fl mem op tm H=evOp P cf fl op tm H:=by
 cases op <;> simp only [bAz,evOp,bEh,aXk,aXj,aR8,aR1,aN0,bEi,aR7,aK1,aXm,aRu,aH7,aXq,bEj,k_un,aXs,aF8,aRz,aKz,aNw,aRy,aNr,aRv,aH5,aKy,aRw,aNu,aNt,aXn,aXo,aNv,aXp,aNz,aK2,aXr,aR0,aNy,aNs,aXl,aXu,aR2,aR5,aR3,aR6,aR4,aXt,aK0,aH6,aKx,aNx,aRx,aK3,aCc,aU3,aSa,bA8 hmem,aYw hmem,aYy hmem] <;> first | done | rfl
structure OpF where
 f : List AV→Heap→Option (AV × Heap)
noncomputable def opF [GlobT] (op : AOp) : OpF :=
 match op with
 | .mov x=>⟨fun tm H=>bEh x tm H⟩
 | .movN x=>⟨fun tm H=>aXk x tm H⟩
 | .pick c a b=>⟨fun tm H=>aXj c a b tm H⟩
 | .alloc z=>⟨fun tm H=>aR8 z tm H⟩
 | .claim s=>⟨fun tm H=>aR1 s tm H⟩
 | .allocC z cl=>⟨fun tm H=>aN0 z cl tm H⟩
 | .box x=>⟨fun tm H=>bEi x tm H⟩
 | .build z parts=>⟨fun tm H=>aR7 z parts tm H⟩
 | .buildSl pu s n z parts=>⟨fun tm H=>aK1 pu s n z parts tm H⟩
 | .load agg n x=>⟨fun tm H=>aXm agg n x tm H⟩
 | .store n x v=>⟨fun tm H=>aRu fl n x v tm H⟩
 | .nilCheck x=>⟨fun tm H=>aH7 x tm H⟩
 | .ibin op x y=>⟨fun tm H=>aXq op x y tm H⟩
 | .bin op t x y=>⟨fun tm H=>bEj P op t x y tm H⟩
 | .un op x=>⟨fun tm H=>k_un P op x tm H⟩
 | .conv src dst x=>⟨fun tm H=>aXs P src dst x tm H⟩
 | .fieldAddr off x=>⟨fun tm H=>aF8 off x tm H⟩
 | .field agg n off x=>⟨fun tm H=>aRz agg n off x tm H⟩
 | .idxAddr s x i=>⟨fun tm H=>aKz s x i tm H⟩
 | .idxArr s n x i=>⟨fun tm H=>aNw s n x i tm H⟩
 | .index agg s n x i=>⟨fun tm H=>aRy agg s n x i tm H⟩
 | .strIdx t x i=>⟨fun tm H=>aNr P t x i tm H⟩
 | .slice s x lo hi mx=>⟨fun tm H=>aRv s x lo hi mx tm H⟩
 | .strSlice u0 x lo hi=>⟨fun tm H=>aH5 u0 x lo hi tm H⟩
 | .mkSlice s z bytes len cap=>⟨fun tm H=>aKy s z bytes len cap tm H⟩
 | .mkMap=>⟨fun tm H=>aRw  tm H⟩
 | .lookup kt z m k ok=>⟨fun tm H=>aNu P kt z m k ok tm H⟩
 | .mapUpd kt m k v=>⟨fun tm H=>aNt P fl kt m k v tm H⟩
 | .lenS x=>⟨fun tm H=>aXn x tm H⟩
 | .lenM x=>⟨fun tm H=>aXo x tm H⟩
 | .lenStr t x=>⟨fun tm H=>aNv P t x tm H⟩
 | .lenC n=>⟨fun tm H=>aXp n tm H⟩
 | .append s bytes x y=>⟨fun tm H=>aNz fl s bytes x y tm H⟩
 | .appendZ s bytes z x n=>⟨fun tm H=>aK2 fl s bytes z x n tm H⟩
 | .copy s x y=>⟨fun tm H=>aXr fl s x y tm H⟩
 | .clear s z x=>⟨fun tm H=>aR0 fl s z x tm H⟩
 | .delete kt m k=>⟨fun tm H=>aNy P fl kt m k tm H⟩
 | .minmax mx xs=>⟨fun tm H=>aNs P mx xs tm H⟩
 | .mkFn vi caps=>⟨fun tm H=>aXl vi caps tm H⟩
 | .call pu vi args=>⟨fun tm H=>aXu cf fl mem pu vi args tm H⟩
 | .callv pu x args=>⟨fun tm H=>aR2 cf fl mem pu x args tm H⟩
 | .callF vi args=>⟨fun tm H=>aR5 cf vi args tm H⟩
 | .callT s vi args=>⟨fun tm H=>aR3 cf s vi args tm H⟩
 | .callB vi args=>⟨fun tm H=>aR6 cf mem vi args tm H⟩
 | .callS vi args=>⟨fun tm H=>aR4 cf mem vi args tm H⟩
 | .capS x=>⟨fun tm H=>aXt x tm H⟩
 | .extract x i=>⟨fun tm H=>aK0 x i tm H⟩
 | .rangeStr x=>⟨fun tm H=>aH6 x tm H⟩
 | .nextStr x=>⟨fun tm H=>aKx fl x tm H⟩
 | .freeze x=>⟨fun tm H=>aNx fl x tm H⟩
 | .loadF n k x=>⟨fun tm H=>aRx fl n k x tm H⟩
 | .appendP s bytes x y=>⟨fun tm H=>aK3 s bytes x y tm H⟩
theorem bFr [GlobT] (op : AOp) (tm : List AV) (H : Heap) : (opF P cf fl mem op).f tm H=bAz P cf fl mem op tm H:=by cases op <;> rfl
end
end Go.Proofs.YtapabkfjeiknbaaGreat.Av
namespace Go.Proofs.YtapabkfjeiknbaaGreat.Av
open Go
section
variable {R α : Type}
def fL (f : α→(α→R)→R) : List α→(List α→R)→R
 | [],k=>k []
 | x :: r,k=>f x fun x=>fL f r fun r=>k (x :: r)
theorem aCy [GlobT] {f : α→(α→R)→R} (hf : ∀ x k,f x k=k x) : ∀ (l : List α) (k : List α→R),fL f l k=k l
 | [],k=>rfl
 | x :: r,k=>by simp only [fL,hf,aCy hf r]
def fB (b : Bool) (k : Bool→R) : R:=match b with
 | true=>k true
 | false=>k false
theorem bAy (b : Bool) (k : Bool→R) : fB b k=k b:=by cases b <;> rfl
def fN (n : Nat) (k : Nat→R) : R:=match n with
 | 0=>k 0
 | n + 1=>k (n + 1)
theorem bF4 (n : Nat) (k : Nat→R) : fN n k=k n:=by cases n <;> rfl
def fI (n : Int) (k : Int→R) : R:=match n with
 | .ofNat n=>fN n fun n=>k (.ofNat n)
 | .negSucc n=>fN n fun n=>k (.negSucc n)
theorem bI2 [GlobT] (n : Int) (k : Int→R) : fI n k=k n:=by cases n <;> simp only [fI,bF4]
def fV (v : Value) (k : Value→R) : R:=match v with
 | .int kd n=>fI n fun n=>k (.int kd n)
 | .bool b=>fB b fun b=>k (.bool b)
 | v=>k v
theorem bI1 [GlobT] (v : Value) (k : Value→R) : fV v k=k v:=by cases v <;> simp only [fV,bI2,bAy]
def fH (x : AV) (k : AV→R) : R:=match x with
 | .lit v=>fV v fun v=>k (.lit v)
 | .sl f es=>fB f fun f=>k (.sl f es)
 | .ms a b c d=>fN a fun a=>fN b fun b=>fN c fun c=>fN d fun d=>k (.ms a b c d)
 | .ptr a b c d=>fN a fun a=>fN b fun b=>fN c fun c=>fN d fun d=>k (.ptr a b c d)
 | .rptr cs=>k (.rptr cs)
 | .rmp es=>k (.rmp es)
 | .sptr cs=>k (.sptr cs)
 | .vw es=>k (.vw es)
 | .agg cs=>k (.agg cs)
 | .tup cs=>k (.tup cs)
 | .fn v cs=>k (.fn v cs)
 | .mp i=>fN i fun i=>k (.mp i)
 | .it i=>fN i fun i=>k (.it i)
 | .undef=>k .undef
theorem aVc [GlobT] (x : AV) (k : AV→R) : fH x k=k x:=by cases x <;> simp only [fH,bI1,bAy,bF4]
def fA : Nat→AV→(AV→R)→R
 | 0,x,k=>fH x k
 | d + 1,x,k=>match x with
  | .sl f es=>fB f fun f=>fL (fL (fA d)) es fun es=>k (.sl f es)
  | .rptr cs=>fL (fA d) cs fun cs=>k (.rptr cs)
  | .agg cs=>fL (fA d) cs fun cs=>k (.agg cs)
  | .tup cs=>fL (fA d) cs fun cs=>k (.tup cs)
  | .fn v cs=>fL (fA d) cs fun cs=>k (.fn v cs)
  | x=>fH x k
theorem aVd [GlobT] : ∀ (d : Nat) (x : AV) (k : AV→R),fA d x k=k x
 | 0,x,k=>aVc x k
 | d + 1,x,k=>by
  have h:=fun x k=>aVd d x k
  cases x <;> simp only [fA,bAy,aCy h,aCy (aCy h),aVc]
def fO (o : AObj) (k : AObj→R) : R:=match o with
 | .blk s es=>fL (fL fH) es fun es=>k (.blk s es)
 | .mp ents=>fL (fun (e : Value × AV) k=>match e with | (v,x)=>fA 2 x fun x=>k (v,x)) ents fun ents=>k (.mp ents)
 | o=>k o
theorem bAx [GlobT] (o : AObj) (k : AObj→R) : fO o k=k o:=by
 cases o with
 | blk s es=>simp only [fO,aCy (aCy aVc)]
 | mp ents =>
  simp only [fO]
  rw [aCy]
  intro e k
  obtain ⟨v,x⟩:=e
  simp only [aVd]
 | raw q=>rfl
noncomputable def revT {α : Type} (acc : List α) : List α→List α:=List.rec (motive:=fun _=>List α→List α) (fun t=>t) (fun x _ ih t=>ih (x :: t)) acc
theorem aRa [GlobT] {α : Type} : ∀ (acc t : List α),revT acc t=acc.reverse++t
 | [],t=>rfl
 | x :: r,t=>(aRa r (x :: t)).trans (by simp)
def aYn {α : Type} (l : List α) (k : List α→R) : R:=match l with
 | []=>k []
 | y :: ys=>k (y :: ys)
theorem aT9 {α : Type} (l : List α) (k : List α→R) : aYn l k=k l:=by cases l <;> rfl
noncomputable def setG (v : AV) (l : List AV) : Nat→List AV→(List AV→R)→R :=
 List.rec (motive:=fun _=>Nat→List AV→(List AV→R)→R) (fun _ acc k=>aYn (revT acc []) k)
  (fun x r ih n acc k=>Nat.rec (motive:=fun _=>R) (aYn (revT acc (v :: r)) k) (fun m _=>ih m (x :: acc) k) n) l
theorem aV2 [GlobT] (v : AV) : ∀ (l : List AV) (i : Nat) (acc : List AV) (k : List AV→R),setG v l i acc k=k (acc.reverse++l.set i v)
 | [],_,acc,k=>by
  show aYn (revT acc []) k=_
  rw [aT9,aRa]; rfl
 | x :: r,0,acc,k=>by
  show aYn (revT acc (v :: r)) k=_
  rw [aT9,aRa]; rfl
 | x :: r,i + 1,acc,k=>(aV2 v r i (x :: acc) k).trans (by simp)
noncomputable def setF (v : AV) (l : List AV) (i : Nat) (k : List AV→R) : R:=setG v l i [] k
theorem bDl [GlobT] (v : AV) (l : List AV) (i : Nat) (k : List AV→R) : setF v l i k=k (l.set i v):=(aV2 v l i [] k).trans (by simp)
noncomputable def putF (tm : List AV) (d : Option Nat) (v : AV) (k : List AV→R) : R:=match d with
 | some d=>setF v tm d k
 | none=>k tm
theorem aNh [GlobT] (tm : List AV) (d : Option Nat) (v : AV) (k : List AV→R) : putF tm d v k=k (putA tm d v):=by
 cases d <;> simp only [putF,putA,bDl]
def fW (x : AV) (k : AV→R) : R:=match x with
 | .lit v=>k (.lit v)
 | .sl f es=>k (.sl f es)
 | .ms a b c d=>k (.ms a b c d)
 | .ptr a b c d=>k (.ptr a b c d)
 | .rptr cs=>k (.rptr cs)
 | .rmp es=>k (.rmp es)
 | .sptr cs=>k (.sptr cs)
 | .vw es=>k (.vw es)
 | .agg cs=>k (.agg cs)
 | .tup cs=>k (.tup cs)
 | .fn v cs=>k (.fn v cs)
 | .mp i=>k (.mp i)
 | .it i=>k (.it i)
 | .undef=>k .undef
theorem aVb (x : AV) (k : AV→R) : fW x k=k x:=by cases x <;> rfl
def fC (x : AV) (k : AV→R) : R:=match x with
 | .agg cs=>fL fW cs fun cs=>k (.agg cs)
 | .rptr cs=>fL fW cs fun cs=>k (.rptr cs)
 | .tup cs=>fL fW cs fun cs=>k (.tup cs)
 | .fn v cs=>fL fW cs fun cs=>k (.fn v cs)
 | x=>fW x k
theorem aX8 [GlobT] (x : AV) (k : AV→R) : fC x k=k x:=by cases x <;> simp only [fC,aCy aVb,aVb]
def fT (x : AV) (k : AV→R) : R:=match x with
 | .tup cs=>fL fC cs fun cs=>k (.tup cs)
 | x=>fC x k
theorem bF2 [GlobT] (x : AV) (k : AV→R) : fT x k=k x:=by cases x <;> simp only [fT,aCy aX8,aX8]
def fS (x : AV) (k : AV→R) : R:=match x with
 | .sl f es=>fB f fun f=>fL (fun e k=>k e) es fun es=>k (.sl f es)
 | x=>fH x k
theorem bF3 [GlobT] (x : AV) (k : AV→R) : fS x k=k x:=by cases x <;> simp only [fS,bAy,aCy (fun _ _=>rfl),aVc]
def bA6 : AOp→Nat
 | .mov _=>0
 | .pick ..=>0
 | .load ..=>1
 | .loadF ..=>1
 | .nilCheck _=>0
 | .fieldAddr ..=>1
 | .field ..=>1
 | .idxAddr ..=>1
 | .extract ..=>1
 | .lookup ..=>2
 | .build ..=>1
 | .box _=>3
 | .alloc _=>3
 | .claim _=>3
 | .allocC ..=>3
 | .append ..=>3
 | .ibin ..=>3
 | .bin ..=>3
 | .un ..=>3
 | .conv ..=>3
 | .lenS _=>3
 | .lenM _=>3
 | .lenStr ..=>3
 | .strIdx ..=>3
 | .slice ..=>4
 | .mkFn ..=>1
 | .call pu ..=>match pu with | true=>9 | false=>2
 | .callv pu ..=>match pu with | true=>9 | false=>2
 | .callF ..=>2
 | .callT ..=>2
 | .callS ..=>2
 | .callB ..=>2
 | .store ..=>0
 | .mapUpd ..=>0
 | _=>9
def fRes (op : AOp) (v : AV) (k : AV→R) : R:=match bA6 op with
 | 0=>fW v k
 | 1=>fC v k
 | 2=>fT v k
 | 3=>fH v k
 | 4=>fS v k
 | _=>fA 8 v k
theorem bEn [GlobT] (op : AOp) (v : AV) (k : AV→R) : fRes op v k=k v:=by
 unfold fRes
 split
 ·exact aVb _ _
 ·exact aX8 _ _
 ·exact bF2 _ _
 ·exact aVc _ _
 ·exact bF3 _ _
 ·exact aVd _ _ _
noncomputable def fAt (l : Heap) : Nat→(Heap→R)→R :=
 List.rec (motive:=fun _=>Nat→(Heap→R)→R) (fun _ k=>k []) (fun o r ih n k=>Nat.rec (motive:=fun _=>R) (fO o fun o=>fL (fun o k=>k o) r fun r=>k (o :: r)) (fun m _=>ih m fun r=>k (o :: r)) n) l
theorem bB1 [GlobT] : ∀ (l : Heap) (i : Nat) (k : Heap→R),fAt l i k=k l
 | [],_,k=>rfl
 | o :: r,0,k=>by
  show fO o (fun o=>fL (fun o k=>k o) r fun r=>k (o :: r))=_
  rw [bAx,aCy (fun _ _=>rfl)]
 | o :: r,i + 1,k=>(bB1 r i fun r=>k (o :: r))
noncomputable def bD6 (n : Nat) (x : AV) : Nat:=match x with
 | .ptr id _ _ _=>id
 | .ms id _ _ _=>id
 | .mp id=>id
 | _=>n
noncomputable def fHp [GlobT] (op : AOp) (tm : List AV) (n : Nat) (H : Heap) (k : Heap→R) : R:=match pD op with
 | true=>k H
 | false=>match op with
  | .store _ x _=>fAt H (bD6 n (eK tm x)) k
  | .append _ _ x _=>fAt H (bD6 n (eK tm x)) k
  | .mapUpd _ x _ _=>fAt H (bD6 n (eK tm x)) k
  | .alloc _=>fAt H n k
  | .box _=>fAt H n k
  | .claim _=>fAt H n k
  | .buildSl _ _ _ _ _=>fAt H n k
  | .mkMap=>fAt H n k
  | .mkSlice _ _ _ _ _=>fAt H n k
  | .call _ _ _=>k H
  | .callv _ _ _=>k H
  | .callF _ _=>k H
  | .callT _ _ _=>fAt H n k
  | _=>fL fO H k
theorem bB0 [GlobT] (op : AOp) (tm : List AV) (n : Nat) (H : Heap) (k : Heap→R) : fHp op tm n H k=k H:=by
 unfold fHp
 split
 ·rfl
 ·split <;> first | exact bB1 _ _ _ | rfl | exact aCy bAx _ _
def fSt (st : St) (k : St→R) : R:=fL (fA 3) st.tmps fun tm=>fL fO st.heap fun H=>k ⟨tm,H⟩
theorem bBz [GlobT] (st : St) (k : St→R) : fSt st k=k st:=by simp only [fSt,aCy (aVd 3),aCy bAx]
end
section
variable (P : Program) (cf : Nat→Nat→List AV→Heap→Option (AV × Heap)) (mem : Nat→List AV→Option AV)
noncomputable def bDd (tm : List AV) (g : Option (Nat × Bool)) : Option Bool:=match g with
 | none=>some true
 | some (t,want)=>match getK tm t with
  | .lit (.bool b)=>some (b == want)
  | .lit _=>some false
  | _=>none
theorem aZi [GlobT] (tm : List AV) (g : Option (Nat × Bool)) : bDd tm g=xP tm g:=by
 cases g with
 | none=>rfl
 | some q=>simp only [bDd,xP,aN3,dU]; rfl
noncomputable def aN7 [GlobT] (fl : Nat) (o : AOper) (st : St) : Option St :=
 match bDd st.tmps o.guard with
 | some true=>match bAz P cf fl mem o.op st.tmps st.heap with
  | some (v,H)=>fRes o.op v fun v=>putF st.tmps o.dst v fun tm=>fHp o.op st.tmps st.heap.length H fun H=>some ⟨tm,H⟩
  | none=>none
 | some false=>putF st.tmps o.dst (.lit gD) fun tm=>some ⟨tm,st.heap⟩
 | none=>none
theorem aMs [GlobT] (hmem : aIj mem cf) (fl : Nat) (o : AOper) (st : St) : aN7 P cf mem fl o st=jK P cf fl o st:=by
 unfold aN7 jK
 simp only [bEn,aNh,bB0,aTz P cf fl mem hmem,aZi]
 rfl
noncomputable def aTy [GlobT] (fl : Nat) : List AOper→St→Option St
 | [],st=>some st
 | o :: r,st=>match aN7 P cf mem fl o st with
  | some st=>aTy fl r st
  | none=>none
theorem aP1 [GlobT] (hmem : aIj mem cf) (fl : Nat) : ∀ (l : List AOper) (st : St),aTy P cf mem fl l st=yW P cf fl l st
 | [],st=>rfl
 | o :: r,st=>by
  simp only [aTy,yW,aMs P cf mem hmem]
  cases h : jK P cf fl o st with
  | none=>rfl
  | some st1=>exact aP1 hmem fl r _
noncomputable def aN6 [GlobT] (fl : Nat) : List AOper→St→Option (List St)
 | [],st=>some [st]
 | o :: r,st=>match aN7 P cf mem fl o st with
  | some st1=>match aN6 fl r st1 with
   | some l=>some (st :: l)
   | none=>none
  | none=>none
theorem aMr [GlobT] (hmem : aIj mem cf) (fl : Nat) : ∀ (l : List AOper) (st : St),aN6 P cf mem fl l st=aAs P cf fl l st
 | [],st=>rfl
 | o :: r,st=>by
  simp only [aN6,aAs,aMs P cf mem hmem]
  cases h : jK P cf fl o st with
  | none=>rfl
  | some st1=>simp only [aMr hmem fl r]; rfl
noncomputable def aTw [GlobT] (fl : Nat) (ck : List (Nat × Nat)) (ops : List AOper) (st : St) : Option St:=match ck with
 | []=>aTy P cf mem fl ops st
 | c :: r=>match aN6 P cf mem fl ops st with
  | some l=>match aVk ops l (c :: r) with
   | true=>l.getLast?
   | false=>none
  | none=>none
theorem aP0 [GlobT] (hmem : aIj mem cf) (fl : Nat) (ck : List (Nat × Nat)) (ops : List AOper) (st : St) : aTw P cf mem fl ck ops st=aFb P cf fl ck ops st:=by
 cases ck with
 | nil=>exact aP1 P cf mem hmem fl ops st
 | cons c r=>simp only [aTw,aFb,aMr P cf mem hmem]; rfl
def fSw {R : Type} (tr : Bool) (st : St) (k : St→R) : R:=match tr with
 | true=>fL (fA 3) st.tmps fun tm=>fL fO st.heap fun H=>k ⟨tm,H⟩
 | false=>fL fW st.tmps fun tm=>k ⟨tm,st.heap⟩
theorem bBy [GlobT] {R : Type} (tr : Bool) (st : St) (k : St→R) : fSw tr st k=k st:=by
 cases tr
 ·simp only [fSw,aCy aVb]
 ·simp only [fSw,aCy (aVd 3),aCy bAx]
def aIh (tr : Bool) (head : St→St) (step : St→Option (AExit × St)) : Nat→St→Option (AExit × St)
 | 0,_=>none
 | n + 1,st=>match fSw tr (head st) step with
  | some (.normal,st)=>aIh tr head step n st
  | r=>r
theorem aEz [GlobT] (tr : Bool) (head : St→St) (step : St→Option (AExit × St)) : ∀ (n : Nat) (st : St),aIh tr head step n st=zI head step n st
 | 0,_=>rfl
 | n + 1,st=>by
  simp only [aIh,zI,bBy]
  cases h : step (head st) with
  | none=>rfl
  | some r =>
   obtain ⟨x,s⟩:=r
   cases x with
   | normal=>exact aEz tr head step n _
   | exit i=>rfl
   | ret=>rfl
def fRet (tr : Bool) (r : Option (AExit × St)) : Option (AExit × St):=match r with
 | some (x,st)=>fSw tr st fun st=>some (x,st)
 | none=>none
theorem aIg [GlobT] (tr : Bool) (r : Option (AExit × St)) : fRet tr r=r:=by
 unfold fRet
 split
 ·simp only [bBy]
 ·rfl
noncomputable def evCK [GlobT] (lf fl : Nat) : ACode→St→Option (AExit × St)
 | .skip,st=>some (.normal,st)
 | .region _ ck ops,st=>match aTw P cf mem fl ck ops st with
  | some st=>some (.normal,st)
  | none=>none
 | .seq a b,st=>match evCK lf fl a st with
  | some (.normal,st)=>evCK lf fl b st
  | r=>r
 | .cond c a b,st=>match eK st.tmps c with
  | .lit (.bool true)=>evCK lf fl a st
  | .lit (.bool false)=>evCK lf fl b st
  | _=>none
 | .block id c,st=>match evCK lf fl c st with
  | some (.exit i,st)=>if i=id then some (.normal,st) else some (.exit i,st)
  | r=>r
 | .loop live tr c,st=>aIh tr (eO live tr fl st.heap.length) (fun st=>evCK lf fl c st) lf st
 | .exit id,st=>some (.exit id,st)
 | .ret,st=>some (.ret,st)
 | .frz t c,st=>match evOp P cf fl (.freeze (.tmp t)) st.tmps st.heap with
  | some (v,H)=>fSt ⟨st.tmps.set t v,H⟩ fun st=>evCK lf fl c st
  | none=>none
 | .mask lx lr tr c,st=>fRet tr (eT lx lr tr fl st.heap.length (evCK lf fl c st))
 | .told li lx lr c,st=>fRet false (eT lx lr false fl st.heap.length (evCK lf fl c ⟨xE li st.tmps,st.heap⟩))
 | .scope c,st=>evCK lf fl c st
 | .nilIf t d0 d1 a b,st=>match (Nat.blt d0 st.tmps.length && Nat.blt d1 st.tmps.length) with
  | true=>match nilK st.heap (dU st.tmps (.tmp t)) with
   | 0=>aGu (fSt ⟨aD5 st.tmps t d0 d1 true,st.heap⟩ fun st=>evCK lf fl a st)
   | 1=>fSt ⟨aD5 st.tmps t d0 d1 false,st.heap⟩ fun st=>evCK lf fl b st
   | 2=>match Nat.beq fl st.heap.length with
    | true=>fRet true (aU5 st.heap (fSt ⟨aD5 st.tmps t d0 d1 true,st.heap⟩ fun st=>evCK lf fl a st) (fSt ⟨aD5 st.tmps t d0 d1 false,st.heap⟩ fun st=>evCK lf fl b st))
    | false=>none
   | _=>none
  | false=>none
 | .loopV live lx lr t c,st=>match aUu fl t st with
  | some st1=>fRet true (aRq lx lr t fl st.heap.length (aIh true (aH8 live t fl st.heap.length) (fun st=>evCK lf fl c st) lf st1))
  | none=>none
 | .stop,_=>none
theorem sW [GlobT] (hmem : aIj mem cf) (lf fl : Nat) : ∀ (c : ACode) (st : St),evCK P cf mem lf fl c st=evC P cf lf fl c st
 | .skip,st=>rfl
 | .region _ ck ops,st=>by simp only [evCK,evC,aP0 P cf mem hmem]; rfl
 | .seq a b,st=>by
  simp only [evCK,evC,sW hmem lf fl a]
  cases h : evC P cf lf fl a st with
  | none=>rfl
  | some r =>
   obtain ⟨x,s⟩:=r
   cases x with
   | normal=>exact sW hmem lf fl b _
   | exit i=>rfl
   | ret=>rfl
 | .cond c a b,st=>by simp only [evCK,evC,sW hmem lf fl a,sW hmem lf fl b,aCc]; rfl
 | .block id c,st=>by simp only [evCK,evC,sW hmem lf fl c]; rfl
 | .loop live tr c,st=>by
  have h : (fun st=>evCK P cf mem lf fl c st)=fun st=>evC P cf lf fl c st:=funext fun st=>sW hmem lf fl c st
  simp only [evCK,evC,aEz,h]
 | .exit id,st=>rfl
 | .ret,st=>rfl
 | .frz t c,st=>by
  simp only [evCK,evC,bBz,sW hmem lf fl c]; rfl
 | .mask lx lr tr c,st=>by simp only [evCK,evC,aIg,sW hmem lf fl c]
 | .told li lx lr c,st=>by simp only [evCK,evC,aIg,sW hmem lf fl c]
 | .scope c,st=>by simp only [evCK,evC,sW hmem lf fl c]
 | .nilIf t d0 d1 a b,st=>by simp only [evCK,evC,aIg,bBz,sW hmem lf fl a,sW hmem lf fl b]; rfl
 | .loopV live lx lr t c,st=>by
  have h : (fun st=>evCK P cf mem lf fl c st)=fun st=>evC P cf lf fl c st:=funext fun st=>sW hmem lf fl c st
  simp only [evCK,evC,aIg,aEz,h]; rfl
 | .stop,st=>rfl
end
structure StF where
 f : St→Option St
structure RunF where
 f : St→Option (AExit × St)
section
variable (P : Program) (cf : Nat→Nat→List AV→Heap→Option (AV × Heap)) (mem : Nat→List AV→Option AV)
def dF {R : Type} (d : Nat) (v : AV) (k : AV→R) : R:=match d with
 | 0=>fW v k
 | 1=>fC v k
 | 2=>fT v k
 | 3=>fH v k
 | 4=>fS v k
 | _=>fA 8 v k
theorem bI8 [GlobT] {R : Type} (d : Nat) (v : AV) (k : AV→R) : dF d v k=k v:=by
 unfold dF
 split <;> first | exact aVb _ _ | exact aX8 _ _ | exact bF2 _ _ | exact aVc _ _ | exact bF3 _ _ | exact aVd _ _ _
noncomputable def resF [GlobT] (d : Nat) (g : List AV→Heap→Option (AV × Heap)) (dst : Option Nat) (op : AOp) (q : Bool) : St→Option St:=fun st =>
 match g st.tmps st.heap with
 | some (v,H)=>dF d v fun v=>putF st.tmps dst v fun tm=>match q with
   | true=>some ⟨tm,H⟩
   | false=>fHp op st.tmps st.heap.length H fun H=>some ⟨tm,H⟩
 | none=>none
noncomputable def bDz [GlobT] (fl : Nat) (o : AOper) : StF :=
 match o with
 | ⟨dst,op,guard⟩=>match opF P cf fl mem op with
  | ⟨g⟩=>match guard with
   | none=>⟨resF (bA6 op) g dst op (pD op)⟩
   | some (t,want)=>⟨fun st=>match getK st.tmps t with
    | .lit (.bool b)=>match b == want with
     | true=>resF (bA6 op) g dst op (pD op) st
     | false=>putF st.tmps dst (.lit gD) fun tm=>some ⟨tm,st.heap⟩
    | .lit _=>putF st.tmps dst (.lit gD) fun tm=>some ⟨tm,st.heap⟩
    | _=>none⟩
theorem aZ7 [GlobT] (hmem : aIj mem cf) (fl : Nat) (o : AOper) (st : St) : (bDz P cf mem fl o).f st=jK P cf fl o st:=by
 obtain ⟨dst,op,guard⟩:=o
 have hres : ∀ st,resF (bA6 op) (opF P cf fl mem op).f dst op (pD op) st=match evOp P cf fl op st.tmps st.heap with
   | some (v,H)=>some ⟨putA st.tmps dst v,H⟩
   | none=>none:=by
  intro st
  unfold resF
  rw [bFr,aTz P cf fl mem hmem]
  cases he : evOp P cf fl op st.tmps st.heap with
  | none=>rfl
  | some x =>
   obtain ⟨v,H⟩:=x
   simp only
   have hq : ∀ tm,(match pD op with | true=>some (⟨tm,H⟩ : St) | false=>fHp op st.tmps st.heap.length H fun H=>some ⟨tm,H⟩)=some ⟨tm,H⟩:=by
    intro tm
    split
    ·rfl
    ·exact bB0 _ _ _ _ _
   rw [bI8,aNh]
   exact hq _
 unfold bDz jK
 cases guard with
 | none =>
  simp only [xP]
  exact hres st
 | some q =>
  obtain ⟨t,want⟩:=q
  simp only [xP,aN3,dU]
  cases hg : st.tmps[t]? with
  | none=>simp only [gD,aNh]
  | some x =>
   cases x with
   | lit v =>
    cases v <;> simp only [aNh]
    rename_i b
    cases hb : (b == want) with
    | true=>simp only; exact hres st
    | false=>simp only
   | _=>rfl
noncomputable def opsF [GlobT] (fl : Nat) : List AOper→StF
 | []=>⟨fun st=>some st⟩
 | o :: r=>match bDz P cf mem fl o with
  | ⟨f⟩=>match opsF fl r with
   | ⟨g⟩=>⟨fun st=>match f st with
    | some st=>g st
    | none=>none⟩
theorem aWq [GlobT] (hmem : aIj mem cf) (fl : Nat) : ∀ (l : List AOper) (st : St),(opsF P cf mem fl l).f st=yW P cf fl l st
 | [],st=>rfl
 | o :: r,st=>by
  have ih:=aWq hmem fl r
  have h1:=aZ7 P cf mem hmem fl o st
  simp only [opsF,yW]
  rw [h1]
  cases h : jK P cf fl o st with
  | none=>rfl
  | some st1=>exact ih st1
noncomputable def runF [GlobT] (lf fl : Nat) : ACode→RunF
 | .skip=>⟨fun st=>some (.normal,st)⟩
 | .region _ ck ops=>match ck with
  | []=>match opsF P cf mem fl ops with
   | ⟨f⟩=>⟨fun st=>match f st with
    | some st=>some (.normal,st)
    | none=>none⟩
  | c :: r=>⟨fun st=>match aTw P cf mem fl (c :: r) ops st with
   | some st=>some (.normal,st)
   | none=>none⟩
 | .seq a b=>match runF lf fl a with
  | ⟨f⟩=>match runF lf fl b with
   | ⟨g⟩=>⟨fun st=>match f st with
    | some (.normal,st)=>g st
    | r=>r⟩
 | .cond c a b=>match runF lf fl a with
  | ⟨f⟩=>match runF lf fl b with
   | ⟨g⟩=>⟨fun st=>match eK st.tmps c with
    | .lit (.bool true)=>f st
    | .lit (.bool false)=>g st
    | _=>none⟩
 | .block id c=>match runF lf fl c with
  | ⟨f⟩=>⟨fun st=>match f st with
   | some (.exit i,st)=>if i=id then some (.normal,st) else some (.exit i,st)
   | r=>r⟩
 | .loop live tr c=>match runF lf fl c with
  | ⟨f⟩=>⟨fun st=>aIh tr (eO live tr fl st.heap.length) f lf st⟩
 | .exit id=>⟨fun st=>some (.exit id,st)⟩
 | .ret=>⟨fun st=>some (.ret,st)⟩
 | .mask lx lr tr c=>match runF lf fl c with
  | ⟨f⟩=>⟨fun st=>fRet tr (eT lx lr tr fl st.heap.length (f st))⟩
 | .told li lx lr c=>match runF lf fl c with
  | ⟨f⟩=>⟨fun st=>fRet false (eT lx lr false fl st.heap.length (f ⟨xE li st.tmps,st.heap⟩))⟩
 | .scope c=>runF lf fl c
 | .frz t c=>⟨fun st=>evCK P cf mem lf fl (.frz t c) st⟩
 | .nilIf t d0 d1 a b=>⟨fun st=>evCK P cf mem lf fl (.nilIf t d0 d1 a b) st⟩
 | .loopV live lx lr t c=>⟨fun st=>evCK P cf mem lf fl (.loopV live lx lr t c) st⟩
 | .stop=>⟨fun _=>none⟩
theorem aBb [GlobT] (hmem : aIj mem cf) (lf fl : Nat) : ∀ (c : ACode) (st : St),(runF P cf mem lf fl c).f st=evC P cf lf fl c st
 | .skip,st=>rfl
 | .region d ck ops,st=>by
  cases ck with
  | nil =>
   have h:=aWq P cf mem hmem fl ops st
   simp only [runF,evC,aFb]
   rw [h]
   rfl
  | cons c r =>
   simp only [runF,evC,aP0 P cf mem hmem]
   rfl
 | .seq a b,st=>by
  have h1:=aBb hmem lf fl a st
  have h2:=aBb hmem lf fl b
  simp only [runF,evC]
  rw [h1]
  cases h : evC P cf lf fl a st with
  | none=>rfl
  | some r =>
   obtain ⟨x,s⟩:=r
   cases x with
   | normal=>exact h2 s
   | exit i=>rfl
   | ret=>rfl
 | .cond c a b,st=>by
  have h1:=aBb hmem lf fl a st
  have h2:=aBb hmem lf fl b st
  simp only [runF,evC,aCc]
  rw [← h1,← h2]
  rfl
 | .block id c,st=>by
  have h1:=aBb hmem lf fl c st
  simp only [runF,evC]
  rw [h1]
  rfl
 | .loop live tr c,st=>by
  have h : (runF P cf mem lf fl c).f=fun st=>evC P cf lf fl c st:=funext fun st=>aBb hmem lf fl c st
  simp only [runF,evC,aEz]
  rw [← h]
 | .exit id,st=>rfl
 | .ret,st=>rfl
 | .mask lx lr tr c,st=>by
  have h1:=aBb hmem lf fl c st
  simp only [runF,evC,aIg]
  rw [h1]
 | .told li lx lr c,st=>by
  have h1:=aBb hmem lf fl c ⟨xE li st.tmps,st.heap⟩
  simp only [runF,evC,aIg]
  rw [h1]
 | .scope c,st=>by
  have h1:=aBb hmem lf fl c st
  simp only [runF,evC]
  exact h1
 | .frz t c,st=>sW P cf mem hmem lf fl (.frz t c) st
 | .nilIf t d0 d1 a b,st=>sW P cf mem hmem lf fl (.nilIf t d0 d1 a b) st
 | .loopV live lx lr t c,st=>sW P cf mem hmem lf fl (.loopV live lx lr t c) st
 | .stop,st=>rfl
end
def finK [GlobT] (F : AFun) (st : St) : Option (AV × Heap):=match aGp st F.rets with
 | some vs=>fL fC vs fun vs=>some (aL1 vs,st.heap)
 | none=>none
noncomputable def evFK [GlobT] (P : Program) (T : List AFun) (M : Memo) : Nat→Nat→Nat→List AV→Heap→Option (AV × Heap)
 | 0,_,_,_,_=>none
 | n + 1,fl,vi,args,H =>
  match GlobT.prim vi with
  | some g=>g.run (evFK P T M n) fl args H
  | none =>
  match T[vi]? with
  | none=>none
  | some F=>fL fC args fun args=>fL fW (args++List.replicate (F.nt - args.length) (.lit gD)) fun tm =>
   match runF P (evFK P T M n) (fun vi args=>aRs n vi args M) n fl F.body with
   | ⟨f⟩=>match f ⟨tm,H⟩ with
    | some (.normal,st)=>finK F st
    | some (.ret,st)=>finK F st
    | _=>none
theorem bAq [GlobT] {P : Program} {T : List AFun} {M : Memo} (hM : iA P T M) (n : Nat) : aIj (fun vi args=>aRs n vi args M) (evF P T n):=by
 intro vi args r h
 exact aJp M hM h
theorem aYd [GlobT] {P : Program} {T : List AFun} {M : Memo} (hM : iA P T M) : ∀ n,evFK P T M n=evF P T n
 | 0=>rfl
 | n + 1=>by
  funext fl vi args H
  simp only [evFK,evF,aCy aX8,aCy aVb,aYd hM n,finK]
  cases hP : GlobT.prim vi with
  | some g=>rfl
  | none =>
  cases hT : T[vi]? with
  | none=>rfl
  | some F =>
   simp only
   rw [aBb P (evF P T n) _ (bAq hM n)]
   rfl
theorem gI [GlobT] {P : Program} {T : List AFun} {n vi : Nat} {args : List AV} {r : AV} (M : Memo) (hM : iA P T M) (h : (match evFK P T M n 0 vi args [] with | some (r,H')=>some (mI H' 0 r) | none=>none)=some r) : pv P T n vi args=some r:=by
 rw [aYd hM] at h
 unfold pv
 exact h
end Go.Proofs.YtapabkfjeiknbaaGreat.Av
namespace Go.Proofs.YtapabkfjeiknbaaGreat.Av
open Go Go.Proofs Go.RowKit Go.Shelf Go.Sort
def allO {α : Type} : List (Option α)→Option (List α)
 | []=>some []
 | x :: r=>match x with
  | none=>none
  | some a=>match allO r with
   | none=>none
   | some l=>some (a :: l)
def shwR (agg : Bool) (x : List AV) : AV:=match agg with
 | true=>.agg x
 | false=>match x with
  | []=>.undef
  | y :: _=>y
def detO (H : Heap) (id s : Nat) (es : List (List AV)) : Heap:=H.set id (.blk s (es++[List.replicate s .undef]))
def cmpR (cf : CF) (vc : Nat) (caps : List AV) (H Hd : Heap) (x y : AV) : Option (AV × Heap):=match caps with
 | []=>cf 0 vc ([x,y].map (nO H)) []
 | _ :: _=>cf Hd.length vc (x :: y :: caps) Hd
def cmpG (cf : CF) (vc : Nat) (caps : List AV) (agg : Bool) (H Hd : Heap) (x y : List AV) : Option Int :=
 match cmpR cf vc caps H Hd (shwR agg x) (shwR agg y) with
 | none=>none
 | some p=>match p.1 with
  | .lit v=>match v with
   | .int k z=>match k with
    | .i64=>some z
    | _=>none
   | _=>none
  | _=>none
def tabG {β : Type} (f : β→β→Option Int) (rows : List β) : Option (List (List Int)):=allO (rows.map fun x=>allO (rows.map fun y=>f x y))
def at2 (tb : List (List Int)) (i j : Nat) : Int:=match tb[i]? with
 | none=>0
 | some r=>match r[j]? with
  | none=>0
  | some z=>z
def ltT (tb : List (List Int)) (i j : Nat) : Bool:=decide (at2 tb i j < 0)
def swoB (n : Nat) (tb : List (List Int)) : Bool:=(List.range n).all fun i=>!(ltT tb i i) && (List.range n).all fun j=>(List.range n).all fun k =>
 match ltT tb i j with
 | true=>!(ltT tb j k) || ltT tb i k
 | false=>ltT tb j k || !(ltT tb i k)
def ixG (m : Nat) (tb : List (List Int)) : List Nat:=((pdq (ltOf fun (x y : Fin (m + 1))=>at2 tb x.1 y.1) (Array.ofFn fun i=>i) 0 (m + 1) (Lib.bitLen (m + 1)) true true).toList).map Fin.val
def aI2 {β : Type} (d : β) (rows : List β) (i : Nat) : β:=match rows[i]? with
 | none=>d
 | some x=>x
def aDe : AV→Bool
 | .sl _ es=>es.isEmpty
 | .vw es=>es.isEmpty
 | .ms _ _ _ len=>Nat.beq len 0
 | .lit v=>match v with
  | .slice a len cap=>match a with
   | none=>Nat.beq len 0 && Nat.beq cap 0
   | some _=>false
  | _=>false
 | _=>false
def aFr (cf : CF) (agg : Bool) (s : Nat) (fl : Nat) (args : List AV) (H : Heap) : Option (AV × Heap):=match args with
 | []=>none
 | x :: r=>match r with
  | []=>none
  | y :: q=>match q with
   | _ :: _=>none
   | []=>match aDe x with
    | true=>some (.tup [],H)
    | false=>match y with
     | .fn vc caps=>match x with
      | .ms id tot off len=>match Nat.ble fl id with
       | false=>none
       | true=>match H[id]? with
        | none=>none
        | some o=>match o with
         | .blk s' es=>match len with
          | 0=>none
          | m + 1=>match (Nat.beq s' s && Nat.beq es.length tot && Nat.ble (off + (m + 1)) tot && Nat.ble tot 1000000) with
           | false=>none
           | true=>match tabG (cmpG cf vc caps agg (outO H id) (detO H id s es)) ((es.drop off).take (m + 1)) with
            | none=>none
            | some tb=>match swoB (m + 1) tb with
             | false=>none
             | true=>some (.tup [],H.set id (.blk s (es.take off++(ixG m tb).map (aI2 [] ((es.drop off).take (m + 1)))++es.drop (off + (m + 1)))))
         | _=>none
      | _=>none
     | _=>none
theorem aJ6 {cf : Nat→Nat→List AV→Heap→Option (AV × Heap)} {agg : Bool} {s fl : Nat} {args : List AV} {H H' : Heap} {r : AV} (h : aFr cf agg s fl args H=some (r,H')) :
  (∃ x y,args=[x,y]∧aDe x=true∧r=.tup []∧H'=H) ∨
  ∃ id off m vc caps es tb,args=[.ms id es.length off (m + 1),.fn vc caps]∧fl ≤ id∧H[id]? = some (.blk s es)∧off + (m + 1) ≤ es.length∧es.length ≤ 1000000 ∧
   tabG (cmpG cf vc caps agg (outO H id) (detO H id s es)) ((es.drop off).take (m + 1))=some tb∧swoB (m + 1) tb=true∧r=.tup [] ∧
   H'=H.set id (.blk s (es.take off++(ixG m tb).map (aI2 [] ((es.drop off).take (m + 1)))++es.drop (off + (m + 1)))):=by
 unfold aFr at h
 repeat' split at h
 all_goals first
  | (cases h; done)
  | skip
 ·rename_i he
  cases h
  exact .inl ⟨_,_,rfl,he,rfl,rfl⟩
 ·rename_i hfl _ _ _ es hob _ _ _ _ hc _ tb htb _ hsw
  cases h
  simp only [Bool.and_eq_true] at hc
  obtain ⟨⟨⟨h1,h2⟩,h3⟩,h4⟩:=hc
  have e1:=Nat.eq_of_beq_eq_true h1
  have e2:=Nat.eq_of_beq_eq_true h2
  have e3:=Nat.le_of_ble_eq_true h3
  have e4:=Nat.le_of_ble_eq_true h4
  subst e1 e2
  exact .inr ⟨_,_,_,_,_,_,tb,rfl,Nat.le_of_ble_eq_true hfl,hob,e3,e4,htb,hsw,rfl,rfl⟩
theorem aLq {α : Type} : ∀ {l : List (Option α)} {r : List α},allO l=some r→r.length=l.length∧∀ i (h : i < l.length),l[i]? = some r[i]?
 | [],r,h=>by cases h; exact ⟨rfl,fun i h=>by simp at h⟩
 | none :: l,r,h=>by simp [allO] at h
 | some a :: l,r,h=>by
  simp only [allO] at h
  split at h
  ·cases h
  ·rename_i q hq
   cases h
   obtain ⟨h1,h2⟩:=aLq hq
   refine ⟨by simp [h1],fun i hi=>?_⟩
   cases i with
   | zero=>rfl
   | succ i=>simpa using h2 i (by simpa using hi)
theorem bDg {β : Type} {f : β→β→Option Int} {rows : List β} {tb : List (List Int)} (h : tabG f rows=some tb) {i j : Nat} {x y : β} (hi : rows[i]? = some x) (hj : rows[j]? = some y) : f x y=some (at2 tb i j):=by
 obtain ⟨h1,h2⟩:=aLq h
 have hil : i < rows.length:=by
  rcases Nat.lt_or_ge i rows.length with h | h
  ·exact h
  ·rw [List.getElem?_eq_none h] at hi; cases hi
 have hjl : j < rows.length:=by
  rcases Nat.lt_or_ge j rows.length with h | h
  ·exact h
  ·rw [List.getElem?_eq_none h] at hj; cases hj
 have k1:=h2 i (by simpa using hil)
 rw [List.getElem?_map,hi,Option.map_some,Option.some.injEq] at k1
 cases hr : tb[i]? with
 | none=>rw [hr] at k1; cases hq : allO (rows.map fun y=>f x y) with
  | none =>
   rw [List.getElem?_eq_none_iff,h1] at hr
   simp at hr
   omega
  | some _=>rw [hq] at k1; cases k1
 | some r =>
  rw [hr] at k1
  obtain ⟨g1,g2⟩:=aLq k1
  have k2:=g2 j (by simpa using hjl)
  rw [List.getElem?_map,hj,Option.map_some,Option.some.injEq] at k2
  rw [k2]
  cases hz : r[j]? with
  | none =>
   rw [List.getElem?_eq_none_iff,g1] at hz
   simp at hz
   omega
  | some z=>simp [at2,hr,hz]
theorem aM8 {m : Nat} {tb : List (List Int)} (h : swoB (m + 1) tb=true) : SWO (ltOf fun (x y : Fin (m + 1))=>at2 tb x.1 y.1):=by
 unfold swoB at h
 simp only [List.all_eq_true,List.mem_range,Bool.and_eq_true,Bool.not_eq_true'] at h
 replace h : ∀ i,i < m + 1→ltT tb i i=false∧∀ j,j < m + 1→∀ k,k < m + 1→(match ltT tb i j with | true=>!(ltT tb j k) || ltT tb i k | false=>ltT tb j k || !(ltT tb i k))=true:=h
 have e : ∀ x y : Fin (m + 1),ltOf (fun (x y : Fin (m + 1))=>at2 tb x.1 y.1) x y=ltT tb x.1 y.1:=fun _ _=>rfl
 refine ⟨fun x=>?_,fun x y z h1 h2=>?_,fun x y z h1 h2=>?_⟩
 ·rw [e]; exact (h x.1 x.2).1
 ·have k:=(h x.1 x.2).2 y.1 y.2 z.1 z.2
  rw [e] at *
  rw [h1,h2] at k
  simpa using k
 ·have k:=(h x.1 x.2).2 y.1 y.2 z.1 z.2
  rw [e] at *
  rw [h1,h2] at k
  simpa using k
theorem bBt {c c' : Ctx} {fl : Nat} (h : Step fl c c') (hb : ∀ k,k < c.w.heap.size→c'.w.heap[k]? = c.w.heap[k]?) : ∃ q os,c'.w=grow (c.w.drewN q) os:=by
 refine ⟨c'.w.drawn - c.w.drawn,c'.w.heap.extract c.w.heap.size c'.w.heap.size,?_⟩
 have e1:=h.os
 have e2:=h.tape
 have e3:=h.output
 have e4 : c.w.drawn + (c'.w.drawn - c.w.drawn)=c'.w.drawn:=by have:=h.drawn; omega
 have e5 : c'.w.heap=c.w.heap++c'.w.heap.extract c.w.heap.size c'.w.heap.size:=by
  apply Array.ext_getElem?
  intro i
  rcases Nat.lt_or_ge i c.w.heap.size with hi | hi
  ·rw [Array.getElem?_append_left hi]
   exact hb i hi
  ·rw [Array.getElem?_append_right hi,Array.getElem?_extract]
   have hs:=h.size
   by_cases hlt : i < c'.w.heap.size
   ·rw [if_pos (by omega)]
    congr 1
    omega
   ·rw [if_neg (by omega),Array.getElem?_eq_none (by omega)]
 unfold grow World.drewN
 cases hw : c'.w with
 | mk heap tape drawn os output =>
  rw [hw] at e1 e2 e3 e4 e5
  simp only at e1 e2 e3 e4 e5
  simp only [e4,← e5,← e1,← e2,← e3]
theorem bBl {c : Ctx} {q : Nat} {os : Array Obj} : Step 0 (bare c) ⟨grow (Sort.ahead c.w q) os,(bare c).X,fun _=>none,[]⟩ where
 X:=rfl
 os:=rfl
 tape:=rfl
 output:=rfl
 drawn:=Nat.le_add_right _ _
 size:=by show c.w.heap.size ≤ (c.w.heap++os).size; rw [Array.size_append]; exact Nat.le_add_right _ _
 len:=Nat.le_refl _
 frame:=fun k hk _=>by
  have hk' : k < c.w.heap.size:=hk
  show (c.w.heap++os)[k]? = c.w.heap[k]?
  rw [Array.getElem?_append_left hk']
 img:=fun id b h=>by cases h
 blkS:=fun id s n h=>by simp [bare,shp] at h
 mpS:=fun id h=>by obtain ⟨e,he,_⟩:=h; simp [bare] at he
 floor:=fun id h=>by omega
def argU (agg : Bool) (l : List Value) : Value:=match agg with
 | true=>.agg l.toArray
 | false=>l[0]!
def CmpU {α : Type} [Inhabited α] (P : Program) (agg : Bool) (g : Nat) (cb : Array Value) (enc : α→List Value) (k : Nat) (cf : α→α→Int) (blk off size : Nat) (w : World) : Prop :=
 ∀ (m : Nat) (os : Array Obj) (dk : Array α),dk.size=size→∀ x y : α,
  Calls P g (#[argU agg (enc x),argU agg (enc y)]++cb) (sortWorldK enc k w blk off m dk os) fun e w'=>e=.returned (.int .i64 (cf x y))∧∃ q os',w'=grow ((sortWorldK enc k w blk off m dk os).drewN q) os'
def aIi (P : Program) (agg : Bool) (f k : Nat) : Prop:=∀ (m : Nat) (enc : Fin (m + 1)→List Value),(∀ x,(enc x).length=k)→(∀ x,∀ v ∈ enc x,v.oneCell'=true) →
 ∀ (cf : Fin (m + 1)→Fin (m + 1)→Int),SWO (ltOf cf)→∀ (g : Nat) (cb : Array Value) (blk off cap : Nat) (d : Array (Fin (m + 1))) (w : World),
  (∀ args w,(callFunc g args).run P w=.ok (.enter g args) w)→CmpU P agg g cb enc k cf blk off d.size w→HoldsK enc k w blk off d→blk < w.heap.size→d.size < 4611686018427387904 →
  Calls P f #[.slice (some ⟨blk,off,none⟩) d.size cap,.func (.func g) #[] cb] w fun e w' =>
   e=.returned (.tuple #[])∧∃ n os,w'=sortWorldK enc k w blk off n (pdq (ltOf cf) d 0 d.size (Lib.bitLen d.size) true true) os
def aHg (P : Program) (f : Nat) : Prop:=∀ (p : Option Addr) (cap : Nat) (fv : Value) (w : World),Calls P f #[.slice p 0 cap,fv] w fun e w'=>e=.returned (.tuple #[])∧w'=w
theorem aT3 {FT : Nat→Option Nat} {c : Ctx} {x : AV} {v : Value} (he : aDe x=true) (h : RV FT c x v) : ∃ p cap,v=.slice p 0 cap:=by
 unfold aDe at he
 split at he
 ·rename_i f es
  have : es=[]:=by simpa using he
  subst this
  cases h with
  | pure _ _ hp=>cases hp with
   | nil f a cap _=>exact ⟨_,_,rfl⟩
   | sl f es b off cap c T fz s vals hne=>exact absurd rfl hne
 ·rename_i es
  have : es=[]:=by simpa using he
  subst this
  cases h with
  | pure _ _ hp=>cases hp
  | vnil a cap=>exact ⟨_,_,rfl⟩
  | vw es b off cap cc T fz s vals hne=>exact absurd rfl hne
 ·rename_i len
  have:=Nat.eq_of_beq_eq_true he
  subst this
  cases h with
  | pure _ _ hp=>cases hp
  | ms id tot off len a cap s n=>exact ⟨_,_,rfl⟩
 ·rename_i v'
  have:=h.lit_inv
  subst this
  split at he
  ·rename_i a len cap
   split at he
   ·simp only [Bool.and_eq_true] at he
    have e1:=Nat.eq_of_beq_eq_true he.1
    subst e1
    exact ⟨_,_,rfl⟩
   ·cases he
  ·cases he
 ·cases he
theorem aOc {es : List (List AV)} {i j : Nat} {e : List AV} (he : es[i]? = some e) : hZ es i j=e[j]?:=by simp [hZ,he]
section
variable {P : Program} {T : List AFun}
theorem aNa [GlobT] {cf : Nat→Nat→List AV→Heap→Option (AV × Heap)} (hcf : CfOK P T cf) (hfn : aEj P T) {agg : Bool} {f s : Nat} (hagg : agg=false→s=1) (hL : aIi P agg f s) (hN : aHg P f)
  {fl : Nat} {args : List AV} {r : AV} {H' : Heap} {c : Ctx} {vs : Array Value} (hev : aFr cf agg s fl args c.H=some (r,H')) (hs : Sim (ftOf T) c) (hargs : aGh (ftOf T) c args vs) :
  Calls P f vs c.w fun e w'=>∃ v c',e=.returned v∧c'.w=w'∧c'.H=H'∧c'.X=c.X∧Step fl c c'∧Sim (ftOf T) c'∧RV (ftOf T) c' r v:=by
 rcases aJ6 hev with ⟨x,y,rfl,he,rfl,rfl⟩ | ⟨id,off,m,vc,caps,es,tb,rfl,hfl,hob,hwin,hbig,htb,hsw,rfl,rfl⟩
 ·obtain ⟨u0,k0,r0⟩:=hargs.2 0 _ rfl
  obtain ⟨u1,k1,r1⟩:=hargs.2 1 _ rfl
  obtain ⟨p,cap,rfl⟩:=aT3 he r0
  have hvs : vs=#[.slice p 0 cap,u1]:=by
   apply Array.ext
   ·exact hargs.1
   ·intro i hi1 hi2
    have hi3 : i < 2:=by simpa using hi2
    match i,hi3 with
    | 0,_=>exact Option.some.inj ((Array.getElem?_eq_getElem hi1).symm.trans (by simpa using k0))
    | 1,_=>exact Option.some.inj ((Array.getElem?_eq_getElem hi1).symm.trans (by simpa using k1))
  subst hvs
  refine (hN p cap u1 c.w).mono fun e w' ⟨he,hw⟩=>?_
  subst hw
  exact ⟨_,c,he,rfl,rfl,rfl,Step.refl fl c,hs,.tup [] #[] (fun _=>gD) rfl (fun i x hx=>by simp at hx) (fun i x hx=>by simp at hx)⟩
 obtain ⟨u0,k0,r0⟩:=hargs.2 0 _ rfl
 obtain ⟨u1,k1,r1⟩:=hargs.2 1 _ rfl
 obtain ⟨a,cap,s',n,rfl,g1,g2,g3,g4⟩:=r0.ms_inv
 have hsh : s'=s∧n=es.length:=by
  simp only [shp,hob] at g1
  simpa [eq_comm] using g1
 obtain ⟨rfl,rfl⟩:=hsh
 obtain ⟨hml,hms⟩:=g4 rfl
 rcases hms with ⟨_,h0,_⟩ | ⟨b,cs,ty,a',hb,hcs,hsz,rfl,hadr⟩
 ·omega
 have hcap : cap ≠ 0:=by omega
 obtain rfl:=hadr hcap
 obtain ⟨g,cv,vals,rfl,hvc,hcv,hcv1,hcv2⟩ : ∃ g cv,∃ vals : Nat→Value,u1=.func (.func g) #[] cv∧ftOf T vc=some g∧cv.size=caps.length∧(∀ i x,caps[i]? = some x→cv[i]? = some (vals i))∧∀ i x,caps[i]? = some x→RV (ftOf T) c x (vals i):=by
  cases r1 with
  | pure _ _ h=>cases h
  | fn vi f caps cv vals hf h1 h2 h3=>exact ⟨_,_,_,rfl,hf,h1,h2,h3⟩
 have hvs : vs=#[.slice (some ⟨b,off * s',none⟩) (m + 1) cap,.func (.func g) #[] cv]:=by
  apply Array.ext
  ·exact hargs.1
  ·intro i hi1 hi2
   have hi3 : i < 2:=by simpa using hi2
   match i,hi3 with
   | 0,_=>exact Option.some.inj ((Array.getElem?_eq_getElem hi1).symm.trans (by simpa using k0))
   | 1,_=>exact Option.some.inj ((Array.getElem?_eq_getElem hi1).symm.trans (by simpa using k1))
 subst hvs
 obtain ⟨fn,hf1,hf2,hf3⟩:=hfn vc g hvc
 obtain ⟨code,hcode⟩:=Option.isSome_iff_exists.1 hf2
 obtain ⟨cs2,ty2,hc2,hfit,hcell⟩:=hs.blk id s' _ b hob hb
 rw [hcs] at hc2
 cases hc2
 have hlens:=hs.lens id s' es hob
 have hblk : b < c.w.heap.size:=hs.lt hb
 have hrow : ∀ i,i < m + 1→∃ e,es[off + i]? = some e∧e.length=s':=by
  intro i hi
  have hlt : off + i < es.length:=by omega
  exact ⟨es[off + i],List.getElem?_eq_getElem hlt,hlens _ (List.getElem_mem hlt)⟩
 have hreal : ∀ i,i < m + 1→∀ j,j < s'→∃ x v,hZ es (off + i) j=some x∧cs[(off + i) * s' + j]? = some v∧gA v=true∧RV (ftOf T) c x v:=by
  intro i hi j hj
  obtain ⟨e,he,hel⟩:=hrow i hi
  have hx : hZ es (off + i) j=some e[j]:=by rw [aOc he,List.getElem?_eq_getElem (by omega)]
  obtain ⟨v,h1,h2,h3⟩:=hcell _ _ _ hx
  exact ⟨_,v,hx,h1,h2,h3⟩
 let enc : Fin (m + 1)→List Value:=fun i=>(List.range s').map fun j=>(cs[(off + i.1) * s' + j]?).getD gD
 have henc_len : ∀ x,(enc x).length=s':=fun x=>by simp [enc]
 have henc_at : ∀ (x : Fin (m + 1)) j,j < s'→(enc x)[j]? = cs[(off + x.1) * s' + j]?:=by
  intro x j hj
  obtain ⟨_,v,_,h1,_,_⟩:=hreal x.1 x.2 j hj
  simp only [enc]
  rw [List.getElem?_map,List.getElem?_range hj,Option.map_some,h1]
  rfl
 have henc_one : ∀ x,∀ v ∈ enc x,v.oneCell'=true:=by
  intro x v hv
  obtain ⟨j,hj,hjv⟩:=List.getElem_of_mem hv
  have hj' : j < s':=by simpa [enc] using hj
  obtain ⟨_,v',_,h1,h2,_⟩:=hreal x.1 x.2 j hj'
  have:=henc_at x j hj'
  rw [List.getElem?_eq_getElem hj,hjv,h1] at this
  cases this
  rw [← aHo]; exact h2
 let d0 : Array (Fin (m + 1)):=Array.ofFn fun i=>i
 have hd0 : d0.size=m + 1:=by simp [d0]
 have hd0at : ∀ i (h : i < m + 1),d0[i]! = ⟨i,h⟩:=by
  intro i h
  simp [d0,h]
 have hH : HoldsK enc s' c.w b (off * s') d0:=by
  intro t ht
  rw [size_flatK] at ht
  rw [get_flatK _ _ _ _ ht]
  rw [hd0] at ht
  have hpos : 0 < s':=by
   rcases Nat.eq_zero_or_pos s' with h | h
   ·subst h; simp at ht
   ·exact h
  have hlt : t / s' < m + 1:=Nat.div_lt_of_lt_mul (by rw [Nat.mul_comm]; exact ht)
  have hmod:=Nat.mod_lt t hpos
  have e1 : off * s' + t=(off + t / s') * s' + t % s':=by
   have:=Nat.div_add_mod t s'
   rw [Nat.add_mul,Nat.mul_comm (t / s') s']; omega
  obtain ⟨_,v,_,h1,_,_⟩:=hreal (t / s') hlt (t % s') hmod
  have h2:=henc_at ⟨t / s',hlt⟩ (t % s') hmod
  rw [hd0at _ hlt]
  refine ⟨?_,by simp [World.frozen?,hcs]⟩
  rw [List.getElem!_eq_getElem?_getD,h2,h1]
  simp only [World.cell?,hcs,e1]
  simpa using h1
 have hcmp : CmpU P agg g cv enc s' (fun x y=>at2 tb x.1 y.1) b (off * s') d0.size c.w:=by
  intro mm os dk _ x y
  have hsame : aEi c b (sortWorldK enc s' c.w b (off * s') mm dk os):=by
   refine ⟨?_,fun k o hk ho=>?_⟩
   ·show _ ≤ ((putRowK enc s' (Sort.ahead c.w mm) b (off * s') dk).heap++os).size
    rw [Array.size_append]
    unfold putRowK putRow mapBlock
    simp [Sort.ahead]
   ·show ((putRowK enc s' (Sort.ahead c.w mm) b (off * s') dk).heap++os)[k]? = some o
    have hkl : k < c.w.heap.size:=by
     rcases Nat.lt_or_ge k c.w.heap.size with h | h
     ·exact h
     ·rw [Array.getElem?_eq_none h] at ho; cases ho
    have e : (putRowK enc s' (Sort.ahead c.w mm) b (off * s') dk).heap[k]? = c.w.heap[k]?:=by
     unfold putRowK putRow mapBlock
     rw [Array.getElem?_modify,if_neg (Ne.symm hk)]
     rfl
    have hsz2 : (putRowK enc s' (Sort.ahead c.w mm) b (off * s') dk).heap.size=c.w.heap.size:=by
     unfold putRowK putRow mapBlock
     simp [Sort.ahead]
    rw [Array.getElem?_append_left (by rw [hsz2]; exact hkl),e]
    exact ho
  generalize sortWorldK enc s' c.w b (off * s') mm dk os=W at hsame ⊢
  obtain ⟨ex,hex,hexl⟩:=hrow x.1 x.2
  obtain ⟨ey,hey,heyl⟩:=hrow y.1 y.2
  have hrx : ((es.drop off).take (m + 1))[x.1]? = some ex:=by rw [List.getElem?_take,if_pos x.2,List.getElem?_drop]; exact hex
  have hry : ((es.drop off).take (m + 1))[y.1]? = some ey:=by rw [List.getElem?_take,if_pos y.2,List.getElem?_drop]; exact hey
  have hcg:=bDg htb hrx hry
  have hrv : ∀ (z : Fin (m + 1)) (e : List AV),es[off + z.1]? = some e→e.length=s'→RV (ftOf T) c (shwR agg e) (argU agg (enc z)):=by
   intro z e he hel
   have hall : ∀ (j : Nat) x,e[j]? = some x→(enc z)[j]? = some ((enc z)[j]?.getD gD)∧gA ((enc z)[j]?.getD gD)=true∧RV (ftOf T) c x ((enc z)[j]?.getD gD):=by
    intro j x hx
    have hj : j < s':=by
     rcases Nat.lt_or_ge j s' with h | h
     ·exact h
     ·rw [List.getElem?_eq_none (by omega)] at hx; cases hx
    have hx' : hZ es (off + z.1) j=some x:=by rw [aOc he]; exact hx
    obtain ⟨v,h1,h2,h3⟩:=hcell _ _ _ hx'
    rw [henc_at z j hj,h1]
    exact ⟨rfl,h2,h3⟩
   cases agg with
   | true =>
    refine .agg e (enc z).toArray (fun (j : Nat)=>(enc z)[j]?.getD gD) (by simp [henc_len,hel]) (fun (j : Nat) x hx=>?_) fun (j : Nat) x hx=>(hall j x hx).2.2
    exact ⟨by simpa using (hall j x hx).1,(hall j x hx).2.1⟩
   | false =>
    have h1:=hagg rfl
    subst h1
    obtain ⟨y,rfl⟩ : ∃ y,e=[y]:=by
     match e,hel with
     | [y],_=>exact ⟨y,rfl⟩
    have:=(hall 0 y rfl).2.2
    simp only [shwR,argU]
    rw [List.getElem!_eq_getElem?_getD]
    cases hq : (enc z)[0]? with
    | none =>
     rw [List.getElem?_eq_none_iff,henc_len] at hq
     omega
    | some u=>rw [hq] at this; exact this
  have hres : ∀ z H1,cmpR cf vc caps (outO c.H id) (detO c.H id s' es) (shwR agg ex) (shwR agg ey)=some (.lit (.int .i64 z),H1) →
    Calls P g (#[argU agg (enc x),argU agg (enc y)]++cv) W fun e w'=>e=.returned (.int .i64 z)∧∃ q os',w'=grow (W.drewN q) os':=by
   intro z H1 hp
   unfold cmpR at hp
   split at hp
   ·have hargs' : aGh (ftOf T) (cmpC c W) ([shwR agg ex,shwR agg ey].map (nO (outO c.H id))) (#[argU agg (enc x),argU agg (enc y)]++cv):=by
     have hcv0 : cv=#[]:=Array.eq_empty_of_size_eq_zero (by simpa using hcv)
     subst hcv0
     refine ⟨by simp,fun i z hz=>?_⟩
     rw [List.getElem?_map,Option.map_eq_some_iff] at hz
     obtain ⟨z0,hz0,rfl⟩:=hz
     match i,hz0 with
     | 0,hz0=>cases hz0; exact ⟨argU agg (enc x),rfl,aOp hs hb hsame (hrv x ex hex hexl)⟩
     | 1,hz0=>cases hz0; exact ⟨argU agg (enc y),rfl,aOp hs hb hsame (hrv y ey hey heyl)⟩
     | i + 2,hz0=>simp at hz0
    refine (hcf 0 vc g _ _ H1 (cmpC c W) _ hp hvc (bDk hs hb hsame) (Nat.zero_le _) hargs').mono fun e w' hq=>?_
    obtain ⟨v,c',rfl,rfl,_,_,hst,_,hr⟩:=hq
    exact ⟨by rw [hr.lit_inv],bBt hst fun k hk=>hst.frame k hk fun id hid=>by cases hid⟩
   ·rename_i c0 cr
    have hargs' : aGh (ftOf T) (detW c W id s' es) (shwR agg ex :: shwR agg ey :: c0 :: cr) (#[argU agg (enc x),argU agg (enc y)]++cv):=by
     refine ⟨by simp [hcv]; omega,fun i z hz=>?_⟩
     match i,hz with
     | 0,hz=>cases hz; exact ⟨argU agg (enc x),by rw [Array.getElem?_append_left (by simp)]; rfl,aJ9 hs hb hsame hob (hrv x ex hex hexl)⟩
     | 1,hz=>cases hz; exact ⟨argU agg (enc y),by rw [Array.getElem?_append_left (by simp)]; rfl,aJ9 hs hb hsame hob (hrv y ey hey heyl)⟩
     | i + 2,hz =>
      have hz1 : (c0 :: cr)[i]? = some z:=by simpa using hz
      refine ⟨vals i,?_,aJ9 hs hb hsame hob (hcv2 i z hz1)⟩
      rw [Array.getElem?_append_right (by simp)]
      simpa using hcv1 i z hz1
    have hsd:=aZr hs hb hsame hob
    refine (hcf _ vc g _ _ H1 (detW c W id s' es) _ hp hvc hsd (Nat.le_refl _) hargs').mono fun e w' hq=>?_
    obtain ⟨v,c',rfl,rfl,_,_,hst,_,hr⟩:=hq
    refine ⟨by rw [hr.lit_inv],bBt hst fun k hk=>?_⟩
    by_cases hbk : ∃ i,(detW c W id s' es).β i=some k
    ·obtain ⟨i,hi⟩:=hbk
     exact (hst.floor i (hsd.dom i k hi)).2.2 k hi
    ·exact hst.frame k hk fun i hi=>hbk ⟨i,hi⟩
  unfold cmpG at hcg
  split at hcg
  ·cases hcg
  rename_i p hp
  split at hcg
  ·rename_i v hv
   split at hcg
   ·rename_i k z
    split at hcg
    ·cases hcg
     obtain ⟨r1,H1⟩:=p
     simp only at hv
     subst hv
     exact hres _ H1 hp
    ·cases hcg
   ·cases hcg
  ·cases hcg
 have main:=hL m enc henc_len henc_one _ (aM8 hsw) g cv b (off * s') cap d0 c.w (enters_of hf1 hf3 hcode) hcmp hH hblk (by omega)
 rw [hd0] at main
 refine main.mono fun e w' ⟨he,q,os,hw⟩=>?_
 generalize hd : pdq (ltOf fun (x y : Fin (m + 1))=>at2 tb x.1 y.1) d0 0 (m + 1) (Lib.bitLen (m + 1)) true true=d at hw
 have hdsz : d.size=m + 1:=by
  have h:=(pdq_sorts (ltOf fun (x y : Fin (m + 1))=>at2 tb x.1 y.1) (aM8 hsw) d0 0 (m + 1) (Lib.bitLen (m + 1)) true true (Nat.zero_le _) (by rw [hd0]; exact Nat.le_refl _) (Or.inl rfl)).1.1
  rw [hd,hd0] at h
  exact h
 have hix : ixG m tb=d.toList.map Fin.val:=by rw [← hd]; rfl
 rw [hix]
 generalize hes' : es.take off++(d.toList.map Fin.val).map (aI2 [] ((es.drop off).take (m + 1)))++es.drop (off + (m + 1))=es'
 have htake : (es.take off).length=off:=by simp; omega
 have hmid : ((d.toList.map Fin.val).map (aI2 [] ((es.drop off).take (m + 1)))).length=m + 1:=by simp [hdsz]
 have hlen' : es'.length=es.length:=by
  rw [← hes',List.length_append,List.length_append,htake,hmid,List.length_drop]; omega
 have hget0 : ∀ i,i < off→es'[i]? = es[i]?:=by
  intro i hi
  rw [← hes',List.getElem?_append_left (by rw [List.length_append]; omega),List.getElem?_append_left (by omega),List.getElem?_take,if_pos hi]
 have hget2 : ∀ i,off + (m + 1) ≤ i→es'[i]? = es[i]?:=by
  intro i hi
  rw [← hes',List.getElem?_append_right (by rw [List.length_append]; omega),List.length_append,htake,hmid,List.getElem?_drop]
  congr 1
  omega
 have hget1 : ∀ q (hq : q < m + 1),es'[off + q]? = es[off + (d[q]'(by rw [hdsz]; exact hq)).1]?:=by
  intro q hq
  have hk:=(d[q]'(by rw [hdsz]; exact hq)).2
  obtain ⟨e,he,_⟩:=hrow _ hk
  rw [← hes',List.getElem?_append_left (by rw [List.length_append]; omega),List.getElem?_append_right (by omega),htake,Nat.add_sub_cancel_left,List.getElem?_map,List.getElem?_map,Array.getElem?_toList,Array.getElem?_eq_getElem (by rw [hdsz]; exact hq),he]
  simp only [Option.map_some,Option.some.injEq]
  unfold aI2
  rw [List.getElem?_take,if_pos hk,List.getElem?_drop,he]
 have hw1 : (putRowK enc s' (Sort.ahead c.w q) b (off * s') d).heap[b]? = some (.cells (putCells _root_.id (off * s') (flatK enc s' d) cs) ty (0,0)):=by
  unfold putRowK putRow mapBlock
  simp [Array.getElem?_modify,Sort.ahead,hcs,onCells]
 have hother : ∀ k,k ≠ b→(putRowK enc s' (Sort.ahead c.w q) b (off * s') d).heap[k]? = c.w.heap[k]?:=by
  intro k hk
  unfold putRowK putRow mapBlock
  rw [Array.getElem?_modify,if_neg (Ne.symm hk)]
  rfl
 have hsize : (putRowK enc s' (Sort.ahead c.w q) b (off * s') d).heap.size=c.w.heap.size:=by
  unfold putRowK putRow mapBlock
  simp [Sort.ahead]
 have hcsz : (putCells _root_.id (off * s') (flatK enc s' d) cs).size=cs.size:=by simp [putCells]
 have hput : ∀ t,t < cs.size→(putCells _root_.id (off * s') (flatK enc s' d) cs)[t]? = if off * s' ≤ t∧t < off * s' + (m + 1) * s' then some ((flatK enc s' d)[t - off * s']!) else cs[t]?:=by
  intro t ht
  unfold putCells
  rw [Array.getElem?_mapIdx,Array.getElem?_eq_getElem ht,size_flatK,hdsz]
  simp only [Option.map_some]
  split <;> rfl
 have hcells : ∀ i j x,hZ es' i j=some x→∃ v,(putCells _root_.id (off * s') (flatK enc s' d) cs)[i * s' + j]? = some v∧gA v=true∧RV (ftOf T) c x v:=by
  intro i j x hx
  obtain ⟨e,hei,hej⟩:=jJ hx
  have hi : i < es.length:=by
   rcases Nat.lt_or_ge i es'.length with h | h
   ·omega
   ·rw [List.getElem?_eq_none h] at hei; cases hei
  by_cases hin : off ≤ i∧i < off + (m + 1)
  ·obtain ⟨q9,rfl⟩ : ∃ q9,i=off + q9:=⟨i - off,by omega⟩
   have hq' : q9 < m + 1:=by omega
   rw [hget1 q9 hq'] at hei
   have hk:=(d[q9]'(by rw [hdsz]; exact hq')).2
   generalize hkk : (d[q9]'(by rw [hdsz]; exact hq'))=k at hei hk
   have hel : e.length=s':=hlens e (List.mem_of_getElem? hei)
   have hj : j < s':=by
    rcases Nat.lt_or_ge j e.length with h | h
    ·omega
    ·rw [List.getElem?_eq_none h] at hej; cases hej
   obtain ⟨v,h1,h2,h3⟩:=hcell (off + k.1) j x (by rw [aOc hei]; exact hej)
   refine ⟨v,?_,h2,h3⟩
   have hle : (off + q9) * s' + s' ≤ es.length * s':=by
    have : (off + q9 + 1) * s' ≤ es.length * s':=Nat.mul_le_mul_right _ (by omega)
    rw [Nat.add_mul _ 1,Nat.one_mul] at this
    exact this
   have hle2 : q9 * s' + s' ≤ (m + 1) * s':=by
    have : (q9 + 1) * s' ≤ (m + 1) * s':=Nat.mul_le_mul_right _ (by omega)
    rw [Nat.add_mul q9 1,Nat.one_mul] at this
    exact this
   have e0 : (off + q9) * s'=off * s' + q9 * s':=Nat.add_mul _ _ _
   rw [hput _ (by omega),if_pos ⟨by omega,by omega⟩]
   have e1 : (off + q9) * s' + j - off * s'=q9 * s' + j:=by omega
   rw [e1,get_flatK _ _ _ _ (by rw [hdsz]; omega)]
   have e2 : (q9 * s' + j) / s'=q9:=by
    rw [Nat.mul_comm,Nat.mul_add_div (by omega),Nat.div_eq_of_lt hj,Nat.add_zero]
   have e3 : (q9 * s' + j) % s'=j:=by
    rw [Nat.mul_comm,Nat.mul_add_mod,Nat.mod_eq_of_lt hj]
   rw [e2,e3]
   have e4 : d[q9]! = k:=by
    rw [getElem!_pos d q9 (by rw [hdsz]; exact hq')]; exact hkk
   rw [e4,List.getElem!_eq_getElem?_getD,henc_at k j hj,h1]
   rfl
  ·have hei' : es[i]? = some e:=by
    rcases Nat.lt_or_ge i off with h | h
    ·rw [← hget0 i h]; exact hei
    ·rw [← hget2 i (by omega)]; exact hei
   have hel : e.length=s':=hlens e (List.mem_of_getElem? hei')
   have hj : j < s':=by
    rcases Nat.lt_or_ge j e.length with h | h
    ·omega
    ·rw [List.getElem?_eq_none h] at hej; cases hej
   obtain ⟨v,h1,h2,h3⟩:=hcell i j x (by rw [aOc hei']; exact hej)
   refine ⟨v,?_,h2,h3⟩
   have hle : i * s' + s' ≤ es.length * s':=by
    have : (i + 1) * s' ≤ es.length * s':=Nat.mul_le_mul_right _ (by omega)
    rw [Nat.add_mul i 1,Nat.one_mul] at this
    exact this
   rw [hput _ (by omega),if_neg,h1]
   rintro ⟨q1,q2⟩
   rcases Nat.lt_or_ge i off with h | h
   ·have : (i + 1) * s' ≤ off * s':=Nat.mul_le_mul_right _ (by omega)
    rw [Nat.add_mul i 1,Nat.one_mul] at this
    omega
   ·have : (off + (m + 1)) * s' ≤ i * s':=Nat.mul_le_mul_right _ (by omega)
    rw [Nat.add_mul off] at this
    omega
 have hlens' : ∀ e ∈ es',e.length=s':=by
  intro e he
  obtain ⟨i,hi⟩:=List.getElem?_of_mem he
  rcases Nat.lt_or_ge i off with h | h
  ·rw [hget0 i h] at hi; exact hlens e (List.mem_of_getElem? hi)
  ·rcases Nat.lt_or_ge i (off + (m + 1)) with h2 | h2
   ·obtain ⟨q9,rfl⟩ : ∃ q9,i=off + q9:=⟨i - off,by omega⟩
    rw [hget1 q9 (by omega)] at hi; exact hlens e (List.mem_of_getElem? hi)
   ·rw [hget2 i h2] at hi; exact hlens e (List.mem_of_getElem? hi)
 have hst1:=aAv (w':=putRowK enc s' (Sort.ahead c.w q) b (off * s') d) (es':=es') hs hfl hob hb hcs (by omega) hcsz hw1 hother hsize rfl rfl rfl (Nat.le_add_right _ _)
 have hsim1:=aFt (w':=putRowK enc s' (Sort.ahead c.w q) b (off * s') d) (es':=es') hs hob hb hcs (by omega) hcsz hw1 hother hsize rfl rfl rfl hlens' (by rw [hcsz,hlen']; exact hfit) hcells (Nat.le_add_right _ _)
 generalize hc1 : (⟨putRowK enc s' (Sort.ahead c.w q) b (off * s') d,c.X,c.β,c.H.set id (.blk s' es')⟩ : Ctx)=c1 at hst1 hsim1
 have hst2:=bBl (c:=c1) (q:=0) (os:=os)
 refine ⟨.tuple #[],back c1 ⟨grow (Sort.ahead c1.w 0) os,(bare c1).X,fun _=>none,[]⟩,he,?_,?_,?_,hst1.trans (aEf hsim1 hst2),aHc hsim1 hst2,?_⟩
 ·rw [hw,← hc1]
  rfl
 ·rw [← hc1]; rfl
 ·rw [← hc1]; rfl
 ·exact .tup [] #[] (fun _=>gD) rfl (fun i x hx=>by simp at hx) (fun i x hx=>by simp at hx)
end
end Go.Proofs.YtapabkfjeiknbaaGreat.Av
namespace Go.Proofs.YtapabkfjeiknbaaGreat.Av
open Go
def pvK2 [GlobT] (P : Program) (T : List AFun) (n s vi : Nat) (args : List AV) : Option (List (List AV) × AV):=match evF P T n 0 vi args [] with
 | none=>none
 | some p=>match p.1 with
  | .tup [x,.lit v]=>match aO8 s p.2 x with
   | none=>none
   | some rows=>some (rows,.lit v)
  | _=>none
section
variable {P : Program} {T : List AFun} {n s vi id fl : Nat} {args args' : List AV} {r : AV} {H H' : Heap} {α : Type} {c : α→List AV} {l : List α}
theorem aRc [GlobT] {v : Value} {rows : List (List AV)} (h : evF P T n 0 vi args []=some (.tup [r,.lit v],H')) (k : aO8 s H' r=some rows) : pvK2 P T n s vi args=some (rows,.lit v):=by
 simp only [pvK2,h,k]
theorem aNg (hH : H[id]? = some (.blk s (l.map c))) (hc : ∀ x,(c x).map (lD (H.set id (.blk s (l.map c++[List.replicate s .undef]))) 0 nV)=c x) : aO8 s H (.ms id l.length 0 l.length)=some (l.map c):=by
 have e1 : Nat.beq 0 0=true:=rfl
 have e2 : Nat.beq l.length l.length=true:=Nat.beq_refl _
 have e3 : Nat.beq s s=true:=Nat.beq_refl _
 simp only [aO8,e1,e2,e3,hH,List.length_map,Bool.and_self,List.map_map]
 exact congrArg some (List.map_congr_left fun x _=>hc x)
theorem aXi [GlobT] {v : Value} (h : args.map (nO H)=args') (k : pvK2 P T n s vi args'=some (l.map c,.lit v)) :
  aKv s H (evF P T n 0 vi (args.map (nO H)) [])=some (.tup [.ms H.length l.length 0 l.length,.lit v],H++[.blk s (l.map c)]):=by
 unfold pvK2 at k
 simp only [h,aKv]
 split at k
 ·cases k
 rename_i p hp
 rw [hp]
 simp only
 split at k
 ·rename_i x _ he
  split at k
  ·cases k
  rename_i rows hr
  cases k
  rw [he]
  have e : List.all [AV.lit v] bF0=true:=rfl
  simp only [e,hr]
  simp
 ·cases k
end
theorem aVi [GlobT] {P : Program} {T : List AFun} {n vi : Nat} {args : List AV} {kk : IntKind} {z : Int} (h : pv P T n vi args=some (.lit (.int kk z))) : ∃ H',evF P T n 0 vi args []=some (.lit (.int kk z),H'):=by
 unfold pv at h
 split at h
 ·rename_i r H' he
  simp only [Option.some.injEq] at h
  refine ⟨H',?_⟩
  rw [he]
  cases r with
  | lit v =>
   simp only [mI,qM,jX,nrmV] at h
   revert h
   split
   ·split
    ·split
     ·split
      ·intro h; cases h
      ·intro h; cases h
     ·intro h; cases h
    ·intro h; cases h
   ·intro h; simp only [AV.lit.injEq] at h; rw [h]
  | agg cs=>simp [mI,qM] at h
  | tup cs=>simp [mI] at h
  | fn vi caps=>cases caps <;> simp [mI,qM,jX] at h
  | ms id tot off len =>
   simp only [mI,qM,jX,Nat.not_lt_zero,if_false,nV,lD,Nat.zero_le,if_true] at h
   split at h <;> cases h
  | ptr=>simp [mI,qM,jX] at h
  | mp id =>
   simp only [mI,qM,jX,Nat.not_lt_zero,if_false,nV,lD,Nat.zero_le,if_true] at h
   split at h <;> cases h
  | it=>simp [mI,qM,jX] at h
  | _=>simp [mI,qM,jX] at h
 ·cases h
theorem aX2 [GlobT] {P : Program} {cf : CF} {tot fl id s : Nat} {H : Heap} {α : Type} {c : α→List AV} {l : List α} (ht : l.length=tot) (hH : H[id]? = some (.blk s (l.map c))) (hfl : fl ≤ id) (hp : ∀ x,(c x).map toP=c x) :
  evOp P cf fl (.freeze (.tmp 0)) [.ms id tot 0 tot] H=some (.sl false (l.map c),H.set id (.blk s (l.map c++[List.replicate s .undef]))):=by
 subst ht; exact bBu hH hfl hp
end Go.Proofs.YtapabkfjeiknbaaGreat.Av
namespace Go.Proofs.YtapabkfjeiknbaaGreat.Av
open Go Go.Sort
theorem aEh {α β : Type} {f g : α→Option β} (h : ∀ x y,f x=some y→g x=some y) : ∀ (l : List α) (r : List β),allO (l.map f)=some r→allO (l.map g)=some r
 | [],r,hr=>hr
 | x :: l,r,hr=>by
  simp only [List.map_cons,allO] at hr ⊢
  split at hr
  ·cases hr
  ·rename_i a ha
   split at hr
   ·cases hr
   ·rename_i q hq
    rw [h x a ha,aEh h l q hq]
    exact hr
theorem aVu {β : Type} {f g : β→β→Option Int} (h : ∀ x y z,f x y=some z→g x y=some z) {rows : List β} {tb : List (List Int)} (ht : tabG f rows=some tb) : tabG g rows=some tb :=
 aEh (fun x r hr=>aEh (fun y z hz=>h x y z hz) rows r hr) rows tb ht
theorem aYq {cf cf' : CF} (h : Le cf cf') {vc : Nat} {caps : List AV} {agg : Bool} {H Hd : Heap} (x y : List AV) (z : Int) (hz : cmpG cf vc caps agg H Hd x y=some z) : cmpG cf' vc caps agg H Hd x y=some z:=by
 unfold cmpG at hz ⊢
 split at hz
 ·cases hz
 ·rename_i p hp
  have : cmpR cf' vc caps H Hd (shwR agg x) (shwR agg y)=some p:=by
   cases caps <;> exact h _ _ _ _ _ hp
  rw [this]
  exact hz
theorem aSt {cf : CF} {agg : Bool} {s fl id off m vc tot : Nat} {caps : List AV} {es : List (List AV)} {tb : List (List Int)} {H : Heap} (hfl : fl ≤ id) (hob : H[id]? = some (.blk s es)) (htot : es.length=tot) (hwin : off + (m + 1) ≤ es.length) (hbig : es.length ≤ 1000000)
  (htb : tabG (cmpG cf vc caps agg (outO H id) (detO H id s es)) ((es.drop off).take (m + 1))=some tb) (hsw : swoB (m + 1) tb=true) :
  aFr cf agg s fl [.ms id tot off (m + 1),.fn vc caps] H=some (.tup [],H.set id (.blk s (es.take off++(ixG m tb).map (aI2 [] ((es.drop off).take (m + 1)))++es.drop (off + (m + 1))))):=by
 subst htot
 have e1 : Nat.ble fl id=true:=Nat.ble_eq_true_of_le hfl
 have e2 : Nat.beq es.length es.length=true:=Nat.beq_refl _
 have e3 : Nat.ble (off + (m + 1)) es.length=true:=Nat.ble_eq_true_of_le hwin
 have e4 : Nat.ble es.length 1000000=true:=Nat.ble_eq_true_of_le hbig
 have e5 : Nat.beq s s=true:=Nat.beq_refl _
 have e6 : aDe (.ms id es.length off (m + 1))=false:=rfl
 simp only [aFr,e1,e2,e3,e4,e5,e6,hob,htb,hsw,Bool.and_self]
theorem aUn {agg : Bool} {s : Nat} (cf cf' : CF) (h : Le cf cf') (fl : Nat) (args : List AV) (H : Heap) (x : AV × Heap) (hx : aFr cf agg s fl args H=some x) : aFr cf' agg s fl args H=some x:=by
 obtain ⟨r,H'⟩:=x
 rcases aJ6 hx with ⟨x,y,rfl,he,rfl,rfl⟩ | ⟨id,off,m,vc,caps,es,tb,rfl,hfl,hob,hwin,hbig,htb,hsw,rfl,rfl⟩
 ·simp only [aFr,he]
 ·exact aSt hfl hob rfl hwin hbig (aVu (fun x y z hz=>aYq h x y z hz) htb) hsw
abbrev aJ2 (agg : Bool) (s : Nat) : Prim:=⟨fun cf=>aFr cf agg s,aUn⟩
def aLx {α : Type} (F : α→α→Option Int) (l : List α) : Option (List α):=match l with
 | []=>some []
 | x :: r=>match tabG F (x :: r) with
  | none=>none
  | some tb=>match swoB (r.length + 1) tb with
   | false=>none
   | true=>some ((ixG r.length tb).map (aI2 x (x :: r)))
theorem aZk {α β : Type} {f : β→β→Option Int} {g : α→α→Option Int} {e : α→β} (h : ∀ x y z,g x y=some z→f (e x) (e y)=some z) {l : List α} {tb : List (List Int)} (ht : tabG g l=some tb) : tabG f (l.map e)=some tb:=by
 unfold tabG at ht ⊢
 rw [List.map_map]
 refine aEh (f:=fun x=>allO (l.map fun y=>g x y)) (g:=(fun x=>allO ((l.map e).map fun y=>f x y)) ∘ e) (fun x r hr=>?_) l tb ht
 show allO ((l.map e).map fun y=>f (e x) y)=some r
 rw [List.map_map]
 exact aEh (f:=fun y=>g x y) (g:=(fun y=>f (e x) y) ∘ e) (fun y z hz=>h x y z hz) l r hr
theorem bBs {m : Nat} {tb : List (List Int)} {i : Nat} (h : i ∈ ixG m tb) : i < m + 1:=by
 unfold ixG at h
 obtain ⟨y,_,rfl⟩:=List.mem_map.1 h
 exact y.2
theorem aV8 {α β : Type} {e : α→β} {d : α} {d' : β} {l : List α} {i : Nat} (hi : i < l.length) : aI2 d' (l.map e) i=e (aI2 d l i):=by
 unfold aI2
 rw [List.getElem?_map,List.getElem?_eq_getElem hi]
 rfl
theorem bFh {α : Type} {c : α→List AV} {cf : CF} {agg : Bool} {s fl id vc : Nat} {caps : List AV} {F : α→α→Option Int} {l l' : List α} {H : Heap} (hfl : fl ≤ id) (hob : H[id]? = some (.blk s (l.map c))) (hbig : l.length ≤ 1000000)
  (hF : ∀ x y z,F x y=some z→cmpG cf vc caps agg (outO H id) (detO H id s (l.map c)) (c x) (c y)=some z) (h : aLx F l=some l') :
  aFr cf agg s fl [.ms id l.length 0 l.length,.fn vc caps] H=some (.tup [],H.set id (.blk s (l'.map c))):=by
 unfold aLx at h
 split at h
 ·cases h
  have e6 : aDe (.ms id (List.length ([] : List α)) 0 (List.length ([] : List α)))=true:=rfl
  simp only [aFr,e6,Option.some.injEq,Prod.mk.injEq,true_and]
  apply List.ext_getElem?
  intro i
  by_cases hi : i=id
  ·subst hi
   rw [hob]
   rw [List.getElem?_set_self (by
    rcases Nat.lt_or_ge i H.length with h | h
    ·exact h
    ·rw [List.getElem?_eq_none h] at hob; cases hob)]
  ·rw [List.getElem?_set_ne (Ne.symm hi)]
 ·rename_i x r
  split at h
  ·cases h
  rename_i tb htb
  split at h
  ·cases h
  rename_i hsw
  cases h
  have ht:=aZk (e:=c) (f:=cmpG cf vc caps agg (outO H id) (detO H id s ((x :: r).map c))) hF htb
  have hl : ((x :: r).map c).length=r.length + 1:=by simp
  have:=aSt (cf:=cf) (agg:=agg) (off:=0) (m:=r.length) (vc:=vc) (caps:=caps) (tb:=tb) (tot:=(x :: r).length) hfl hob (by simp) (by rw [hl]; omega) (by rw [hl]; simpa using hbig) (by rw [List.drop_zero,List.take_of_length_le (by rw [hl]; exact Nat.le_refl _)]; exact ht) hsw
  rw [List.drop_zero,List.take_zero,List.nil_append,List.take_of_length_le (by rw [hl]; exact Nat.le_refl _),Nat.zero_add,List.drop_of_length_le (by rw [hl]; exact Nat.le_refl _),List.append_nil] at this
  refine this.trans ?_
  rw [List.map_map]
  congr 3
  refine congrArg (AObj.blk s) (List.map_congr_left fun i hi=>?_)
  exact aV8 (by have:=bBs hi; simpa using this)
theorem aNb {cf : CF} {agg : Bool} {s fl : Nat} {args : List AV} {H H' : Heap} {r : AV} (hl : fl ≤ H.length) (h : aFr cf agg s fl args H=some (r,H')) : H'.take fl=H.take fl∧fl ≤ H'.length:=by
 rcases aJ6 h with ⟨x,y,rfl,he,rfl,rfl⟩ | ⟨id,off,m,vc,caps,es,tb,rfl,hfl,hob,hwin,hbig,htb,hsw,rfl,rfl⟩
 ·exact ⟨rfl,hl⟩
 ·refine ⟨?_,by rw [List.length_set]; exact hl⟩
  apply List.ext_getElem?
  intro i
  rw [List.getElem?_take,List.getElem?_take]
  split
  ·rw [List.getElem?_set_ne (by omega)]
  ·rfl
theorem bB8 [GlobT] {P : Program} {T : List AFun} {n vc : Nat} {agg : Bool} {H Hd : Heap} {x y : List AV} {args' : List AV} {z : Int} (hv : [shwR agg x,shwR agg y].map (nO H)=args') (k : pv P T n vc args'=some (.lit (.int .i64 z))) :
  cmpG (evF P T n) vc [] agg H Hd x y=some z:=by
 obtain ⟨H',h⟩:=aVi k
 simp only [cmpG,cmpR,hv,h]
theorem aQ2 [GlobT] {P : Program} {T : List AFun} {n vi vc s fl id : Nat} {agg : Bool} {α : Type} {c : α→List AV} {F : α→α→Option Int} {l l' : List α} {H : Heap} {caps : List AV} (hp : GlobT.prim vi=some (aJ2 agg s)) (hfl : fl ≤ id) (hob : H[id]? = some (.blk s (l.map c))) (hbig : l.length ≤ 1000000)
  (hF : ∀ x y z,F x y=some z→cmpG (evF P T n) vc caps agg (outO H id) (detO H id s (l.map c)) (c x) (c y)=some z) (h : aLx F l=some l') :
  evF P T (n + 1) fl vi [.ms id l.length 0 l.length,.fn vc caps] H=some (.tup [],H.set id (.blk s (l'.map c))):=by
 rw [evF]
 rw [hp]
 exact bFh hfl hob hbig hF h
theorem aXv {m : Nat} {tb : List (List Int)} (hsw : swoB (m + 1) tb=true) : (ixG m tb).length=m + 1:=by
 have h:=(pdq_sorts (Go.Proofs.ltOf fun (x y : Fin (m + 1))=>at2 tb x.1 y.1) (aM8 hsw) (Array.ofFn fun i=>i) 0 (m + 1) (Lib.bitLen (m + 1)) true true (Nat.zero_le _) (by simp) (Or.inl rfl)).1.1
 unfold ixG
 rw [List.length_map,Array.length_toList,h]
 simp
theorem aJ4 {α : Type} {F : α→α→Option Int} {l l' : List α} (h : aLx F l=some l') : l'.length=l.length:=by
 unfold aLx at h
 split at h
 ·cases h; rfl
 ·split at h
  ·cases h
  split at h
  ·cases h
  rename_i hsw
  cases h
  rw [List.length_map,aXv hsw]
  rfl
theorem bEt {cf : CF} {vc : Nat} {caps : List AV} {agg : Bool} {H Hd : Heap} {x y : List AV} {z : Int} (hne : caps ≠ []) (h : ∃ H',cf Hd.length vc (shwR agg x :: shwR agg y :: caps) Hd=some (.lit (.int .i64 z),H')) :
  cmpG cf vc caps agg H Hd x y=some z:=by
 obtain ⟨H',h⟩:=h
 cases caps with
 | nil=>exact absurd rfl hne
 | cons a r=>simp only [cmpG,cmpR,h]
theorem aO7 {tot id s : Nat} {H : Heap} {α : Type} {c : α→List AV} {l : List α} (ht : l.length=tot) (hH : H[id]? = some (.blk s (l.map c))) (hp : ∀ x,(c x).map (lD H 0 5)=c x) : jX H 0 (.ms id tot 0 tot)=.sl false (l.map c):=by
 subst ht; exact aAx hH hp
end Go.Proofs.YtapabkfjeiknbaaGreat.Av
namespace Go.Proofs.YtapabkfjeiknbaaGreat.Av
open Go Go.Proofs Go.RowKit Go.Shelf Go.Sort
def cI (z : Int) : List AV:=[.lit (.int .i64 z)]
def decI : List (List AV)→Option (List Int)
 | []=>some []
 | e :: r=>match e with
  | [.lit (.int .i64 a)]=>match decI r with
   | some l=>some (a :: l)
   | none=>none
  | _=>none
theorem aT6 : ∀ (es : List (List AV)) (l : List Int),decI es=some l→es=l.map cI
 | [],l,h=>by simp only [decI,Option.some.injEq] at h; subst h; rfl
 | e :: r,l,h=>by
  unfold decI at h
  split at h
  ·split at h
   ·rename_i l' hl
    cases h
    rw [aT6 r l' hl]
    rfl
   ·cases h
  ·cases h
theorem aT7 : ∀ l : List Int,decI (l.map cI)=some l
 | []=>rfl
 | x :: r=>by simp only [List.map_cons,cI,decI]; rw [aT7 r]
def insI (x : Int) : List Int→List Int
 | []=>[x]
 | y :: r=>match decide (x ≤ y) with
  | true=>x :: y :: r
  | false=>y :: insI x r
def srtI : List Int→List Int
 | []=>[]
 | x :: r=>insI x (srtI r)
theorem aTl (a : Int) (l2 : List Int) : ∀ l1 : List Int,(∀ b ∈ l1,decide (a ≤ b)=false)→insI a (l1++l2)=l1++insI a l2
 | [],_=>rfl
 | b :: r,h=>by
  simp only [List.cons_append,insI,h b (List.mem_cons_self ..)]
  rw [aTl a l2 r (fun c hc=>h c (List.mem_cons_of_mem _ hc))]
theorem aM9 : ∀ l : List Int,(l.mergeSort fun x y=>decide (x ≤ y))=srtI l
 | []=>List.mergeSort_nil
 | a :: l=>by
  have ht : ∀ a b c : Int,decide (a ≤ b)=true→decide (b ≤ c)=true→decide (a ≤ c)=true:=by intro a b c h1 h2; simp only [decide_eq_true_eq] at *; omega
  have hc : ∀ a b : Int,(decide (a ≤ b) || decide (b ≤ a))=true:=by intro a b; simp only [Bool.or_eq_true,decide_eq_true_eq]; omega
  obtain ⟨l1,l2,h1,h2,h3⟩:=List.mergeSort_cons (le:=fun x y : Int=>decide (x ≤ y)) ht hc a l
  have hs:=List.pairwise_mergeSort (le:=fun x y : Int=>decide (x ≤ y)) ht hc (a :: l)
  rw [h1] at hs ⊢
  have ih:=aM9 l
  simp only [srtI]
  rw [← ih,h2,aTl a l2 l1 (fun b hb=>by simpa using h3 b hb)]
  cases l2 with
  | nil=>rfl
  | cons b r =>
   have : decide (a ≤ b)=true:=(List.pairwise_cons.1 (List.pairwise_append.1 hs).2.1).1 b (List.mem_cons_self ..)
   simp only [insI,this]
theorem aGn (l : List Int) : (srtI l).length=l.length:=by rw [← aM9]; exact List.length_mergeSort l
theorem aVw (l : List Int) : (srtI l).Perm l:=by rw [← aM9]; exact List.mergeSort_perm l _
def aJ5 (fl : Nat) (args : List AV) (H : Heap) : Option (AV × Heap):=match args with
 | []=>none
 | x :: r=>match r with
  | _ :: _=>none
  | []=>match aDe x with
   | true=>some (.tup [],H)
   | false=>match x with
    | .ms id tot off len=>match Nat.ble fl id with
     | false=>none
     | true=>match H[id]? with
      | none=>none
      | some o=>match o with
       | .blk s es=>match (Nat.beq s 1 && Nat.beq off 0 && Nat.beq len tot && Nat.beq es.length tot && Nat.ble tot 1000000) with
        | false=>none
        | true=>match decI es with
         | none=>none
         | some l=>some (.tup [],H.set id (.blk 1 ((srtI l).map cI)))
       | _=>none
    | _=>none
theorem aOu {fl : Nat} {args : List AV} {H H' : Heap} {r : AV} (h : aJ5 fl args H=some (r,H')) :
  (∃ x,args=[x]∧aDe x=true∧r=.tup []∧H'=H) ∨
  ∃ id l,args=[.ms id l.length 0 l.length]∧l ≠ []∧fl ≤ id∧H[id]? = some (.blk 1 (l.map cI))∧l.length ≤ 1000000∧r=.tup []∧H'=H.set id (.blk 1 ((srtI l).map cI)):=by
 unfold aJ5 at h
 repeat' split at h
 all_goals first
  | (cases h; done)
  | skip
 ·rename_i he
  cases h
  exact .inl ⟨_,rfl,he,rfl,rfl⟩
 ·rename_i hemp _ id tot off len _ hfl _ _ s es hob _ hc _ l hd
  cases h
  simp only [Bool.and_eq_true] at hc
  obtain ⟨⟨⟨⟨h1,h2⟩,h3⟩,h4⟩,h5⟩:=hc
  have e1:=Nat.eq_of_beq_eq_true h1
  have e2:=Nat.eq_of_beq_eq_true h2
  have e3:=Nat.eq_of_beq_eq_true h3
  have e4:=Nat.eq_of_beq_eq_true h4
  have e5:=Nat.le_of_ble_eq_true h5
  have e7:=aT6 _ _ hd
  subst e1 e2 e3 e7
  rw [List.length_map] at e4
  subst e4
  refine .inr ⟨_,_,rfl,?_,Nat.le_of_ble_eq_true hfl,hob,e5,rfl,rfl⟩
  intro hl
  subst hl
  exact absurd ‹aDe _=false› (by simp [aDe])
def aM3 (P : Program) (f : Nat) : Prop:=∀ (blk off cap : Nat) (zs : List Int) (w : World),Holds (Value.int .i64) w blk off zs.toArray→blk < w.heap.size→zs.length < 4611686018427387904 →
 Calls P f #[.slice (some ⟨blk,off,none⟩) zs.length cap] w fun e w' =>
  e=.returned (.tuple #[])∧∃ n os,w'=grow (putRow (Value.int .i64) (Sort.ahead w n) blk off (zs.mergeSort fun x y=>decide (x ≤ y)).toArray) os
def aLr (P : Program) (f : Nat) : Prop:=∀ (p : Option Addr) (cap : Nat) (w : World),Calls P f #[.slice p 0 cap] w fun e w'=>e=.returned (.tuple #[])∧w'=w
section
variable {P : Program} {T : List AFun}
theorem aZm [GlobT] {f : Nat} (hL : aM3 P f) (hN : aLr P f)
  {fl : Nat} {args : List AV} {r : AV} {H' : Heap} {c : Ctx} {vs : Array Value} (hev : aJ5 fl args c.H=some (r,H')) (hs : Sim (ftOf T) c) (hargs : aGh (ftOf T) c args vs) :
  Calls P f vs c.w fun e w'=>∃ v c',e=.returned v∧c'.w=w'∧c'.H=H'∧c'.X=c.X∧Step fl c c'∧Sim (ftOf T) c'∧RV (ftOf T) c' r v:=by
 rcases aOu hev with ⟨x,rfl,he,rfl,rfl⟩ | ⟨id,l,rfl,hne,hfl,hob,hbig,rfl,rfl⟩
 ·obtain ⟨u0,k0,r0⟩:=hargs.2 0 _ rfl
  obtain ⟨p,cap,rfl⟩:=aT3 he r0
  have hvs : vs=#[.slice p 0 cap]:=by
   apply Array.ext
   ·exact hargs.1
   ·intro i hi1 hi2
    have hi3 : i < 1:=by simpa using hi2
    match i,hi3 with
    | 0,_=>exact Option.some.inj ((Array.getElem?_eq_getElem hi1).symm.trans (by simpa using k0))
  subst hvs
  refine (hN p cap c.w).mono fun e w' ⟨he,hw⟩=>?_
  subst hw
  exact ⟨_,c,he,rfl,rfl,rfl,Step.refl fl c,hs,.tup [] #[] (fun _=>gD) rfl (fun i x hx=>by simp at hx) (fun i x hx=>by simp at hx)⟩
 obtain ⟨u0,k0,r0⟩:=hargs.2 0 _ rfl
 obtain ⟨a,cap,s',n,rfl,g1,g2,g3,g4⟩:=r0.ms_inv
 have hsh : s'=1∧n=l.length:=by
  simp only [shp,hob] at g1
  simpa [eq_comm] using g1
 obtain ⟨rfl,rfl⟩:=hsh
 have hpos : 0 < l.length:=List.length_pos_iff.2 hne
 obtain ⟨hml,hms⟩:=g4 rfl
 rcases hms with ⟨_,h0,_⟩ | ⟨b,cs,ty,a',hb,hcs,hsz,rfl,hadr⟩
 ·omega
 have hcap : cap ≠ 0:=by omega
 obtain rfl:=hadr hcap
 have hvs : vs=#[.slice (some ⟨b,0,none⟩) l.length cap]:=by
  apply Array.ext
  ·exact hargs.1
  ·intro i hi1 hi2
   have hi3 : i < 1:=by simpa using hi2
   match i,hi3 with
   | 0,_=>exact Option.some.inj ((Array.getElem?_eq_getElem hi1).symm.trans (by simpa using k0))
 subst hvs
 obtain ⟨cs2,ty2,hc2,hfit,hcell⟩:=hs.blk id 1 _ b hob hb
 rw [hcs] at hc2
 cases hc2
 have hblk : b < c.w.heap.size:=hs.lt hb
 have hfit' : l.length ≤ cs.size:=by simpa using hfit
 have hget : ∀ (i : Nat) (z : Int),l[i]? = some z→cs[i]? = some (Value.int .i64 z):=by
  intro i z hz
  obtain ⟨v,h1,_,h3⟩:=hcell i 0 (AV.lit (Value.int .i64 z)) (by simp [hZ,hz,cI])
  rw [h3.lit_inv] at h1
  simpa using h1
 have hH : Holds (Value.int .i64) c.w b 0 l.toArray:=by
  intro t ht
  have hlt : t < l.length:=by simpa using ht
  refine ⟨?_,by simp [World.frozen?,hcs]⟩
  have:=hget t l[t] (List.getElem?_eq_getElem hlt)
  simp only [World.cell?,hcs,Nat.zero_add]
  simpa [hlt] using this
 refine (hL b 0 cap l c.w hH hblk (by omega)).mono fun e w' ⟨he,q,os,hw⟩=>?_
 rw [aM9 l] at hw
 generalize hd : srtI l=d at hw
 have hdl : d.length=l.length:=by rw [← hd]; exact aGn l
 have hw1 : (putRow (Value.int .i64) (Sort.ahead c.w q) b 0 d.toArray).heap[b]? = some (.cells (putCells (Value.int .i64) 0 d.toArray cs) ty (0,0)):=by
  unfold putRow mapBlock
  simp [Array.getElem?_modify,Sort.ahead,hcs,onCells]
 have hother : ∀ k,k ≠ b→(putRow (Value.int .i64) (Sort.ahead c.w q) b 0 d.toArray).heap[k]? = c.w.heap[k]?:=by
  intro k hk
  unfold putRow mapBlock
  rw [Array.getElem?_modify,if_neg (Ne.symm hk)]
  rfl
 have hsize : (putRow (Value.int .i64) (Sort.ahead c.w q) b 0 d.toArray).heap.size=c.w.heap.size:=by
  unfold putRow mapBlock
  simp [Sort.ahead]
 have hcsz : (putCells (Value.int .i64) 0 d.toArray cs).size=cs.size:=by simp [putCells]
 have hcells : ∀ i j x,hZ (d.map cI) i j=some x→∃ v,(putCells (Value.int .i64) 0 d.toArray cs)[i * 1 + j]? = some v∧gA v=true∧RV (ftOf T) c x v:=by
  intro i j x hx
  obtain ⟨e,hei,hej⟩:=jJ hx
  rw [List.getElem?_map,Option.map_eq_some_iff] at hei
  obtain ⟨z,hz,rfl⟩:=hei
  have hi : i < d.length:=by
   rcases Nat.lt_or_ge i d.length with h | h
   ·exact h
   ·rw [List.getElem?_eq_none h] at hz; cases hz
  match j,hej with
  | 0,hej =>
   cases hej
   refine ⟨Value.int .i64 z,?_,rfl,RV.lit _⟩
   unfold putCells
   rw [Array.getElem?_mapIdx,Nat.mul_one,Nat.add_zero,Array.getElem?_eq_getElem (by omega)]
   simp only [Option.map_some,Nat.zero_le,true_and,Nat.zero_add,Nat.sub_zero]
   rw [if_pos (by simpa using hi)]
   have : d.toArray[i]! = z:=by
    rw [List.getElem?_eq_getElem hi] at hz
    simp [hi]
    exact Option.some.inj hz
   rw [this]
  | j + 1,hej=>simp [cI] at hej
 have hlens' : ∀ e ∈ d.map cI,e.length=1:=by
  intro e he
  obtain ⟨z,_,rfl⟩:=List.mem_map.1 he
  rfl
 have hst1:=aAv (w':=putRow (Value.int .i64) (Sort.ahead c.w q) b 0 d.toArray) (es':=d.map cI) hs hfl hob hb hcs (by simp [hdl]) hcsz hw1 hother hsize rfl rfl rfl (Nat.le_add_right _ _)
 have hsim1:=aFt (w':=putRow (Value.int .i64) (Sort.ahead c.w q) b 0 d.toArray) (es':=d.map cI) hs hob hb hcs (by simp [hdl]) hcsz hw1 hother hsize rfl rfl rfl hlens' (by rw [hcsz]; simp [hdl]; exact hfit') hcells (Nat.le_add_right _ _)
 generalize hc1 : (⟨putRow (Value.int .i64) (Sort.ahead c.w q) b 0 d.toArray,c.X,c.β,c.H.set id (.blk 1 (d.map cI))⟩ : Ctx)=c1 at hst1 hsim1
 have hst2:=bBl (c:=c1) (q:=0) (os:=os)
 refine ⟨.tuple #[],back c1 ⟨grow (Sort.ahead c1.w 0) os,(bare c1).X,fun _=>none,[]⟩,he,?_,?_,?_,hst1.trans (aEf hsim1 hst2),aHc hsim1 hst2,?_⟩
 ·rw [hw,← hc1]
  rfl
 ·rw [← hc1]; rfl
 ·rw [← hc1]; rfl
 ·exact .tup [] #[] (fun _=>gD) rfl (fun i x hx=>by simp at hx) (fun i x hx=>by simp at hx)
end
theorem bDi {fl id : Nat} {l : List Int} {H : Heap} (hfl : fl ≤ id) (hob : H[id]? = some (.blk 1 (l.map cI))) (hbig : l.length ≤ 1000000) :
  aJ5 fl [.ms id l.length 0 l.length] H=some (.tup [],H.set id (.blk 1 ((srtI l).map cI))):=by
 cases hl : l with
 | nil =>
  subst hl
  have e6 : aDe (.ms id (List.length ([] : List Int)) 0 (List.length ([] : List Int)))=true:=rfl
  simp only [aJ5,e6,Option.some.injEq,Prod.mk.injEq,true_and]
  apply List.ext_getElem?
  intro i
  by_cases hi : i=id
  ·subst hi
   rw [hob,List.getElem?_set_self (by
    rcases Nat.lt_or_ge i H.length with h | h
    ·exact h
    ·rw [List.getElem?_eq_none h] at hob; cases hob)]
   rw [show srtI []=[] from rfl]
  ·rw [List.getElem?_set_ne (Ne.symm hi)]
 | cons x r =>
  rw [hl] at hob hbig
  have e1 : Nat.ble fl id=true:=Nat.ble_eq_true_of_le hfl
  have e2 : Nat.beq (x :: r).length (x :: r).length=true:=Nat.beq_refl _
  have e3 : Nat.beq ((x :: r).map cI).length (x :: r).length=true:=by rw [List.length_map]; exact Nat.beq_refl _
  have e4 : Nat.ble (x :: r).length 1000000=true:=Nat.ble_eq_true_of_le hbig
  have e6 : aDe (.ms id (x :: r).length 0 (x :: r).length)=false:=rfl
  have e7 : Nat.beq 1 1=true:=rfl
  have e8 : Nat.beq 0 0=true:=rfl
  simp only [aJ5,e1,e2,e3,e4,e6,e7,e8,hob,aT7,Bool.and_self]
theorem aZo [GlobT] {P : Program} {T : List AFun} {n vi fl id : Nat} {l : List Int} {H : Heap} (hp : GlobT.prim vi=some (bDs aJ5)) (hfl : fl ≤ id) (hob : H[id]? = some (.blk 1 (l.map cI))) (hbig : l.length ≤ 1000000) :
  evF P T (n + 1) fl vi [.ms id l.length 0 l.length] H=some (.tup [],H.set id (.blk 1 ((srtI l).map cI))):=by
 rw [evF]
 rw [hp]
 exact bDi hfl hob hbig
end Go.Proofs.YtapabkfjeiknbaaGreat.Av
namespace Go.Proofs.YtapabkfjeiknbaaGreat.Av
open Go
abbrev Vi (z : Int) : AV:=.lit (.int .i64 z)
instance gT : GlobT where
 tab:=fun _=>none
 ok:=fun _ _=>True
 prim:=fun vi=>(match Nat.beq vi 71 with | true=>some (aJ2 true 2) | false=>(match Nat.beq vi 19 with | true=>some (aJ2 true 4) | false=>(match Nat.beq vi 55 with | true=>some (aJ2 false 1) | false=>(match Nat.beq vi 35 with | true=>some (bDs aJ5) | false=>none))))
noncomputable abbrev PP:=Go.Proofs.Tryz.prog
def T : List AFun:=[F0,F1,F2,F3,F4,F5,F6,F7,F8,F9,F10,F11,F12,F13,F14,F15,F16,F17,F18,F19,F20,F21,F22,F23,F24,F25,F26,F27,F28,F29,F30,F31,F32,F33,F34,F35,F36,F37,F38,F39,F40,F41,F42,F43,F44,F45,F46,F47,F48,F49,F50,F51,F52,F53,F54,F55,F56,F57,F58,F59,F60,F61,F62,F63,F64,F65,F66,F67,F68,F69,F70,F71,F72,F73,F74,F75,F76,F77,F78,F79,F80,F81,F82,F83,F84,F85,F86,F87,F88,F89,F90,F91,F92,F93,F94,F95,F96,F97,F98,F99]
end Go.Proofs.YtapabkfjeiknbaaGreat.Av
