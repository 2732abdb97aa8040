/- A part of the proof of a law of the chapter warp: an evaluator of the program, proved sound, and what it says. -/
import Derived.Test.YtapabkfjeiknbaaGreatAvOps
import Derived.Great.BuildSlice
import Derived.Laws.Tables
import Derived.IntWalk
import Derived.Laws.BytesString
set_option linter.unusedVariables false
set_option linter.unusedSimpArgs false
namespace Go.Proofs.YtapabkfjeiknbaaGreat.Av
open Go
section
variable {P : Program} {T : List AFun} {c : Ctx} {fl : Nat} {o : Oper} {a : Act} {tm : List AV}
theorem aCq [GlobT] (hs : Sim (ftOf T) c) (htr : TR (ftOf T) c tm a.tmps) {x : AOpd} {y : Operand} (ho : o.op=.nilCheck y) (h : eC T x y=true)
  (hk : (∃ id tot idx off,dU tm x=.ptr id tot idx off) ∨ (∃ cs,dU tm x=.rptr cs) ∨ (∃ cs,dU tm x=.sptr cs) ∨ ∃ vi caps,dU tm x=.fn vi caps) :
  OpOK P (ftOf T) c fl o a (dU tm x) c.H:=by
 have hx:=eE hs htr h
 refine gL (cv:=a.eval y) hs ?_ hx
 rcases hk with ⟨id,tot,idx,off,hk⟩ | ⟨cs,hk⟩ | ⟨cs,hk⟩ | ⟨vi,caps,hk⟩ <;> rw [hk] at hx
 ·obtain ⟨ad,s,n,hv,_⟩:=hx.ptr_inv
  simp [execOp,ho,hv]
 ·obtain ⟨b,off,cc,Ty,fz,vals,hv,_⟩:=hx.rptr_inv
  simp [execOp,ho,hv]
 ·obtain ⟨b,off,cc,Ty,fz,vals,hv,_⟩:=hx.sptr_inv.rptr_inv
  simp [execOp,ho,hv]
 ·obtain ⟨f,cv,vals,hv,_⟩:=hx.fn_inv
  simp [execOp,ho,hv]
theorem aXw {op : BinOp} {k : IntKind} {x y : Int} {t : TypeId} {r : Value} (h : aU6 op k x y=some r) (w : World) : (binOp op t (.int k x) (.int k y)).run P w=.ok r w:=by
 cases op <;> simp [aU6] at h <;> subst h <;> simp [binOp,Op.intArith,Op.intCmp]
theorem aSh {op : BinOp} {k k' : IntKind} {x y : Int} {t : TypeId} {p q : Operand} (w : World) : (eqGuard op t p q (.int k x) (.int k' y)).run P w=.ok () w:=by
 unfold eqGuard
 split <;> simp
theorem bD3 [GlobT] (hs : Sim (ftOf T) c) (htr : TR (ftOf T) c tm a.tmps) {op : BinOp} {x y : AOpd} {x' y' : Operand} {t t' : TypeId} {k : IntKind} {n m : Int} {r : Value} (ho : o.op=.binOp op t x' y' t')
  (h1 : eC T x x'=true) (h2 : eC T y y'=true) (e1 : dU tm x=.lit (.int k n)) (e2 : dU tm y=.lit (.int k m)) (hr : aU6 op k n m=some r) :
  OpOK P (ftOf T) c fl o a (.lit r) c.H:=by
 have hx:=eE hs htr h1
 have hy:=eE hs htr h2
 rw [e1] at hx
 rw [e2] at hy
 refine gL (cv:=r) hs ?_ (RV.lit r)
 simp [execOp,ho,hx.lit_inv,hy.lit_inv,aSh,aXw hr]
theorem aRt [GlobT] : ∀ {cs : List AV} {l : List Value},litL cs=some l→cs=l.map .lit
 | [],l,h=>by simp [litL] at h; subst h; rfl
 | .lit v :: r,l,h=>by
  simp only [litL] at h
  split at h
  ·rename_i l' hl
   cases h
   rw [aRt hl]; rfl
  ·cases h
 | .undef :: _,_,h=>by simp [litL] at h
 | .sl .. :: _,_,h=>by simp [litL] at h
 | .ms .. :: _,_,h=>by simp [litL] at h
 | .ptr .. :: _,_,h=>by simp [litL] at h
 | .rptr .. :: _,_,h=>by simp [litL] at h
 | .mp .. :: _,_,h=>by simp [litL] at h
 | .fn .. :: _,_,h=>by simp [litL] at h
 | .agg .. :: _,_,h=>by simp [litL] at h
 | .tup .. :: _,_,h=>by simp [litL] at h
theorem aKu [GlobT] {FT : Nat→Option Nat} {x : AV} {v u : Value} (hr : RV FT c x v) (h : lits x=some u) : v=u:=by
 unfold lits at h
 split at h
 ·cases h; exact hr.lit_inv
 ·rename_i cs
  split at h
  ·rename_i l hl
   cases h
   have e:=aRt hl
   subst e
   obtain ⟨cv,vals,rfl,h1,h2,h3⟩:=hr.agg_inv
   congr 1
   apply Array.ext_getElem?
   intro i
   by_cases hi : i < l.length
   ·have hx : (l.map AV.lit)[i]? = some (.lit l[i]):=by simp [hi]
    have:=(h3 i _ hx).lit_inv
    rw [(h2 i _ hx).1,this]
    simp [hi]
   ·rw [Array.getElem?_eq_none (by simp at h1; omega),Array.getElem?_eq_none (by simp; omega)]
  ·cases h
 ·cases h
theorem aN9 {op : BinOp} {t : TypeId} {v u : Value} {p q p' q' : Operand} (hn : aGv v=true) : eqGuard op t p q v u=eqGuard op t p' q' v u:=by
 unfold eqGuard
 cases v <;> first | rfl | (cases u <;> rfl) | (simp [aGv] at hn)
theorem aSg [GlobT] {op : BinOp} {t : TypeId} {v u : Value} {p q : Operand} (hn : aGv v=true) (h : eD P (eqGuard op t (.tmp 0) (.tmp 0) v u)=some ()) (w : World) :
  (eqGuard op t p q v u).run P w=.ok () w:=by
 rw [aN9 (p':=.tmp 0) (q':=.tmp 0) hn]
 exact iB h
theorem bFq [GlobT] (hs : Sim (ftOf T) c) (htr : TR (ftOf T) c tm a.tmps) {op : BinOp} {x y : AOpd} {x' y' : Operand} {t t' : TypeId} {v u r : Value} (ho : o.op=.binOp op t x' y' t')
  (h1 : eC T x x'=true) (h2 : eC T y y'=true) (e1 : lits (dU tm x)=some v) (e2 : lits (dU tm y)=some u)
  (hn : aGv v=true) (hg : eD P (eqGuard op t (.tmp 0) (.tmp 0) v u)=some ()) (hr : eD P (binOp op t v u)=some r) :
  OpOK P (ftOf T) c fl o a (.lit r) c.H:=by
 have hx:=aKu (eE hs htr h1) e1
 have hy:=aKu (eE hs htr h2) e2
 refine gL (cv:=r) hs ?_ (RV.lit r)
 simp [execOp,ho,hx,hy,aSg hn hg,iB hr]
theorem bIv [GlobT] (hs : Sim (ftOf T) c) (htr : TR (ftOf T) c tm a.tmps) {op : UnOp} {x : AOpd} {x' : Operand} {t : TypeId} {v r : Value} (ho : o.op=.unOp op t x')
  (h1 : eC T x x'=true) (e1 : dU tm x=.lit v) (hr : eD P (Op.unary op v)=some r) : OpOK P (ftOf T) c fl o a (.lit r) c.H:=by
 have hx:=eE hs htr h1
 rw [e1] at hx
 refine gL (cv:=r) hs ?_ (RV.lit r)
 simp [execOp,ho,hx.lit_inv,iB hr]
theorem bD5 [GlobT] (hs : Sim (ftOf T) c) (htr : TR (ftOf T) c tm a.tmps) {x : AOpd} {x' : Operand} {s d : TypeId} {v r : Value} (ho : o.op=.convert s d x')
  (h1 : eC T x x'=true) (e1 : dU tm x=.lit v) (hr : eD P (convert s d v)=some r) : OpOK P (ftOf T) c fl o a (.lit r) c.H:=by
 have hx:=eE hs htr h1
 rw [e1] at hx
 refine gL (cv:=r) hs ?_ (RV.lit r)
 simp [execOp,ho,hx.lit_inv,iB hr]
theorem aWr [GlobT] (hs : Sim (ftOf T) c) (htr : TR (ftOf T) c tm a.tmps) {x i : AOpd} {x' i' : Operand} {t : TypeId} {v u r : Value} (ho : o.op=.index t x' i')
  (h1 : eC T x x'=true) (h2 : eC T i i'=true) (e1 : dU tm x=.lit v) (e2 : dU tm i=.lit u) (hr : eD P (Instr.index t v u)=some r) :
  OpOK P (ftOf T) c fl o a (.lit r) c.H:=by
 have hx:=eE hs htr h1
 rw [e1] at hx
 have hi:=eE hs htr h2
 rw [e2] at hi
 refine gL (cv:=r) hs ?_ (RV.lit r)
 simp [execOp,ho,hx.lit_inv,hi.lit_inv,iB hr]
theorem aLf {t : TypeId} {f off : Nat} {fs : Array Field} {fd : Field} {i : TypeInfo} {ad : Addr} (hu : P.underlying t=some (.struct fs)) (hf : fs[f]? = some fd)
  (hof : fd.offset=off) (hi : P.info? fd.type=some i) (hsz : i.size ≠ 0) (w : World) :
  (Instr.fieldAt t (.pointer (some ad)) f).run P w=.ok (.pointer (some (ad.add off))) w:=by
 simp [Instr.fieldAt,run_underlying hu,hf,Instr.sureAddr,fieldPlace,sizeOf,typeInfo,hi,hsz,hof]
theorem aD4 [GlobT] (hs : Sim (ftOf T) c) (htr : TR (ftOf T) c tm a.tmps) {x : AOpd} {y : Operand} {t : TypeId} {f off : Nat} {fs : Array Field} {fd : Field} {i : TypeInfo} {v : AV} (ho : o.op=.fieldAddr t y f)
  (h : eC T x y=true) (hu : P.underlying t=some (.struct fs)) (hf : fs[f]? = some fd) (hof : fd.offset=off) (hi : P.info? fd.type=some i) (hsz : i.size ≠ 0)
  (hk : (∃ id tot idx k,dU tm x=.ptr id tot idx k∧v=.ptr id tot idx (k + off)) ∨ (∃ cs,(dU tm x=.rptr cs ∨ dU tm x=.sptr cs)∧v=.rptr (cs.drop off))) :
  OpOK P (ftOf T) c fl o a v c.H:=by
 have hx:=eE hs htr h
 rcases hk with ⟨id,tot,idx,k,hk,rfl⟩ | ⟨cs,hk,rfl⟩
 ·rw [hk] at hx
  obtain ⟨ad,s,n,hv,g1,g2,g3⟩:=hx.ptr_inv
  refine gL (cv:=.pointer (some (ad.add off))) hs (by simp [execOp,ho,hv,aLf hu hf hof hi hsz]) ?_
  refine .ptr id tot idx (k + off) _ s n g1 g2 fun e=>?_
  obtain ⟨b,hb,rfl⟩:=g3 e
  exact ⟨b,hb,by rw [pO]; simp [Nat.add_assoc]⟩
 ·replace hx : RV (ftOf T) c (.rptr cs) (a.eval y):=by
   rcases hk with hk | hk <;> rw [hk] at hx
   ·exact hx
   ·exact hx.sptr_inv
  obtain ⟨b,k,cc,Ty,fz,vals,hv,g1,g2,g3,g4⟩:=hx.rptr_inv
  refine gL (cv:=.pointer (some ⟨b,k + off,none⟩)) hs (by simp [execOp,ho,hv,aLf hu hf hof hi hsz,pO]) ?_
  refine .rptr _ b (k + off) cc Ty fz (fun j=>vals (off + j)) g1 g2 ?_ ?_
  ·intro j x hx
   rw [List.getElem?_drop] at hx
   have:=g3 _ x hx
   rwa [← Nat.add_assoc] at this
  ·intro j x hx
   rw [List.getElem?_drop] at hx
   exact g4 _ x hx
theorem aWl [GlobT] {FT : Nat→Option Nat} {cs : List AV} {cv : Array Value} {t : TypeId} {n off : Nat} {agg : Bool} {v : AV} (hr : RV FT c (.agg cs) (.agg cv))
  (h1 : aHf P t agg=true) (h2 : kL P t n=true) (hle : off + n ≤ cs.length) (hv : if agg then v=.agg ((cs.drop off).take n) else (cs.drop off).take n=[v]) (h3 : agg=true ∨ n=1) :
  ∃ r,(part t cv off).run P c.w=.ok r c.w∧RV FT c v r:=by
 obtain ⟨cv',vals,e,g1,g2,g3⟩:=hr.agg_inv
 cases e
 obtain ⟨i,hi,hsz⟩:=kV h2
 cases agg with
 | true =>
  simp only [if_true] at hv
  subst hv
  refine ⟨.agg (cv.extract off (off + n)),?_,?_⟩
  ·simp [part,aHe h1,sizeOf,typeInfo,hi,hsz]
  ·refine .agg _ _ (fun j=>vals (off + j)) (by simp; omega) ?_ ?_
   ·intro j x hx
    rw [List.getElem?_take] at hx
    split at hx
    ·rename_i hj
     rw [List.getElem?_drop] at hx
     obtain ⟨k1,k2⟩:=g2 _ x hx
     refine ⟨?_,k2⟩
     rw [Array.getElem?_extract]
     rw [if_pos (by omega)]
     exact k1
    ·cases hx
   ·intro j x hx
    rw [List.getElem?_take] at hx
    split at hx
    ·rw [List.getElem?_drop] at hx
     exact g3 _ x hx
    ·cases hx
 | false =>
  simp only [Bool.false_eq_true,if_false] at hv
  have hn : n=1:=by simpa using h3
  subst hn
  have hx : cs[off]? = some v:=by
   have : ((cs.drop off).take 1)[0]? = some v:=by rw [hv]; rfl
   rw [List.getElem?_take,if_pos (by omega),List.getElem?_drop] at this
   simpa using this
  refine ⟨vals off,?_,g3 off v hx⟩
  simp [part,aHe h1,(g2 off v hx).1]
theorem aS9 [GlobT] (hs : Sim (ftOf T) c) (htr : TR (ftOf T) c tm a.tmps) {x : AOpd} {y : Operand} {t : TypeId} {f off n : Nat} {agg : Bool} {fs : Array Field} {fd : Field} {cs : List AV} {v : AV} (ho : o.op=.field t y f)
  (h : eC T x y=true) (hu : P.underlying t=some (.struct fs)) (hf : fs[f]? = some fd) (hof : fd.offset=off) (h1 : aHf P fd.type agg=true) (h2 : kL P fd.type n=true) (h3 : agg=true ∨ n=1)
  (hx : dU tm x=.agg cs) (hle : off + n ≤ cs.length) (hv : if agg then v=.agg ((cs.drop off).take n) else (cs.drop off).take n=[v]) :
  OpOK P (ftOf T) c fl o a v c.H:=by
 have hr:=eE hs htr h
 rw [hx] at hr
 obtain ⟨cv,vals,e,_⟩:=hr.agg_inv
 rw [e] at hr
 obtain ⟨r,k1,k2⟩:=aWl (P:=P) hr h1 h2 hle hv h3
 refine gL (cv:=r) hs ?_ k2
 simp [execOp,ho,e,Instr.field,run_underlying hu,hf,asAgg,hof,k1]
theorem aAl [GlobT] {FT : Nat→Option Nat} {x : AV} {v : Value} {n : Nat} (hr : RV FT c x v) (h : uS x=some n) : ∃ k,v=.int k n:=by
 unfold uS at h
 split at h
 ·rename_i k m
  split at h
  ·rename_i hm
   cases h
   exact ⟨k,by rw [hr.lit_inv,Int.toNat_of_nonneg hm]⟩
  ·cases h
 ·cases h
theorem aH3 [GlobT] (hs : Sim (ftOf T) c) (htr : TR (ftOf T) c tm a.tmps) {x i : AOpd} {y j : Operand} {t e : TypeId} {s n : Nat} {v : AV} (ho : o.op=.indexAddr t y j)
  (h1 : eC T x y=true) (h2 : eC T i j=true) (hu : P.underlying t=some (.slice e)) (hsz : kL P e s=true) (hn : uS (dU tm i)=some n)
  (hk : (∃ f es cs,dU tm x=.sl f es∧es[n]? = some cs∧cs.length=s∧v=.rptr cs) ∨ (∃ es cs,dU tm x=.vw es∧es[n]? = some cs∧cs.length=s∧v=.rptr cs) ∨
   (∃ id tot off len es,dU tm x=.ms id tot off len∧c.H[id]? = some (.blk s es)∧es.length=tot∧n < len∧v=.ptr id tot (off + n) 0)) :
  OpOK P (ftOf T) c fl o a v c.H:=by
 have hx:=eE hs htr h1
 obtain ⟨k,hj⟩:=aAl (eE hs htr h2) hn
 obtain ⟨ei,hei,hes⟩:=kV hsz
 rcases hk with ⟨f,es,cs,hk,hcs,hlen,rfl⟩ | ⟨es,cs,hk,hcs,hlen,rfl⟩ | ⟨id,tot,off,len,es,hk,hob,htot,hlt,rfl⟩ <;> rw [hk] at hx
 rotate_left
 ·obtain ⟨ad,cap,hw,_,hor⟩:=hx.vw_inv
  rcases hor with rfl | ⟨b,off,cc,Ty,fz,s',vals,rfl,g2,g3,g4,g7,g8⟩
  ·simp at hcs
  ·have hs' : s'=s:=by rw [← hlen,g4 cs (List.mem_of_getElem? hcs)]
   subst hs'
   have hnl : n < es.length:=(List.getElem?_eq_some_iff.1 hcs).1
   refine gL (cv:=.pointer (some ⟨b,off + n * s',none⟩)) hs ?_ ?_
   ·simp [execOp,ho,hw,hj,Instr.indexAt,asIntOf,run_underlying hu,sizeOf,typeInfo,hei,hes,hnl,pO]
   ·refine .rptr cs b (off + n * s') cc Ty fz (fun j=>vals n j) g2 g3 ?_ ?_
    ·intro j x hx
     have:=g7 n j x (by simp [hZ,hcs,hx])
     rwa [← Nat.add_assoc] at this
    ·intro j x hx
     exact g8 n j x (by simp [hZ,hcs,hx])
 rotate_right
 ·have hp:=hx.sl_inv
  generalize hw : a.eval y=w at hp
  cases hp with
  | nil=>simp at hcs
  | sl _ _ b off cap cc Ty fz s' vals g1 g2 g3 g4 g5 g6 g7 g8 =>
   have hs' : s'=s:=by rw [← hlen,g4 cs (List.mem_of_getElem? hcs)]
   subst hs'
   have hnl : n < es.length:=(List.getElem?_eq_some_iff.1 hcs).1
   refine gL (cv:=.pointer (some ⟨b,off + n * s',none⟩)) hs ?_ ?_
   ·simp [execOp,ho,hw,hj,Instr.indexAt,asIntOf,run_underlying hu,sizeOf,typeInfo,hei,hes,hnl,pO]
   ·refine .rptr cs b (off + n * s') cc Ty fz (fun j=>vals n j) g2.vis g3 ?_ ?_
    ·intro j x hx
     have:=g7 n j x (by simp [hZ,hcs,hx])
     rwa [← Nat.add_assoc] at this
    ·intro j x hx
     exact g8 n j x (by simp [hZ,hcs,hx])
 ·obtain ⟨ad,cap,s',n',hv,g1,g2,g3,g4⟩:=hx.ms_inv
  rw [qP hob] at g1
  cases g1
  obtain ⟨m1,m2⟩:=g4 htot.symm
  rcases m2 with ⟨_,_,_,m3⟩ | ⟨b,cc,Ty,a',m3,m4,m5,m6,m7⟩
  ·omega
  ·have ha:=m7 (by omega)
   subst ha
   subst m6
   refine gL (cv:=.pointer (some ⟨b,off * s + n * s,none⟩)) hs ?_ ?_
   ·simp [execOp,ho,hv,hj,Instr.indexAt,asIntOf,run_underlying hu,sizeOf,typeInfo,hei,hes,hlt,pO]
   ·refine .ptr id tot (off + n) 0 _ s _ (qP hob) (by omega) fun _=>⟨b,m3,by simp [Nat.add_mul]⟩
end
end Go.Proofs.YtapabkfjeiknbaaGreat.Av
namespace Go.Proofs.YtapabkfjeiknbaaGreat.Av
open Go
section
variable {P : Program} {T : List AFun} {c : Ctx} {fl : Nat} {o : Oper} {a : Act} {tm : List AV}
theorem aPh [GlobT] (hs : Sim (ftOf T) c) (htr : TR (ftOf T) c tm a.tmps) {x i : AOpd} {y j : Operand} {t e : TypeId} {s n m : Nat} {v : AV} (ho : o.op=.indexAddr t y j)
  (h1 : eC T x y=true) (h2 : eC T i j=true) (hu : P.underlying t=some (.array m e)) (hsz : kL P e s=true) (hn : uS (dU tm i)=some n) (hlt : n < m)
  (hk : (∃ id tot idx k,dU tm x=.ptr id tot idx k∧v=.ptr id tot idx (k + n * s)) ∨ (∃ cs,dU tm x=.rptr cs∧v=.rptr (cs.drop (n * s)))) :
  OpOK P (ftOf T) c fl o a v c.H:=by
 have hx:=eE hs htr h1
 obtain ⟨k,hj⟩:=aAl (eE hs htr h2) hn
 obtain ⟨ei,hei,hes⟩:=kV hsz
 have run : ∀ ad : Addr,a.eval y=.pointer (some ad)→(execOp a.eval o).run P c.w=.ok (.value (.pointer (some (ad.add (n * s))))) c.w:=by
  intro ad hv
  simp [execOp,ho,hv,hj,Instr.indexAt,Instr.sureAddr,asIntOf,run_underlying hu,sizeOf,typeInfo,hei,hes,hlt]
 rcases hk with ⟨id,tot,idx,k',hk,rfl⟩ | ⟨cs,hk,rfl⟩ <;> rw [hk] at hx
 ·obtain ⟨ad,s',n',hv,g1,g2,g3⟩:=hx.ptr_inv
  refine gL hs (run ad hv) ?_
  refine .ptr id tot idx (k' + n * s) _ s' n' g1 g2 fun e=>?_
  obtain ⟨b,hb,rfl⟩:=g3 e
  exact ⟨b,hb,by rw [pO]; simp [Nat.add_assoc]⟩
 ·obtain ⟨b,k',cc,Ty,fz,vals,hv,g1,g2,g3,g4⟩:=hx.rptr_inv
  refine gL hs (run _ hv) ?_
  rw [pO]
  refine .rptr _ b (k' + n * s) cc Ty fz (fun j=>vals (n * s + j)) g1 g2 ?_ ?_
  ·intro j x hx
   rw [List.getElem?_drop] at hx
   have:=g3 _ x hx
   rwa [← Nat.add_assoc] at this
  ·intro j x hx
   rw [List.getElem?_drop] at hx
   exact g4 _ x hx
theorem aS8 [GlobT] (hs : Sim (ftOf T) c) (htr : TR (ftOf T) c tm a.tmps) {x i : AOpd} {y j : Operand} {t e : TypeId} {s n m : Nat} {agg : Bool} {cs : List AV} {v : AV} (ho : o.op=.index t y j)
  (h1 : eC T x y=true) (h2 : eC T i j=true) (hu : P.underlying t=some (.array m e)) (hsz : kL P e s=true) (hag : aHf P e agg=true) (h3 : agg=true ∨ s=1)
  (hn : uS (dU tm i)=some n) (hlt : n < m) (hx : dU tm x=.agg cs) (hle : n * s + s ≤ cs.length)
  (hv : if agg then v=.agg ((cs.drop (n * s)).take s) else (cs.drop (n * s)).take s=[v]) : OpOK P (ftOf T) c fl o a v c.H:=by
 have hr:=eE hs htr h1
 rw [hx] at hr
 obtain ⟨k,hj⟩:=aAl (eE hs htr h2) hn
 obtain ⟨ei,hei,hes⟩:=kV hsz
 obtain ⟨cv,vals,e',_⟩:=hr.agg_inv
 rw [e'] at hr
 obtain ⟨r,k1,k2⟩:=aWl (P:=P) hr hag hsz hle hv h3
 refine gL (cv:=r) hs ?_ k2
 simp [execOp,ho,e',hj,Instr.index,asIntOf,run_underlying hu,sizeOf,typeInfo,hei,hes,hlt,k1]
theorem aUz [GlobT] (hs : Sim (ftOf T) c) (htr : TR (ftOf T) c tm a.tmps) {x : AOpd} {y : Operand} {i : Nat} {vs : List AV} {v : AV} (ho : o.op=.extract y i)
  (h : eC T x y=true) (hx : dU tm x=.tup vs) (hv : vs[i]? = some v) : OpOK P (ftOf T) c fl o a v c.H:=by
 have hr:=eE hs htr h
 rw [hx] at hr
 obtain ⟨cv,vals,e,g1,g2,g3⟩:=hr.tup_inv
 refine gL (cv:=vals i) hs ?_ (g3 i v hv)
 simp [execOp,ho,e,Instr.extract,g2 i v hv]
theorem aNm [GlobT] (hs : Sim (ftOf T) c) (htr : TR (ftOf T) c tm a.tmps) : ∀ {xs : List AOpd} {ys : List Operand},nN T xs ys=true →
  xs.length=ys.length∧∀ (i : Nat) (x : AV),(xs.map (dU tm))[i]? = some x→∃ v,(ys.map a.eval)[i]? = some v∧RV (ftOf T) c x v
 | [],[],_=>⟨rfl,fun i x hx=>by simp at hx⟩
 | x :: r,y :: s,h=>by
  simp only [nN,Bool.and_eq_true] at h
  obtain ⟨h1,h2⟩:=aNm hs htr h.2
  refine ⟨by simp [h1],fun i z hz=>?_⟩
  cases i with
  | zero =>
   simp only [List.map_cons,List.getElem?_cons_zero,Option.some.injEq] at hz
   subst hz
   exact ⟨a.eval y,by simp,eE hs htr h.1⟩
  | succ i =>
   simp only [List.map_cons,List.getElem?_cons_succ] at hz ⊢
   exact h2 i z hz
 | [],_ :: _,h=>by cases h
 | _ :: _,[],h=>by cases h
theorem bD1 [GlobT] (hs : Sim (ftOf T) c) (htr : TR (ftOf T) c tm a.tmps) {vi f : Nat} {caps : List AOpd} {cs : Array Operand} (ho : o.op=.makeFunc (.func f) #[] cs)
  (hf : ftOf T vi=some f) (h : nN T caps cs.toList=true) : OpOK P (ftOf T) c fl o a (.fn vi (caps.map (dU tm))) c.H:=by
 obtain ⟨h1,h2⟩:=aNm hs htr h
 refine gL (cv:=.func (.func f) #[] (cs.map a.eval)) hs (by simp [execOp,ho,Instr.makeFunc]) ?_
 refine .fn vi f _ _ (fun i=>((cs.toList.map a.eval)[i]?).getD gD) hf (by simpa using h1.symm) ?_ ?_
 ·intro i x hx
  obtain ⟨v,g1,g2⟩:=h2 i x hx
  simp only [g1,Option.getD_some]
  simpa using g1
 ·intro i x hx
  obtain ⟨v,g1,g2⟩:=h2 i x hx
  simpa only [g1,Option.getD_some] using g2
theorem bAa [GlobT] (hs : Sim (ftOf T) c) (hfl : fl ≤ c.H.length) {t : TypeId} (ho : o.op=.makeMap t none) : OpOK P (ftOf T) c fl o a (.mp c.H.length) (c.H++[.mp []]):=by
 refine mH (cv:=.map (some c.w.heap.size)) (w':=c.w.alloc (.map #[] 0)) (β':=upd c.β c.H.length c.w.heap.size) ?_
  (aGl (ob:=.map #[] 0) hfl rfl rfl rfl rfl (fun id b hb=>hs.lt hb)) (aNd (ob:=.map #[] 0) hs rfl rfl rfl rfl ?_ ?_ ?_ (fun _ h=>by cases h)) ?_
 ·simp [execOp,ho,Instr.makeMap]
 ·intro s es he; cases he
 ·intro s es he; cases he
 ·intro ents he; cases he; exact ⟨rfl,0,rfl⟩
 ·exact .mp _ _ ⟨.mp [],by simp,trivial⟩ (mG _ _ _)
theorem aRi [GlobT] (hs : Sim (ftOf T) c) (htr : TR (ftOf T) c tm a.tmps) (hfl : fl ≤ c.H.length) {x : AOpd} {y : Operand} {t : TypeId} {s : ByteArray} (ho : o.op=.range t y) (h : eC T x y=true) (hu : P.underlying t=some .string) (hx : dU tm x=.lit (.string s)) :
  OpOK P (ftOf T) c fl o a (.it c.H.length) (c.H++[.raw (.stringIter s 0)]):=by
 have hr:=eE hs htr h
 rw [hx] at hr
 have hv:=hr.lit_inv
 refine mH (cv:=.pointer (some ⟨c.w.heap.size,0,none⟩)) (w':=c.w.alloc (.stringIter s 0)) (β':=upd c.β c.H.length c.w.heap.size) ?_
  (aGl (ob:=.stringIter s 0) hfl rfl rfl rfl rfl (fun id b hb=>hs.lt hb)) (aNd (ob:=.stringIter s 0) hs rfl rfl rfl rfl ?_ ?_ ?_ ?_) ?_
 ·simp [execOp,ho,Instr.range,run_underlying hu,hv]
 ·intro s es he; cases he
 ·intro s es he; cases he
 ·intro ents he; cases he
 ·intro q he; cases he; rfl
 ·exact .it _ _ ⟨.raw (.stringIter s 0),by simp,trivial⟩ (mG _ _ _)
theorem aUw [GlobT] (hs : Sim (ftOf T) c) (htr : TR (ftOf T) c tm a.tmps) {x : AOpd} {y : Operand} {id pos : Nat} {s : ByteArray} (ho : o.op=.next y true) (h : eC T x y=true) (hx : dU tm x=.it id) (hfl : fl ≤ id) (hob : c.H[id]? = some (.raw (.stringIter s pos))) (hp : pos < s.size) :
  OpOK P (ftOf T) c fl o a (.tup [.lit (.bool true),.lit (.int .i64 pos),.lit (.int .i32 (Utf8.decode s pos).1)]) (c.H.set id (.raw (.stringIter s (pos + (Utf8.decode s pos).2)))):=by
 have hr:=eE hs htr h
 rw [hx] at hr
 obtain ⟨b,hv,_,hb⟩:=hr.it_inv
 have g1:=hs.raw id _ b hob hb
 have hget : (getObj b).run P c.w=.ok (.stringIter s pos) c.w:=by simp [getObj,Sem.run,g1]
 have hset : ∀ ob,(setObj b ob).run P c.w=.ok () { c.w with heap:=c.w.heap.setIfInBounds b ob }:=by
  intro ob; simp [setObj,Sem.run,g1]
 refine mH (cv:=.tuple #[.bool true,.int .i64 pos,.int .i32 (Utf8.decode s pos).1]) (β':=c.β) (w':={ c.w with heap:=c.w.heap.setIfInBounds b (.stringIter s (pos + (Utf8.decode s pos).2)) }) ?_
  (aJy (q':=.stringIter s (pos + (Utf8.decode s pos).2)) hs hfl hob hb rfl rfl rfl rfl) (aUq hs hob hb rfl rfl rfl rfl) ?_
 ·simp [execOp,ho,hv,Instr.next,hget,hset,hp,goInt]
 ·refine .tup _ _ (fun i=>if i=0 then .bool true else if i=1 then .int .i64 pos else .int .i32 (Utf8.decode s pos).1) rfl ?_ ?_
  ·intro i x hx
   match i with
   | 0=>rfl
   | 1=>rfl
   | 2=>rfl
   | n + 3=>simp at hx
  ·intro i x hx
   match i with
   | 0=>simp at hx; subst hx; exact RV.lit _
   | 1=>simp at hx; subst hx; exact RV.lit _
   | 2=>simp at hx; subst hx; exact RV.lit _
   | n + 3=>simp at hx
theorem aUv [GlobT] (hs : Sim (ftOf T) c) (htr : TR (ftOf T) c tm a.tmps) {x : AOpd} {y : Operand} {id pos : Nat} {s : ByteArray} (ho : o.op=.next y true) (h : eC T x y=true) (hx : dU tm x=.it id) (hob : c.H[id]? = some (.raw (.stringIter s pos))) (hp : ¬ pos < s.size) :
  OpOK P (ftOf T) c fl o a (.tup [.lit (.bool false)]) c.H:=by
 have hr:=eE hs htr h
 rw [hx] at hr
 obtain ⟨b,hv,_,hb⟩:=hr.it_inv
 have g1:=hs.raw id _ b hob hb
 have hget : (getObj b).run P c.w=.ok (.stringIter s pos) c.w:=by simp [getObj,Sem.run,g1]
 refine gL (cv:=.tuple #[.bool false]) hs ?_ ?_
 ·simp [execOp,ho,hv,Instr.next,hget,hp]
 ·refine .tup _ _ (fun _=>.bool false) rfl ?_ ?_
  ·intro i x hx
   match i with
   | 0=>rfl
   | n + 1=>simp at hx
  ·intro i x hx
   match i with
   | 0=>simp at hx; subst hx; exact RV.lit _
   | n + 1=>simp at hx
theorem aNn [GlobT] (hs : Sim (ftOf T) c) (htr : TR (ftOf T) c tm a.tmps) {x : AOpd} {y : Operand} {t e : TypeId} {n : Nat} (ho : o.op=.call ⟨.builtin .len,#[y],#[t]⟩)
  (h : eC T x y=true) (hu : P.underlying t=some (.slice e))
  (hk : (dU tm x=.lit (.slice none 0 0)∧n=0) ∨ (∃ f es,dU tm x=.sl f es∧n=es.length) ∨ (∃ id tot off,dU tm x=.ms id tot off n) ∨ ∃ es,dU tm x=.vw es∧n=es.length) :
  OpOK P (ftOf T) c fl o a (.lit (.int .i64 n)) c.H:=by
 have hx:=eE hs htr h
 have hv : ∃ ad cap,a.eval y=.slice ad n cap:=by
  rcases hk with ⟨hk,rfl⟩ | ⟨f,es,hk,rfl⟩ | ⟨id,tot,off,hk⟩ | ⟨es,hk,rfl⟩ <;> rw [hk] at hx
  ·exact ⟨none,0,hx.lit_inv⟩
  ·have hp:=hx.sl_inv
   generalize a.eval y=w at hp
   cases hp with
   | nil _ ad cap=>exact ⟨ad,cap,rfl⟩
   | sl _ _ b off cap=>exact ⟨_,cap,rfl⟩
  ·obtain ⟨ad,cap,s,n',hv,_⟩:=hx.ms_inv
   exact ⟨ad,cap,hv⟩
  ·obtain ⟨ad,cap,hv,_⟩:=hx.vw_inv
   exact ⟨ad,cap,hv⟩
 obtain ⟨ad,cap,hv⟩:=hv
 refine gL (cv:=.int .i64 n) hs ?_ (RV.lit _)
 simp [execOp,ho,resolve,invoke,builtin,Builtin.len_,run_underlying hu,hv,goInt]
theorem aWx [GlobT] (hs : Sim (ftOf T) c) (htr : TR (ftOf T) c tm a.tmps) {x : AOpd} {y : Operand} {t e : TypeId} {n : Nat} (ho : o.op=.call ⟨.builtin .cap,#[y],#[t]⟩)
  (h : eC T x y=true) (hu : P.underlying t=some (.slice e))
  (hk : (dU tm x=.lit (.slice none 0 0)∧n=0) ∨ (∃ es,dU tm x=.sl true es∧n=es.length)) :
  OpOK P (ftOf T) c fl o a (.lit (.int .i64 n)) c.H:=by
 have hx:=eE hs htr h
 have hv : ∃ ad len,a.eval y=.slice ad len n:=by
  rcases hk with ⟨hk,rfl⟩ | ⟨es,hk,rfl⟩ <;> rw [hk] at hx
  ·exact ⟨none,0,hx.lit_inv⟩
  ·have hp:=hx.sl_inv
   generalize a.eval y=w at hp
   cases hp with
   | nil _ ad cap hf=>exact ⟨ad,0,by rw [hf rfl]; rfl⟩
   | sl _ _ b off cap cc Ty fz s vals g1 g2 g3 g4 g5 g6 g7 g8=>exact ⟨_,_,by rw [g6 rfl]⟩
 obtain ⟨ad,len,hv⟩:=hv
 refine gL (cv:=.int .i64 n) hs ?_ (RV.lit _)
 simp [execOp,ho,resolve,invoke,builtin,Builtin.cap_,run_underlying hu,hv,goInt]
theorem aRk [GlobT] (hs : Sim (ftOf T) c) (htr : TR (ftOf T) c tm a.tmps) {x : AOpd} {y : Operand} {t k e : TypeId} {n : Nat} (ho : o.op=.call ⟨.builtin .len,#[y],#[t]⟩)
  (h : eC T x y=true) (hu : P.underlying t=some (.map k e))
  (hk : (dU tm x=.lit (.map none)∧n=0) ∨ (∃ id ents,dU tm x=.mp id∧c.H[id]? = some (.mp ents)∧n=ents.length) ∨ ∃ ents,dU tm x=.rmp ents∧n=ents.length) :
  OpOK P (ftOf T) c fl o a (.lit (.int .i64 n)) c.H:=by
 have hx:=eE hs htr h
 refine gL (cv:=.int .i64 n) hs ?_ (RV.lit _)
 rcases hk with ⟨hk,rfl⟩ | ⟨id,ents,hk,hob,rfl⟩ | ⟨ents,hk,rfl⟩ <;> rw [hk] at hx
 ·simp [execOp,ho,resolve,invoke,builtin,Builtin.len_,run_underlying hu,hx.lit_inv,goInt]
 ·obtain ⟨b,hv,_,hb⟩:=hx.mp_inv
  obtain ⟨es,clk,g1,g2,_⟩:=hs.map id ents b hob hb
  simp [execOp,ho,resolve,invoke,builtin,Builtin.len_,run_underlying hu,hv,goInt,getObj,Sem.run,g1,g2.1]
 ·obtain ⟨b,es,clk,vals,hv,g1,g2,_⟩:=hx.rmp_inv
  simp [execOp,ho,resolve,invoke,builtin,Builtin.len_,run_underlying hu,hv,goInt,getObj,Sem.run,g1,g2]
theorem aWv [GlobT] (hs : Sim (ftOf T) c) (htr : TR (ftOf T) c tm a.tmps) {x : AOpd} {y : Operand} {t : TypeId} {v r : Value} (ho : o.op=.call ⟨.builtin .len,#[y],#[t]⟩)
  (h : eC T x y=true) (hx : dU tm x=.lit v) (hr : eD P (Builtin.len_ #[t] 0 #[v])=some r) : OpOK P (ftOf T) c fl o a (.lit r) c.H:=by
 have hrv:=eE hs htr h
 rw [hx] at hrv
 refine gL (cv:=r) hs ?_ (RV.lit _)
 have h0:=iB (w:=c.w) hr
 have e : Builtin.len_ #[t] o.type #[v]=Builtin.len_ #[t] 0 #[v]:=rfl
 simp [execOp,ho,resolve,invoke,builtin,hrv.lit_inv,e,h0]
theorem bD2 [GlobT] (hs : Sim (ftOf T) c) {y : Operand} {t e : TypeId} {n : Nat} (ho : o.op=.call ⟨.builtin .len,#[y],#[t]⟩)
  (hu : P.underlying t=some (.array n e)) : OpOK P (ftOf T) c fl o a (.lit (.int .i64 n)) c.H:=by
 refine gL (cv:=.int .i64 n) hs ?_ (RV.lit _)
 simp [execOp,ho,resolve,invoke,builtin,Builtin.len_,run_underlying hu,goInt]
theorem aPe [GlobT] (hs : Sim (ftOf T) c) (htr : TR (ftOf T) c tm a.tmps) {xs : List AOpd} {ys : Array Operand} {ts : Array TypeId} {vs : List Value} {r : Value} {b : Builtin} (ho : o.op=.call ⟨.builtin b,ys,ts⟩)
  (hb : b=.max ∨ b=.min) (h : nN T xs ys.toList=true) (hv : litL (xs.map (dU tm))=some vs)
  (hr : eD P (if b=.max then Builtin.max_ #[] 0 vs.toArray else Builtin.min_ #[] 0 vs.toArray)=some r) : OpOK P (ftOf T) c fl o a (.lit r) c.H:=by
 obtain ⟨h1,h2⟩:=aNm hs htr h
 have e:=aRt hv
 have hvs : ys.map a.eval=vs.toArray:=by
  apply Array.ext_getElem?
  intro i
  have hl : vs.length=xs.length:=by have:=congrArg List.length e; simpa using this.symm
  by_cases hi : i < vs.length
  ·have hx : (xs.map (dU tm))[i]? = some (.lit vs[i]):=by rw [e]; simp [hi]
   obtain ⟨v,g1,g2⟩:=h2 i _ hx
   have:=g2.lit_inv
   subst this
   have : (ys.map a.eval)[i]? = some vs[i]:=by simpa using g1
   rw [this]; simp [hi]
  ·have hy : ys.size=vs.length:=by simpa [hl] using h1.symm
   rw [Array.getElem?_eq_none (by simp; omega),Array.getElem?_eq_none (by simp; omega)]
 refine gL (cv:=r) hs ?_ (RV.lit _)
 have h0:=iB (w:=c.w) hr
 rcases hb with rfl | rfl
 ·simp only [if_true] at h0
  have e2 : ∀ (as : Array Value) (ty : TypeId),Builtin.max_ ts ty as=Builtin.max_ #[] 0 as:=fun _ _=>rfl
  simp [execOp,ho,resolve,invoke,builtin,hvs,e2,h0]
 ·rw [if_neg (by simp)] at h0
  have e2 : ∀ (as : Array Value) (ty : TypeId),Builtin.min_ ts ty as=Builtin.min_ #[] 0 as:=fun _ _=>rfl
  simp [execOp,ho,resolve,invoke,builtin,hvs,e2,h0]
end
end Go.Proofs.YtapabkfjeiknbaaGreat.Av
namespace Go.Proofs.YtapabkfjeiknbaaGreat.Av
open Go
section
variable {P : Program} {T : List AFun} {c : Ctx} {fl : Nat} {o : Oper} {a : Act} {tm : List AV}
def aHh (FT : Nat→Option Nat) (c : Ctx) (cs : List AV) (cv : Array Value) : Prop :=
 cv.size=cs.length∧∀ (j : Nat) (x : AV),cs[j]? = some x→∃ v,cv[j]? = some v∧gA v=true∧RV FT c x v
theorem aPx (off : Nat) (v cells : Array Value) : (v.zipIdx.foldl (fun cs (x : Value × Nat)=>cs.setIfInBounds (off + x.2) x.1) cells).size=cells.size ∧
  ∀ k,(v.zipIdx.foldl (fun cs (x : Value × Nat)=>cs.setIfInBounds (off + x.2) x.1) cells)[k]? = if off ≤ k∧k < off + v.size∧k < cells.size then v[k - off]? else cells[k]?:=by
 have e : v.zipIdx.foldl (fun cs (x : Value × Nat)=>cs.setIfInBounds (off + x.2) x.1) cells=(v.toList.zipIdx 0).foldl (fun cs (x : Value × Nat)=>cs.setIfInBounds (off + x.2) x.1) cells:=by
  rw [← Array.foldl_toList]; simp
 rw [e]
 have h:=Great.foldl_set off v.toList 0 cells
 simpa using h
theorem aPy {place : Nat→Option (Nat × Nat)} {cells : Array Value} {i off size : Nat} {v : Value} {rest : List (Nat × Value)} (hp : place i=some (off,size)) (h1 : v.cells.size=size) (h2 : off + size ≤ cells.size) :
  Instr.fill place cells ((i,v) :: rest)=Instr.fill place (v.cells.zipIdx.foldl (fun cs (x : Value × Nat)=>cs.setIfInBounds (off + x.2) x.1) cells) rest:=by
 rw [Instr.fill]
 simp only [hp,h1]
 rw [if_neg (by simp; omega)]
theorem aSc [GlobT] (hs : Sim (ftOf T) c) (htr : TR (ftOf T) c tm a.tmps) {place : Nat→Option (Nat × Nat)} : ∀ (ps : List (Nat × Nat × AOpd)) (qs : List (Nat × Operand)) (cells cs : List AV) (cv : Array Value),
  aG5 T place ps qs=true→aHh (ftOf T) c cells cv→aSd cells (ps.map fun (o,s,x)=>(o,s,dU tm x))=some cs →
  ∃ r,Instr.fill place cv (qs.map fun (i,x)=>(i,a.eval x))=some r∧aHh (ftOf T) c cs r
 | [],[],cells,cs,cv,_,hc,hf=>by
  simp only [List.map_nil,aSd,Option.some.injEq] at hf
  subst hf
  exact ⟨cv,rfl,hc⟩
 | (off,s,x) :: ps,(i,y) :: qs,cells,cs,cv,hk,hc,hf=>by
  simp only [aG5,Bool.and_eq_true] at hk
  obtain ⟨⟨hp,hx⟩,hrest⟩:=hk
  have hp' : place i=some (off,s):=by simpa using hp
  simp only [List.map_cons,aSd] at hf
  split at hf
  ·cases hf
  ·rename_i ys hy
   split at hf
   ·rename_i hcond
    obtain ⟨v1,v2⟩:=aE1 (eE hs htr hx) hy
    have hvs : (a.eval y).cells.size=s:=v1.trans hcond.1
    obtain ⟨g1,g2⟩:=aPx off (a.eval y).cells cv
    have hnew : aHh (ftOf T) c (jM cells off ys) ((a.eval y).cells.zipIdx.foldl (fun cs (x : Value × Nat)=>cs.setIfInBounds (off + x.2) x.1) cv):=by
     refine ⟨by rw [g1,kI (by omega)]; exact hc.1,fun j z hz=>?_⟩
     rw [g2 j]
     rw [aEp (by omega)] at hz
     have hsz:=hc.1
     split at hz
     ·rename_i hj
      rw [if_neg (by omega)]
      exact hc.2 j z hz
     ·rename_i hj
      split at hz
      ·rename_i hj2
       rw [if_pos (by omega)]
       exact v2 _ z hz
      ·rename_i hj2
       rw [if_neg (by omega)]
       exact hc.2 j z hz
    obtain ⟨r,k1,k2⟩:=aSc hs htr ps qs _ cs _ hrest hnew hf
    refine ⟨r,?_,k2⟩
    simp only [List.map_cons]
    rw [aPy hp' hvs (by rw [hc.1]; exact hcond.2)]
    exact k1
   ·cases hf
 | [],_ :: _,_,_,_,hk,_,_=>by cases hk
 | (_,_,_) :: _,[],_,_,_,hk,_,_=>by cases hk
theorem aF6 [GlobT] {FT : Nat→Option Nat} {z : List Value} (hsc : ∀ u ∈ z,gA u=true) : aHh FT c (z.map .lit) z.toArray:=by
 refine ⟨by simp,fun j x hx=>?_⟩
 simp only [List.getElem?_map,Option.map_eq_some_iff] at hx
 obtain ⟨u,hu,rfl⟩:=hx
 exact ⟨u,by simpa using hu,hsc u (List.mem_of_getElem? hu),RV.lit u⟩
theorem aVl {FT : Nat→Option Nat} {cs : List AV} {cv : Array Value} (h : aHh FT c cs cv) : RV FT c (.agg cs) (.agg cv):=by
 refine .agg cs cv (fun i=>(cv[i]?).getD gD) h.1 ?_ ?_
 ·intro i x hx
  obtain ⟨v,g1,g2,_⟩:=h.2 i x hx
  simp [g1,g2]
 ·intro i x hx
  obtain ⟨v,g1,_,g3⟩:=h.2 i x hx
  simpa [g1] using g3
theorem aRr {fs : List Field} (h : aOh P fs=true) : ∃ places,fs.mapM (fun f=>(P.info? f.type).map fun i=>(f.offset,i.size))=some places ∧
  ∀ i,places[i]? = aIf P fs.toArray i:=by
 induction fs with
 | nil=>exact ⟨[],by simp,fun i=>by simp [aIf]⟩
 | cons f fs ih =>
  simp only [aOh,List.all_cons,Bool.and_eq_true] at h
  obtain ⟨pl,h1,h2⟩:=ih h.2
  obtain ⟨n,hn⟩:=Option.isSome_iff_exists.1 h.1
  refine ⟨(f.offset,n.size) :: pl,by simp [List.mapM_cons,hn,h1],fun i=>?_⟩
  cases i with
  | zero=>simp [aIf,hn]
  | succ i =>
   have:=h2 i
   simp only [List.getElem?_cons_succ,this]
   simp [aIf]
theorem bAj [GlobT] (hs : Sim (ftOf T) c) (htr : TR (ftOf T) c tm a.tmps) {z : List Value} {ps : List (Nat × Nat × AOpd)} {qs : Array (Nat × Operand)} {t : TypeId} {cs : List AV} (ho : o.op=.build t qs)
  (hz : yY P t z=true) (hc : jY P T (.build z ps) (.build t qs)=true) (hf : aSd (z.map .lit) (ps.map fun (o,s,x)=>(o,s,dU tm x))=some cs) :
  OpOK P (ftOf T) c fl o a (.agg cs) c.H:=by
 obtain ⟨i,v,hi,hv,hvc,hsc⟩:=qN hz
 simp only [jY,hz,Bool.true_and] at hc
 have hbuilt : ∃ r,P.built t (qs.map fun (i,x)=>(i,a.eval x)).toList=some r∧aHh (ftOf T) c cs r:=by
  have hql : (qs.map fun (i,x)=>(i,a.eval x)).toList=qs.toList.map fun (i,x)=>(i,a.eval x):=by simp
  rw [hql]
  split at hc
  ·rename_i fs hu
   simp only [Bool.and_eq_true] at hc
   obtain ⟨pl,h1,h2⟩:=aRr hc.1
   have hpl : (fun i=>pl.toArray[i]?)=aIf P fs:=by
    funext i
    have:=h2 i
    simpa using this
   obtain ⟨r,k1,k2⟩:=aSc hs htr ps qs.toList _ cs _ hc.2 (aF6 hsc) hf
   refine ⟨r,?_,k2⟩
   unfold Program.built
   simp only [hi,hu,hv,h1,hpl,hvc]
   exact k1
  ·rename_i n e hu
   split at hc
   ·rename_i ie hie
    obtain ⟨r,k1,k2⟩:=aSc hs htr ps qs.toList _ cs _ hc (aF6 hsc) hf
    refine ⟨r,?_,k2⟩
    unfold Program.built
    simp only [hi,hu,hv,hie,hvc]
    exact k1
   ·cases hc
  ·cases hc
 obtain ⟨r,k1,k2⟩:=hbuilt
 refine gL (cv:=.agg r) hs ?_ (aVl k2)
 simp only [execOp,ho,Sem.run_bind,run_build c.w t _ r k1,Result.andThen_ok,Sem.run_pure]
def bBd (FT : Nat→Option Nat) (c : Ctx) (s : Nat) (es : List (List AV)) (cv : Array Value) : Prop :=
 cv.size=es.length * s∧(∀ e ∈ es,e.length=s)∧∀ i j x,hZ es i j=some x→∃ v,cv[i * s + j]? = some v∧gA v=true∧RV FT c x v
theorem aTt [GlobT] (hs : Sim (ftOf T) c) (htr : TR (ftOf T) c tm a.tmps) {s : Nat} : ∀ (ps : List (Nat × AOpd)) (qs : List (Nat × Operand)) (es es' : List (List AV)) (cv : Array Value),
  aG7 T ps qs=true→bBd (ftOf T) c s es cv→aN5 s es (ps.map fun (i,x)=>(i,dU tm x))=some es' →
  es'.length=es.length∧∃ r,Instr.fill (fun i=>some (i * s,s)) cv (qs.map fun (i,x)=>(i,a.eval x))=some r∧bBd (ftOf T) c s es' r
 | [],[],es,es',cv,_,hc,hf=>by
  simp only [List.map_nil,aN5,Option.some.injEq] at hf
  subst hf
  exact ⟨rfl,cv,rfl,hc⟩
 | (i,x) :: ps,(i',y) :: qs,es,es',cv,hk,hc,hf=>by
  simp only [aG7,Bool.and_eq_true,beq_iff_eq] at hk
  obtain ⟨⟨rfl,hx⟩,hrest⟩:=hk
  simp only [List.map_cons,aN5] at hf
  split at hf
  ·cases hf
  ·rename_i ys hy
   split at hf
   ·rename_i hcond
    obtain ⟨v1,v2⟩:=aE1 (eE hs htr hx) hy
    have hvs : (a.eval y).cells.size=s:=v1.trans hcond.1
    have hlt : (i + 1) * s ≤ es.length * s:=Nat.mul_le_mul_right s hcond.2
    rw [Nat.add_mul] at hlt
    obtain ⟨g1,g2⟩:=aPx (i * s) (a.eval y).cells cv
    have hnew : bBd (ftOf T) c s (es.set i ys) ((a.eval y).cells.zipIdx.foldl (fun cs (x : Value × Nat)=>cs.setIfInBounds (i * s + x.2) x.1) cv):=by
     refine ⟨by rw [g1]; simpa using hc.1,?_,?_⟩
     ·intro e he
      rcases List.mem_or_eq_of_mem_set he with h | h
      ·exact hc.2.1 e h
      ·rw [h]; exact hcond.1
     ·intro k j z hz
      rw [g2]
      obtain ⟨e1,h1,h2⟩:=jJ hz
      by_cases ek : k=i
      ·subst ek
       have : e1=ys:=by
        rw [List.getElem?_set] at h1
        simp only [hcond.2,if_true] at h1
        exact (Option.some.inj h1).symm
       subst this
       have hj : j < s:=by rw [← hcond.1]; exact (List.getElem?_eq_some_iff.1 h2).1
       have hsz:=hc.1
       rw [if_pos (by omega)]
       obtain ⟨u,w1,w2,w3⟩:=v2 j z h2
       refine ⟨u,?_,w2,w3⟩
       rw [← w1]; congr 1; omega
      ·rw [getElem?_set_ne' ek] at h1
       have hj : j < s:=by rw [← hc.2.1 e1 (List.mem_of_getElem? h1)]; exact (List.getElem?_eq_some_iff.1 h2).1
       have hout : ¬ (i * s ≤ k * s + j∧k * s + j < i * s + (a.eval y).cells.size∧k * s + j < cv.size):=by
        rcases Nat.lt_or_gt_of_ne ek with h | h
        ·have : (k + 1) * s ≤ i * s:=Nat.mul_le_mul_right s h
         rw [Nat.add_mul] at this; omega
        ·have : (i + 1) * s ≤ k * s:=Nat.mul_le_mul_right s h
         rw [Nat.add_mul] at this; omega
       rw [if_neg hout]
       exact hc.2.2 k j z (by simp [hZ,h1,h2])
    obtain ⟨hl,r,k1,k2⟩:=aTt hs htr ps qs _ es' _ hrest hnew hf
    refine ⟨by simpa using hl,r,?_,k2⟩
    simp only [List.map_cons]
    rw [aPy (off:=i * s) (size:=s) rfl hvs (by rw [hc.1]; omega)]
    exact k1
   ·cases hf
 | [],_ :: _,_,_,_,hk,_,_=>by cases hk
 | (_,_) :: _,[],_,_,_,hk,_,_=>by cases hk
theorem aLn [GlobT] {n i j : Nat} {e : List AV} {x : AV} (h : hZ (List.replicate n e) i j=some x) : i < n∧e[j]? = some x:=by
 obtain ⟨e1,h1,h2⟩:=jJ h
 rw [List.getElem?_replicate] at h1
 split at h1
 ·cases h1; exact ⟨by assumption,h2⟩
 ·cases h1
theorem aEr [GlobT] {FT : Nat→Option Nat} {s n m : Nat} {z : List Value} {cv : Array Value} (hz : z.length=s) (hsc : ∀ u ∈ z,gA u=true) (hv : cv.toList=z) (hnm : n ≤ m) :
  (∀ e ∈ List.replicate n (z.map AV.lit),e.length=s)∧∀ i j x,hZ (List.replicate n (z.map AV.lit)) i j=some x →
   ∃ v,((Array.range (m * s)).map (cv[· % cv.size]!))[i * s + j]? = some v∧gA v=true∧RV FT c x v:=by
 refine ⟨fun e he=>by rw [List.mem_replicate] at he; rw [he.2]; simpa using hz,fun i j x hx=>?_⟩
 obtain ⟨hi,hj⟩:=aLn hx
 simp only [List.getElem?_map,Option.map_eq_some_iff] at hj
 obtain ⟨u,hu,rfl⟩:=hj
 have hjs : j < s:=by rw [← hz]; exact (List.getElem?_eq_some_iff.1 hu).1
 have hcs : cv.size=s:=by rw [← Array.length_toList,hv,hz]
 have hlt : i * s + j < m * s:=aS4 (by omega) hjs
 have hmod : (i * s + j) % cv.size=j:=by rw [hcs,Nat.mul_comm,Nat.mul_add_mod,Nat.mod_eq_of_lt hjs]
 refine ⟨u,?_,hsc u (List.mem_of_getElem? hu),RV.lit u⟩
 have hcu : cv[j]? = some u:=by rw [← Array.getElem?_toList,hv]; exact hu
 simp only [Array.getElem?_map,Array.getElem?_range,hlt,if_true,Option.map_some,hmod]
 rw [getElem!_def,hcu]
end
end Go.Proofs.YtapabkfjeiknbaaGreat.Av
namespace Go.Proofs.YtapabkfjeiknbaaGreat.Av
open Go
section
variable {P : Program} {T : List AFun} {c : Ctx} {fl : Nat} {o : Oper} {a : Act} {tm : List AV}
theorem aOs [GlobT] {FT : Nat→Option Nat} {x : AV} {v : Value} (h : RV FT c x v) : RP c.w (Imm c) (toP x) v:=by
 cases h with
 | pure _ _ hp =>
  have:=aTe hp
  cases hp with
  | undef v=>exact .undef v
  | lit v=>exact this
  | nil f a' cap hf=>exact this
  | sl f es b off cap cc T fz s vals h1 h2 h3 h4 h5 h6 h7 h8=>exact this
  | sptr cs b off cc T fz vals h1 h2 h3 h4=>exact .sptr cs b off cc T fz vals h1 h2 h3 h4
  | rmp ents b es clk vals h1 h2 h3 h4 h5 h6=>exact .rmp ents b es clk vals h1 h2 h3 h4 h5 h6
 | _=>exact .undef _
theorem tO [GlobT] {f : AV→AV} {es : List (List AV)} {i j : Nat} {x : AV} (h : hZ (es.map fun e=>e.map f) i j=some x) : ∃ y,hZ es i j=some y∧x=f y:=by
 obtain ⟨e1,h1,h2⟩:=jJ h
 simp only [List.getElem?_map,Option.map_eq_some_iff] at h1
 obtain ⟨e,he,rfl⟩:=h1
 simp only [List.getElem?_map,Option.map_eq_some_iff] at h2
 obtain ⟨y,hy,rfl⟩:=h2
 exact ⟨y,by simp [hZ,he,hy],rfl⟩
theorem aCr [GlobT] (hs : Sim (ftOf T) c) (hfl : fl ≤ c.H.length) {s n cap : Nat} {es : List (List AV)} {cv : Array Value} {t : TypeId} {w' : World} (pu : Bool)
  (hn : es.length=n) (hle : n ≤ cap) (hpu : pu=true→cap=n) (hh : w'.heap=c.w.heap.push (.cells cv t (0,0))) (h1 : w'.os=c.w.os) (h2 : w'.tape=c.w.tape) (h3 : w'.output=c.w.output)
  (hr : (execOp a.eval o).run P c.w=.ok (.value (.slice (some ⟨c.w.heap.size,0,none⟩) n cap)) w')
  (hsz : cv.size=cap * s) (hl : ∀ e ∈ es,e.length=s) (hc : ∀ i j x,hZ es i j=some x→∃ v,cv[i * s + j]? = some v∧gA v=true∧RV (ftOf T) c x v) (hd : c.w.drawn ≤ w'.drawn:=by first | exact Nat.le_refl _ | exact Nat.le_succ _ | exact Nat.le_add_right _ _ | assumption) :
  OpOK P (ftOf T) c fl o a (if pu then .sl true (es.map fun e=>e.map toP) else .ms c.H.length n 0 n) (if pu then c.H else c.H++[.blk s es]):=by
 cases pu with
 | true =>
  have hcap:=hpu rfl
  subst hcap
  simp only [if_true]
  have hst:=aOt (fl:=fl) hs hh h1 h2 h3
  refine mH (β':=c.β) hr hst (aZq hs hh h1 h2 h3) (.pure _ _ ?_)
  have himm : Imm ⟨w',c.X,c.β,c.H⟩ c.w.heap.size:=⟨hs.fresh _ (Nat.le_refl _),fun id hid=>by have:=hs.lt hid; omega⟩
  by_cases he : es=[]
  ·subst he
   simp only [List.length_nil] at hn
   subst hn
   exact .nil true _ 0 (fun _=>rfl)
  ·have hlen : (es.map fun e=>e.map toP).length=cap:=by simpa using hn
   have:=RP.sl (w:=w') (I:=Imm ⟨w',c.X,c.β,c.H⟩) true (es.map fun e=>e.map toP) c.w.heap.size 0 cap cv t (0,0) s (fun i j=>(cv[i * s + j]?).getD gD) (by simpa using he) himm
    (by simp [hh]) (fun e he=>by simp only [List.mem_map] at he; obtain ⟨e0,h0,rfl⟩:=he; simpa using hl e0 h0) (by omega) (fun _=>hlen.symm)
    (fun i j x hx=>by
     obtain ⟨y,hy,rfl⟩:=tO hx
     obtain ⟨v,g1,g2,g3⟩:=hc i j y hy
     simp [g1,g2])
    (fun i j x hx=>by
     obtain ⟨y,hy,rfl⟩:=tO hx
     obtain ⟨v,g1,g2,g3⟩:=hc i j y hy
     simp only [g1,Option.getD_some]
     exact aOs (g3.step hst))
   rw [hlen] at this
   exact this
 | false =>
  simp only [Bool.false_eq_true,if_false]
  refine mH (β':=upd c.β c.H.length c.w.heap.size) hr (aGl hfl hh h1 h2 h3 (fun id b hb=>hs.lt hb))
   (aNd hs hh h1 h2 h3 ?_ ?_ ?_ (fun _ h=>by cases h)) ?_
  ·intro s' es' he; cases he; exact hl
  ·intro s' es' he; cases he
   exact ⟨cv,t,rfl,by rw [hsz,hn]; exact Nat.mul_le_mul_right s hle,hc⟩
  ·intro ents he; cases he
  ·refine .ms _ n 0 n _ cap s n (by simp [shp,hn]) (Nat.le_refl _) hle fun _=>⟨by omega,.inr ⟨c.w.heap.size,cv,t,⟨c.w.heap.size,0,none⟩,mG _ _ _,by simp [hh],by simp [hsz],rfl,fun _=>by simp⟩⟩
theorem aU0 [GlobT] (hs : Sim (ftOf T) c) (htr : TR (ftOf T) c tm a.tmps) (hfl : fl ≤ c.H.length) {pu : Bool} {s n : Nat} {z : List Value} {ps : List (Nat × AOpd)} {qs : Array (Nat × Operand)} {t e : TypeId} {es : List (List AV)}
  (ho : o.op=.buildSlice t n qs) (hu : P.underlying t=some (.slice e)) (hsz : kL P e s=true) (hz : yY P e z=true) (hzl : z.length=s) (hs0 : 0 < s) (hsm : n * s ≤ 2 ^ 24)
  (hk : aG7 T ps qs.toList=true) (hf : aN5 s (List.replicate n (z.map .lit)) (ps.map fun (i,x)=>(i,dU tm x))=some es) :
  OpOK P (ftOf T) c fl o a (if pu then .sl true (es.map fun e=>e.map toP) else .ms c.H.length n 0 n) (if pu then c.H else c.H++[.blk s es]):=by
 obtain ⟨i,hi,his⟩:=kV hsz
 obtain ⟨i',v,hi',hv,hvc,hsc⟩:=qN hz
 rw [hi] at hi'
 cases hi'
 have hvl : v.cells.toList=z:=by rw [hvc]
 have hzr:=aEr (FT:=ftOf T) (c:=c) (n:=n) (m:=n) hzl hsc hvl (Nat.le_refl _)
 have hrow : bBd (ftOf T) c s (List.replicate n (z.map AV.lit)) ((Array.range (n * s)).map (v.cells[· % v.cells.size]!)):=⟨by simp,hzr.1,hzr.2⟩
 obtain ⟨hl,r,k1,k2⟩:=aTt hs htr ps qs.toList _ es _ hk hrow hf
 have hen : es.length=n:=by simpa using hl
 have hql : (qs.map fun (i,x)=>(i,a.eval x)).toList=qs.toList.map fun (i,x)=>(i,a.eval x):=by simp
 by_cases hn0 : n=0
 ·subst hn0
  have he : es=[]:=List.eq_nil_of_length_eq_zero hen
  subst he
  have hr : r=#[]:=Array.eq_empty_of_size_eq_zero (by simpa using k2.1)
  subst hr
  refine aCr hs hfl pu (cap:=0) (cv:=#[]) (t:=e) (w':=c.w.alloc (.cells #[] e (0,0))) rfl (Nat.le_refl _) (fun _=>rfl) rfl rfl rfl rfl ?_ (by simp) (by simp) (fun i j x hx=>by simp [hZ] at hx)
  have e0 : Array.range 0=#[]:=rfl
  have k1' : Instr.fill (fun i=>some (i * s,s)) #[] (qs.toList.map fun x=>(x.fst,a.eval x.snd))=some #[]:=by simpa [e0] using k1
  simp [execOp,ho,Instr.buildSlice,run_underlying hu,sizeOf,typeInfo,hi,his,k1',newRow,e0]
 ·refine aCr hs hfl pu (cap:=n) (cv:=r) (t:=e) (w':=c.w.alloc (.cells r e (0,0))) hen (Nat.le_refl _) (fun _=>rfl) rfl rfl rfl rfl ?_ (by rw [k2.1,hen]) k2.2.1 k2.2.2
  have hrun:=run_buildSlice (P:=P) c.w t e n (qs.map fun (i,x)=>(i,a.eval x)) r i v hu hi hv (by rw [his]; omega)
   (by rw [his]; exact Nat.ne_of_gt (Nat.mul_pos (Nat.pos_of_ne_zero hn0) hs0)) (by rw [hql,his]; exact k1)
  simp only [execOp,ho,Sem.run_bind,hrun,Result.andThen_ok,Sem.run_pure]
theorem aEk {n : Nat} (h : n ≤ 2 ^ 40) : IntKind.i64.wrap (n : Int)=n:=by
 exact IntWalk.i64_in _ (by omega)
theorem aUx [GlobT] (hs : Sim (ftOf T) c) (htr : TR (ftOf T) c tm a.tmps) (hfl : fl ≤ c.H.length) {s bytes l k : Nat} {z : List Value} {x y : AOpd} {x' y' : Operand} {t e : TypeId}
  (ho : o.op=.makeSlice t x' y') (h1 : eC T x x'=true) (h2 : eC T y y'=true) (hu : P.underlying t=some (.slice e)) (hsz : kL P e s=true) (hby : aBr P e bytes=true) (hz : yY P e z=true)
  (hs0 : 0 < s) (hl : uS (dU tm x)=some l) (hk : uS (dU tm y)=some k) (hle : l ≤ k) (hroom : k * bytes ≤ 2 ^ 40) (hk40 : k ≤ 2 ^ 40) (hzl : z.length=s) :
  OpOK P (ftOf T) c fl o a (.ms c.H.length l 0 l) (c.H++[.blk s (List.replicate l (z.map .lit))]):=by
 obtain ⟨i,hi,his⟩:=kV hsz
 obtain ⟨i',v,hi',hv,hvc,hsc⟩:=qN hz
 rw [hi] at hi'
 cases hi'
 have hvl : v.cells.toList=z:=by rw [hvc]
 have hbytes : i.bytes=bytes:=by simpa [aBr,hi] using hby
 obtain ⟨k1,e1⟩:=aAl (eE hs htr h1) hl
 obtain ⟨k2,e2⟩:=aAl (eE hs htr h2) hk
 obtain ⟨p1,p2⟩:=aEr (FT:=ftOf T) (c:=c) (n:=l) (m:=k) hzl hsc hvl hle
 have:=aCr (P:=P) (o:=o) (a:=a) hs hfl false (cap:=k) (cv:=(Array.range (k * s)).map (v.cells[· % v.cells.size]!)) (t:=e) (es:=List.replicate l (z.map AV.lit))
  (w':=c.w.alloc (.cells ((Array.range (k * s)).map (v.cells[· % v.cells.size]!)) e (0,0))) (n:=l) (s:=s) (by simp) hle (by simp) rfl rfl rfl rfl ?_ (by simp) p1 p2
 ·simpa using this
 ·have w1:=aEk (n:=l) (by omega)
  have w2:=aEk (n:=k) hk40
  have hb1 : ¬ (281474976710656 : Int) < (bytes : Int) * (k : Int):=by
   rw [← Int.natCast_mul,Nat.mul_comm]; omega
  have hlk : ¬ (k : Int) < (l : Int):=by omega
  have hl0 : ¬ (l : Int) < 0:=by omega
  have hk0 : ¬ (k : Int) < 0:=by omega
  simp [hl0,hk0,execOp,ho,Instr.makeSlice,run_underlying hu,asInt,asIntOf,e1,e2,typeInfo,hi,hbytes,w1,w2,hb1,hlk]
  by_cases hk1 : k=0
  ·subst hk1
   have e0 : Array.range 0=#[]:=rfl
   simp [sizeOf,typeInfo,hi,his,e0,newRow]
  ·simp [sizeOf,typeInfo,hi,his,zeroValue,hv,newRow]
   intro h0
   have:=Nat.mul_pos (Nat.pos_of_ne_zero hk1) hs0
   omega
def OptN (v : Option Value) (n : Option Nat) : Prop:=(v=none∧n=none) ∨ ∃ k m,v=some (.int k (m : Nat))∧n=some m
theorem aB9 [GlobT] (hs : Sim (ftOf T) c) (htr : TR (ftOf T) c tm a.tmps) {x : Option AOpd} {y : Option Operand} {n : Option Nat} (h : aDf T x y=true) (hn : tH tm x=some n) : OptN (y.map a.eval) n:=by
 unfold aDf at h
 split at h
 ·simp only [tH,Option.some.injEq] at hn
  subst hn
  exact .inl ⟨rfl,rfl⟩
 ·rename_i x y
  simp only [tH] at hn
  split at hn
  ·rename_i m hm
   cases hn
   obtain ⟨k,hk⟩:=aAl (eE hs htr h) hm
   exact .inr ⟨k,m,by simp [hk],rfl⟩
  ·cases hn
 ·cases h
theorem aLy {k : IntKind} {m y : Nat} {code : BoundsCode} (h : m ≤ y) (w : World) : (Instr.sliceBound (.int k (m : Nat)) y code).run P w=.ok m w:=by
 have h1 : (m : Int) ≤ (y : Int):=by omega
 simp [Instr.sliceBound,asIntOf,h1]
theorem aDu [GlobT] {isS : Bool} {len cap : Nat} {vlo vhi vmx : Option Value} {lo hi mx : Option Nat} (h1 : OptN vlo lo) (h2 : OptN vhi hi) (h3 : OptN vmx mx)
  (hm : mx.getD cap ≤ cap) (hh : hi.getD len ≤ mx.getD cap) (hl : lo.getD 0 ≤ hi.getD len) (hx : mx.isSome=true→hi.isSome=true) (w : World) :
  (Instr.sliceBounds isS len cap vlo vhi vmx).run P w=.ok (lo.getD 0,hi.getD len,mx.getD cap) w:=by
 unfold Instr.sliceBounds
 rcases h3 with ⟨rfl,rfl⟩ | ⟨k3,m3,rfl,rfl⟩ <;> rcases h2 with ⟨rfl,rfl⟩ | ⟨k2,m2,rfl,rfl⟩ <;> rcases h1 with ⟨rfl,rfl⟩ | ⟨k1,m1,rfl,rfl⟩ <;> simp at hm hh hl hx ⊢ <;>
  simp [aLy,hm,hh,hl]
theorem vC [GlobT] {t e : TypeId} {s len cap : Nat} {ad : Option Addr} {vlo vhi vmx : Option Value} {lo hi mx : Option Nat} (hu : P.underlying t=some (.slice e)) (hsz : kL P e s=true)
  (h1 : OptN vlo lo) (h2 : OptN vhi hi) (h3 : OptN vmx mx)
  (hm : mx.getD cap ≤ cap) (hh : hi.getD len ≤ mx.getD cap) (hl : lo.getD 0 ≤ hi.getD len) (hx : mx.isSome=true→hi.isSome=true) (w : World) :
  (Instr.sliceAt t (.slice ad len cap) vlo vhi vmx).run P w =
   .ok (.slice (if mx.getD cap=lo.getD 0 then ad else ad.map (·.add (lo.getD 0 * s))) (hi.getD len - lo.getD 0) (mx.getD cap - lo.getD 0)) w:=by
 obtain ⟨i,hi',his⟩:=kV hsz
 simp [Instr.sliceAt,Instr.slice,run_underlying hu,aDu h1 h2 h3 hm hh hl hx,sizeOf,typeInfo,hi',his]
theorem aU8 {s s' : Nat} {es : List (List AV)} (h : aCv s es=true) (hl : ∀ e ∈ es,e.length=s') (hne : es ≠ []) : s'=s:=by
 cases es with
 | nil=>exact (hne rfl).elim
 | cons e r =>
  simp only [aCv,beq_iff_eq] at h
  rw [← hl e (by simp),h]
theorem aQg [GlobT] {es : List (List AV)} {h l i j : Nat} {x : AV} (hx : hZ ((es.take h).drop l) i j=some x) : hZ es (l + i) j=some x:=by
 obtain ⟨e,h1,h2⟩:=jJ hx
 rw [List.getElem?_drop,List.getElem?_take] at h1
 split at h1
 ·simp [hZ,h1,h2]
 ·cases h1
theorem bBm [GlobT] {w : World} {I : Nat→Prop} {f f' : Bool} {es : List (List AV)} {s l h m len cap : Nat} {ad : Option Addr} (hp : RP w I (.sl f es) (.slice ad len cap)) (hs : aCv s es=true)
  (hlh : l ≤ h) (hhm : h ≤ m) (hle : h ≤ es.length) (hf : f'=true→m=h) :
  RP w I (.sl f' ((es.take h).drop l)) (.slice (if m=l then ad else ad.map (·.add (l * s))) (h - l) (m - l)):=by
 by_cases he : h=l
 ·subst he
  have : (es.take h).drop h=[]:=List.drop_eq_nil_of_le (by simp; omega)
  rw [this,Nat.sub_self]
  exact .nil f' _ _ (fun e=>by have:=hf e; omega)
 ·cases hp with
  | nil=>simp at hle; omega
  | sl _ _ b off _ cc T fz s' vals g1 g2 g3 g4 g5 g6 g7 g8 =>
   have es' : s'=s:=aU8 hs g4 g1
   subst es'
   have hlen : ((es.take h).drop l).length=h - l:=by simp; omega
   rw [if_neg (by omega),← hlen]
   simp only [Option.map_some,pO]
   refine .sl f' _ b (off + l * s') (m - l) cc T fz s' (fun i j=>vals (l + i) j) ?_ g2 g3 ?_ (by omega) (fun e=>by have:=hf e; omega) ?_ ?_
   ·intro e; rw [e] at hlen; simp at hlen; omega
   ·intro e he'; exact g4 e (List.mem_of_mem_take (List.mem_of_mem_drop he'))
   ·intro i j x hx
    have:=g7 _ _ x (aQg hx)
    rwa [show off + ((l + i) * s' + j)=off + l * s' + (i * s' + j) by rw [Nat.add_mul]; omega] at this
   ·intro i j x hx
    exact g8 _ _ x (aQg hx)
theorem aV7 {w : World} {I : Nat→Prop} {f : Bool} {es : List (List AV)} {v : Value} (hp : RP w I (.sl f es) v) : ∃ ad cap,v=.slice ad es.length cap∧es.length ≤ cap∧(f=true→cap=es.length):=by
 cases hp with
 | nil _ ad cap hf=>exact ⟨ad,cap,rfl,Nat.zero_le _,hf⟩
 | sl _ _ b off cap cc T fz s' vals g1 g2 g3 g4 g5 g6 g7 g8=>exact ⟨_,cap,rfl,g5,g6⟩
theorem aZ9 [GlobT] (hs : Sim (ftOf T) c) (htr : TR (ftOf T) c tm a.tmps) {x : AOpd} {y : Operand} {lo hi mx : Option AOpd} {lo' hi' mx' : Option Operand} {t e : TypeId} {s : Nat} {nlo nhi nmx : Option Nat} {v : AV}
  (ho : o.op=.slice t y lo' hi' mx') (h0 : eC T x y=true) (h1 : aDf T lo lo'=true) (h2 : aDf T hi hi'=true) (h3 : aDf T mx mx'=true)
  (hu : P.underlying t=some (.slice e)) (hsz : kL P e s=true) (n1 : tH tm lo=some nlo) (n2 : tH tm hi=some nhi) (n3 : tH tm mx=some nmx)
  (hv : aBy c.H s (dU tm x) nlo nhi nmx=some v) : OpOK P (ftOf T) c fl o a v c.H:=by
 have hx:=eE hs htr h0
 have o1:=aB9 hs htr h1 n1
 have o2:=aB9 hs htr h2 n2
 have o3:=aB9 hs htr h3 n3
 have hexec : ∀ (u r : Value),a.eval y=u→(Instr.sliceAt t u (lo'.map a.eval) (hi'.map a.eval) (mx'.map a.eval)).run P c.w=.ok r c.w→(execOp a.eval o).run P c.w=.ok (.value r) c.w:=by
  intro u r hu' hr
  subst hu'
  simp only [execOp,ho,Sem.run_bind,hr,Result.andThen_ok,Sem.run_pure]
 unfold aBy at hv
 split at hv
 ·rename_i hxe
  rw [hxe] at hx
  split at hv
  ·rename_i hc
   cases hv
   obtain ⟨c1,c2,c3,c4⟩:=hc
   refine gL (cv:=nilS) hs ?_ (RV.lit _)
   have:=vC (P:=P) (ad:=none) (len:=0) (cap:=0) hu hsz o1 o2 o3 (by omega) (by omega) (by omega) (by simpa using c4) c.w
   simp only [execOp,ho,hx.lit_inv,Sem.run_bind,this,Result.andThen_ok,Sem.run_pure,c1,c2,c3]
   rfl
  ·cases hv
 ·rename_i f es hxe
  rw [hxe] at hx
  have hp:=hx.sl_inv
  obtain ⟨ad,cap,hav,hcap,hfull⟩:=aV7 hp
  rw [hav] at hp
  split at hv
  ·simp only [] at hv
   split at hv
   ·rename_i hc
    cases hv
    have hrun:=vC (P:=P) (ad:=ad) (len:=es.length) (cap:=cap) hu hsz o1 o2 o3 (by simp) (by simp; omega) (by simpa using hc.1) (by simp) c.w
    refine gL hs (hexec _ _ hav hrun) (.pure _ _ (bBm (m:=cap) hp hc.2.2 hc.1 (by omega) hc.2.1 ?_))
    intro e
    simp only [Bool.and_eq_true,beq_iff_eq] at e
    rw [hfull e.1,e.2]
   ·cases hv
  ·rename_i m
   split at hv
   ·cases hv
   ·rename_i h
    simp only [] at hv
    split at hv
    ·rename_i hc
     cases hv
     have hrun:=vC (P:=P) (ad:=ad) (len:=es.length) (cap:=cap) hu hsz o1 o2 o3 (by simp; omega) (by simp; omega) (by simpa using hc.1) (by simp) c.w
     refine gL hs (hexec _ _ hav hrun) (.pure _ _ ?_)
     simp only [Option.getD_some]
     refine bBm hp hc.2.2.2 hc.1 hc.2.1 (by omega) ?_
     intro e
     simpa using (beq_iff_eq.1 e).symm
    ·cases hv
 ·rename_i es hxe
  rw [hxe] at hx
  obtain ⟨ad,cap,hav,hcap,hor⟩:=hx.vw_inv
  split at hv
  ·simp only [] at hv
   split at hv
   ·rename_i hc
    cases hv
    obtain ⟨c1,c2,c3⟩:=hc
    have hrun:=vC (P:=P) (ad:=ad) (len:=es.length) (cap:=cap) hu hsz o1 o2 o3 (by simp) (by simp; omega) (by simpa using c1) (by simp) c.w
    refine gL hs (hexec _ _ hav hrun) ?_
    simp only [Option.getD_none]
    have hlen : ((es.take (nhi.getD es.length)).drop (nlo.getD 0)).length=nhi.getD es.length - nlo.getD 0:=by simp; omega
    by_cases hne : (es.take (nhi.getD es.length)).drop (nlo.getD 0)=[]
    ·rw [hne] at hlen ⊢
     rw [← hlen]
     exact .vnil _ _
    ·have hpos : nlo.getD 0 < nhi.getD es.length:=by
      have : 0 < ((es.take (nhi.getD es.length)).drop (nlo.getD 0)).length:=List.length_pos_iff.2 hne
      omega
     rcases hor with rfl | ⟨b,off,cc,Ty,fz,s',vals,rfl,g2,g3,g4,g7,g8⟩
     ·simp at hne
     ·have hss : s'=s:=by
       cases es with
       | nil=>simp at hne
       | cons e r =>
        simp only [aCv,beq_iff_eq] at c3
        rw [← g4 e (by simp),c3]
      subst hss
      rw [if_neg (by omega)]
      simp only [Option.map_some,pO]
      rw [← hlen]
      refine .vw _ b (off + nlo.getD 0 * s') (cap - nlo.getD 0) cc Ty fz s' (fun i j=>vals (nlo.getD 0 + i) j) hne g2 g3 (fun e he=>g4 e (List.mem_of_mem_take (List.mem_of_mem_drop he))) (by rw [hlen]; omega) ?_ ?_
      ·intro i j x hx
       have hx' : hZ es (nlo.getD 0 + i) j=some x:=by
        obtain ⟨e,he,hj⟩:=jJ hx
        rw [List.getElem?_drop,List.getElem?_take] at he
        split at he
        ·simp [hZ,he,hj]
        ·cases he
       have:=g7 _ j x hx'
       refine ⟨?_,this.2⟩
       rw [← this.1]
       congr 1
       rw [Nat.add_mul]
       omega
      ·intro i j x hx
       have hx' : hZ es (nlo.getD 0 + i) j=some x:=by
        obtain ⟨e,he,hj⟩:=jJ hx
        rw [List.getElem?_drop,List.getElem?_take] at he
        split at he
        ·simp [hZ,he,hj]
        ·cases he
       exact g8 _ j x hx'
   ·cases hv
  ·rename_i m
   split at hv
   ·cases hv
   ·rename_i h
    split at hv
    ·rename_i hc
     cases hv
     obtain ⟨c1,rfl,rfl⟩:=hc
     have hrun:=vC (P:=P) (ad:=ad) (len:=es.length) (cap:=cap) hu hsz o1 o2 o3 (by simp) (by simp) (by simp [c1]) (by simp) c.w
     refine gL hs (hexec _ _ hav hrun) ?_
     simp only [Option.getD_some,c1,Nat.sub_zero]
     exact .pure _ _ (.nil true _ 0 (fun _=>rfl))
    ·cases hv
 ·rename_i id tot off len hxe
  rw [hxe] at hx
  obtain ⟨ad,cap,s0,n0,hav,g1,g2,g3,g4⟩:=hx.ms_inv
  split at hv
  ·simp only [] at hv
   split at hv
   ·rename_i s' es hob
    split at hv
    ·rename_i hc
     cases hv
     obtain ⟨c1,c2,rfl⟩:=hc
     rw [qP hob] at g1
     cases g1
     have hrun:=vC (P:=P) (ad:=ad) (len:=len) (cap:=cap) hu hsz o1 o2 o3 (by simp) (by simp; omega) (by simpa using c1) (by simp) c.w
     refine gL hs (hexec _ _ hav hrun) ?_
     simp only [Option.getD_none]
     refine .ms id tot _ _ _ _ s0 _ (qP hob) g2 (by omega) fun et=>?_
     obtain ⟨m1,m2⟩:=g4 et
     refine ⟨by omega,?_⟩
     rcases m2 with ⟨m3,m4,m5,m6⟩ | ⟨b,cc,Ty,a',m3,m4,m5,m6,m7⟩
     ·subst m5
      exact .inl ⟨m3,m4,by split <;> rfl,by omega⟩
     ·refine .inr ⟨b,cc,Ty,if cap=nlo.getD 0 then a' else a'.add (nlo.getD 0 * s0),m3,m4,?_,?_,?_⟩
      ·rw [← m5]; congr 1; omega
      ·subst m6; split <;> rfl
      ·intro hne
       rw [if_neg (by omega),m7 (by omega),pO,Nat.add_mul]
    ·split at hv
     ·rename_i hc
      cases hv
      obtain ⟨c1,c2,c3,c4,rfl⟩:=hc
      rw [qP hob] at g1
      cases g1
      obtain ⟨m1,m2⟩:=g4 c3.symm
      have hcap : nhi.getD len ≤ cap:=by
       rcases m2 with ⟨m3,m4,m5,m6⟩ | ⟨b,cc,Ty,a',m3,m4,m5,m6,m7⟩
       ·omega
       ·obtain ⟨cc',Ty',q1,q2,q3⟩:=hs.blk id _ es b hob m3
        rw [m4] at q1
        cases q1
        rw [← m5] at q2
        have:=Nat.le_of_mul_le_mul_right q2 c4
        omega
      have hrun:=vC (P:=P) (ad:=ad) (len:=len) (cap:=cap) hu hsz o1 o2 o3 (by simp) (by simpa using hcap) (by simpa using c1) (by simp) c.w
      refine gL hs (hexec _ _ hav hrun) ?_
      simp only [Option.getD_none]
      refine .ms id tot _ _ _ _ s0 _ (qP hob) g2 (by omega) fun et=>?_
      refine ⟨by omega,?_⟩
      rcases m2 with ⟨m3,m4,m5,m6⟩ | ⟨b,cc,Ty,a',m3,m4,m5,m6,m7⟩
      ·subst m5
       exact .inl ⟨m3,m4,by split <;> rfl,by omega⟩
      ·refine .inr ⟨b,cc,Ty,if cap=nlo.getD 0 then a' else a'.add (nlo.getD 0 * s0),m3,m4,?_,?_,?_⟩
       ·rw [← m5]; congr 1; omega
       ·subst m6; split <;> rfl
       ·intro hne
        rw [if_neg (by omega),m7 (by omega),pO,Nat.add_mul]
     ·cases hv
   ·cases hv
  ·rename_i m
   split at hv
   ·cases hv
   ·rename_i h
    simp only [] at hv
    split at hv
    ·rename_i hc
     cases hv
     obtain ⟨c1,c2,c3⟩:=hc
     have hrun:=vC (P:=P) (ad:=ad) (len:=len) (cap:=cap) hu hsz o1 o2 o3 (by simp; omega) (by simp; omega) (by simp; omega) (by simp) c.w
     refine gL hs (hexec _ _ hav hrun) ?_
     simp only [Option.getD_some]
     have e1 : h - nlo.getD 0=0:=by omega
     have e2 : m - nlo.getD 0=0:=by omega
     rw [e1,e2]
     exact .pure _ _ (.nil true _ 0 (fun _=>rfl))
    ·split at hv
     ·rename_i hc
      cases hv
      obtain ⟨c1,c2,c3⟩:=hc
      have hrun:=vC (P:=P) (ad:=ad) (len:=len) (cap:=cap) hu hsz o1 o2 o3 (by simp; omega) (by simp; omega) (by simp; omega) (by simp) c.w
      exact gL hs (hexec _ _ hav hrun) (RV.undef _)
     ·cases hv
 ·cases hv
end
end Go.Proofs.YtapabkfjeiknbaaGreat.Av
namespace Go.Proofs.YtapabkfjeiknbaaGreat.Av
open Go
section
variable {P : Program} {T : List AFun} {c : Ctx} {fl : Nat} {o : Oper} {a : Act} {tm : List AV}
theorem aRh [GlobT] (hs : Sim (ftOf T) c) (htr : TR (ftOf T) c tm a.tmps) {x : AOpd} {y : Operand} {lo hi : Option AOpd} {lo' hi' : Option Operand} {t : TypeId} {nlo nhi : Option Nat} {s : ByteArray}
  (ho : o.op=.slice t y lo' hi' none) (h0 : eC T x y=true) (h1 : aDf T lo lo'=true) (h2 : aDf T hi hi'=true) (hu : P.underlying t=some .string)
  (n1 : tH tm lo=some nlo) (n2 : tH tm hi=some nhi) (hx : dU tm x=.lit (.string s)) (hc : nlo.getD 0 ≤ nhi.getD s.size∧nhi.getD s.size ≤ s.size) :
  OpOK P (ftOf T) c fl o a (.lit (.string (s.extract (nlo.getD 0) (nhi.getD s.size)))) c.H:=by
 have hv:=eE hs htr h0
 rw [hx] at hv
 have o1:=aB9 hs htr h1 n1
 have o2:=aB9 hs htr h2 n2
 refine gL (cv:=.string (s.extract (nlo.getD 0) (nhi.getD s.size))) hs ?_ (RV.lit _)
 have:=aDu (P:=P) (isS:=false) (len:=s.size) (cap:=s.size) (vmx:=none) (mx:=none) o1 o2 (.inl ⟨rfl,rfl⟩) (by simp) (by simpa using hc.2) hc.1 (by simp) c.w
 simp [execOp,ho,hv.lit_inv,Instr.sliceAt,Instr.slice,run_underlying hu,this]
theorem aNi {α β : Type} (x : Sem α) (f : α→Sem β) : eD P (x.bind f)=(eD P x).bind fun a=>eD P (f a):=by
 induction x with
 | pure a=>rfl
 | program k ih=>simp only [Sem.bind,eD]; exact ih P
 | mark m k ih=>simp only [Sem.bind,eD]; exact ih
 | _=>rfl
theorem iG [GlobT] {α β : Type} (x : Sem α) (f : α→Sem β) : eD P (x >>= f)=(eD P x).bind fun a=>eD P (f a):=aNi x f
theorem jA {α : Type} (x : α) : eD P (pure x : Sem α)=some x:=rfl
theorem aKe {α : Type} {p : Prop} [Decidable p] (x y : Sem α) : eD P (if p then x else y)=if p then eD P x else eD P y:=by split <;> rfl
theorem aLc [GlobT] {kind : TypeDesc} {k : Value} : ∀ (es1 es2 : List MapEntry) (i : Nat),es1.map (·.key)=es2.map (·.key) →
  (Instr.findNow kind k es1 i).map (·.map (·.1))=(Instr.findNow kind k es2 i).map (·.map (·.1))
 | [],[],_,_=>rfl
 | e1 :: r1,e2 :: r2,i,h=>by
  simp only [List.map_cons,List.cons.injEq] at h
  simp only [Instr.findNow,h.1]
  split
  ·rfl
  ·exact aLc r1 r2 (i + 1) h.2
  ·rfl
 | [],_ :: _,_,h=>by cases h
 | _ :: _,[],_,h=>by cases h
theorem aLb [GlobT] {kind : TypeDesc} {k v : Value} {j : Nat} : ∀ (es : List MapEntry) (i : Nat),Instr.findNow kind k es i=some (some (j,v))→i ≤ j∧∃ e,es[j - i]? = some e∧v=e.val
 | [],_,h=>by cases h
 | e :: r,i,h=>by
  simp only [Instr.findNow] at h
  split at h
  ·cases h; exact ⟨Nat.le_refl _,e,by simp,rfl⟩
  ·obtain ⟨h1,e',h2,h3⟩:=aLb r (i + 1) h
   refine ⟨by omega,e',?_,h3⟩
   have : j - i=(j - (i + 1)) + 1:=by omega
   rw [this,List.getElem?_cons_succ]; exact h2
  ·cases h
theorem aFi [GlobT] {kt : TypeId} {k : Value} : ∀ (es1 es2 : List MapEntry) (i : Nat),es1.map (·.key)=es2.map (·.key) →
  (eD P (Instr.findAsking kt k es1 i)).map (·.map (·.1))=(eD P (Instr.findAsking kt k es2 i)).map (·.map (·.1))
 | [],[],_,_=>rfl
 | e1 :: r1,e2 :: r2,i,h=>by
  simp only [List.map_cons,List.cons.injEq] at h
  simp only [Instr.findAsking,h.1,iG,aKe,jA]
  cases eD P (Op.equal kt k e2.key) with
  | none=>rfl
  | some b =>
   simp only [Option.bind_some]
   split
   ·rfl
   ·exact aFi r1 r2 (i + 1) h.2
 | [],_ :: _,_,h=>by cases h
 | _ :: _,[],_,h=>by cases h
theorem aFh [GlobT] {kt : TypeId} {k v : Value} {j : Nat} : ∀ (es : List MapEntry) (i : Nat),eD P (Instr.findAsking kt k es i)=some (some (j,v))→i ≤ j∧∃ e,es[j - i]? = some e∧v=e.val
 | [],_,h=>by simp [Instr.findAsking,jA] at h
 | e :: r,i,h=>by
  simp only [Instr.findAsking,iG,aKe,jA] at h
  cases hq : eD P (Op.equal kt k e.key) with
  | none=>rw [hq] at h; cases h
  | some b =>
   rw [hq] at h
   simp only [Option.bind_some] at h
   split at h
   ·cases h; exact ⟨Nat.le_refl _,e,by simp,rfl⟩
   ·obtain ⟨h1,e',h2,h3⟩:=aFh r (i + 1) h
    refine ⟨by omega,e',?_,h3⟩
    have : j - i=(j - (i + 1)) + 1:=by omega
    rw [this,List.getElem?_cons_succ]; exact h2
theorem aA0 [GlobT] {t : TypeId} : eD P (underlying t)=P.underlying t:=by
 unfold underlying
 rw [iG]
 have : eD P program=some P:=rfl
 rw [this]
 simp only [Option.bind_some]
 split
 ·rename_i h; rw [h]; rfl
 ·rename_i h; rw [h]; rfl
theorem aLe [GlobT] {kt : TypeId} {k : Value} {es1 es2 : List MapEntry} (h : es1.map (·.key)=es2.map (·.key)) :
  (eD P (Instr.findKey kt k es1)).map (·.map (·.1))=(eD P (Instr.findKey kt k es2)).map (·.map (·.1)):=by
 simp only [Instr.findKey,iG,aA0]
 cases P.underlying kt with
 | none=>rfl
 | some d =>
  simp only [Option.bind_some]
  have hn:=aLc (kind:=d) (k:=k) es1 es2 0 h
  cases h1 : Instr.findNow d k es1 0 with
  | none =>
   cases h2 : Instr.findNow d k es2 0 with
   | none=>exact aFi es1 es2 0 h
   | some r2=>rw [h1,h2] at hn; cases hn
  | some r1 =>
   cases h2 : Instr.findNow d k es2 0 with
   | none=>rw [h1,h2] at hn; cases hn
   | some r2=>rw [h1,h2] at hn; exact hn
theorem aSb [GlobT] {kt : TypeId} {k v : Value} {j : Nat} {es : List MapEntry} (h : eD P (Instr.findKey kt k es)=some (some (j,v))) : ∃ e,es[j]? = some e∧v=e.val:=by
 simp only [Instr.findKey,iG,aA0] at h
 cases hu : P.underlying kt with
 | none=>rw [hu] at h; cases h
 | some d =>
  rw [hu] at h
  simp only [Option.bind_some] at h
  split at h
  ·rename_i r hr
   simp only [jA,Option.some.injEq] at h
   subst h
   obtain ⟨_,e,h1,h2⟩:=aLb es 0 hr
   exact ⟨e,by simpa using h1,h2⟩
  ·obtain ⟨_,e,h1,h2⟩:=aFh es 0 h
   exact ⟨e,by simpa using h1,h2⟩
def aIk (FT : Nat→Option Nat) (c : Ctx) (ents : List (Value × AV)) (es : Array MapEntry) : Prop :=
 es.size=ents.length∧∀ (i : Nat) (k : Value) (x : AV),ents[i]? = some (k,x)→∃ e,es[i]? = some e∧e.key=k∧RV FT c x e.val
theorem aMu {FT : Nat→Option Nat} {ents : List (Value × AV)} {es : Array MapEntry} (h : aIk FT c ents es) :
  (ents.map fun e=>({ key:=e.1,val:=.bool false,born:=0 } : MapEntry)).map (·.key)=es.toList.map (·.key):=by
 apply List.ext_getElem?
 intro i
 simp only [List.map_map,List.getElem?_map]
 cases he : ents[i]? with
 | none =>
  have : es.toList[i]? = none:=by
   rw [List.getElem?_eq_none_iff] at he ⊢
   simp only [Array.length_toList,h.1]; exact he
  rw [this]; rfl
 | some p =>
  obtain ⟨k,x⟩:=p
  obtain ⟨e,h1,h2,_⟩:=h.2 i k x he
  have : es.toList[i]? = some e:=by simpa using h1
  rw [this]
  simp [h2]
theorem aId [GlobT] {FT : Nat→Option Nat} {kt : TypeId} {k : Value} {ents : List (Value × AV)} {es : Array MapEntry} {i : Nat} (h : aIk FT c ents es) (hf : aAr P kt k ents=some (some i)) (w : World) :
  ∃ e,es[i]? = some e∧(Instr.findKey kt k es.toList).run P w=.ok (some (i,e.val)) w:=by
 have hr:=aLe (P:=P) (kt:=kt) (k:=k) (aMu h)
 unfold aAr at hf
 split at hf
 ·rename_i j v hj
  cases hf
  rw [hj] at hr
  cases hq : eD P (Instr.findKey kt k es.toList) with
  | none=>rw [hq] at hr; cases hr
  | some r =>
   rw [hq] at hr
   cases r with
   | none=>cases hr
   | some p =>
    obtain ⟨j',v'⟩:=p
    have : i=j':=by simpa using hr
    subst this
    obtain ⟨e,h1,h2⟩:=aSb hq
    exact ⟨e,by simpa using h1,by rw [iB hq,h2]⟩
 ·cases hf
 ·cases hf
theorem aIe [GlobT] {FT : Nat→Option Nat} {kt : TypeId} {k : Value} {ents : List (Value × AV)} {es : Array MapEntry} (h : aIk FT c ents es) (hf : aAr P kt k ents=some none) (w : World) :
  (Instr.findKey kt k es.toList).run P w=.ok none w:=by
 have hr:=aLe (P:=P) (kt:=kt) (k:=k) (aMu h)
 unfold aAr at hf
 split at hf
 ·cases hf
 ·rename_i hj
  rw [hj] at hr
  cases hq : eD P (Instr.findKey kt k es.toList) with
  | none=>rw [hq] at hr; cases hr
  | some r =>
   rw [hq] at hr
   cases r with
   | none=>exact iB hq
   | some p=>cases hr
 ·cases hf
theorem bA1 [GlobT] (hs : Sim (ftOf T) c) {id b : Nat} {ents : List (Value × AV)} (ho : c.H[id]? = some (.mp ents)) (hb : c.β id=some b) :
  ∃ es clk,c.w.heap[b]? = some (.map es clk)∧aIk (ftOf T) c ents es:=by
 obtain ⟨es,clk,h1,h2,h3⟩:=hs.map id ents b ho hb
 exact ⟨es,clk,h1,h2.1,h3⟩
theorem aT2 [GlobT] (hs : Sim (ftOf T) c) {id b : Nat} {ents : List (Value × AV)} (ho : c.H[id]? = some (.mp ents)) (hb : c.β id=some b) :
  ∃ es clk,c.w.heap[b]? = some (.map es clk)∧aIk (ftOf T) c ents es∧∀ e ∈ es.toList,e.born < clk:=by
 obtain ⟨es,clk,h1,h2,h3⟩:=hs.map id ents b ho hb
 exact ⟨es,clk,h1,⟨h2.1,h3⟩,h2.2⟩
theorem pU {w : World} {b : Nat} {es : Array MapEntry} {clk : Nat} (h : w.heap[b]? = some (.map es clk)) : (getObj b).run P w=.ok (.map es clk) w:=by
 simp [getObj,Sem.run,h]
theorem aMn {FT : Nat→Option Nat} {ents : List (Value × AV)} {es : Array MapEntry} (h : aIk FT c ents es) : es.isEmpty=ents.isEmpty:=by
 have:=h.1
 cases ents with
 | nil=>simp at this; simp [this]
 | cons e r =>
  have : es ≠ #[]:=by intro e; subst e; simp at this
  simp [this]
theorem aPg [GlobT] (hs : Sim (ftOf T) c) (htr : TR (ftOf T) c tm a.tmps) {kt e t : TypeId} {z m k : AOpd} {m' k' : Operand} {ok : Bool} {ents : List (Value × AV)} {kv : Value} {r v : AV} {i : TypeInfo} {zv : Value}
  (ho : o.op=.lookup t m' k' ok) (h1 : eC T m m'=true) (h2 : eC T k k'=true) (hu : P.underlying t=some (.map kt e)) (hi : P.info? e=some i) (hz : i.zero=some zv) (hzr : RV (ftOf T) c (dU tm z) zv)
  (hk : lits (dU tm k)=some kv) (hck : eD P (Instr.checkKey ents.isEmpty 10000 kt kv)=some ())
  (hm : (dU tm m=.lit (.map none)∧ents=[]) ∨ (∃ id,dU tm m=.mp id∧c.H[id]? = some (.mp ents)) ∨ dU tm m=.rmp ents)
  (hr : (∃ i e,aAr P kt kv ents=some (some i)∧ents[i]? = some e∧r=e.2∧v=.lit (.bool true)) ∨ (aAr P kt kv ents=some none∧r=dU tm z∧v=.lit (.bool false))) :
  OpOK P (ftOf T) c fl o a (if ok then .tup [r,v] else r) c.H:=by
 have hm':=eE hs htr h1
 have hkv:=aKu (eE hs htr h2) hk
 have hes : ∃ es : Array MapEntry,aIk (ftOf T) c ents es∧((a.eval m'=.map none∧es=#[]) ∨ ∃ b clk,a.eval m'=.map (some b)∧c.w.heap[b]? = some (.map es clk)):=by
  rcases hm with ⟨hm,rfl⟩ | ⟨id,hm,hob⟩ | hm <;> rw [hm] at hm'
  ·exact ⟨#[],⟨rfl,fun i k x hx=>by simp at hx⟩,.inl ⟨hm'.lit_inv,rfl⟩⟩
  ·obtain ⟨b,hv,_,hb⟩:=hm'.mp_inv
   obtain ⟨es,clk,g1,g2⟩:=bA1 hs hob hb
   exact ⟨es,g2,.inr ⟨b,clk,hv,g1⟩⟩
  ·obtain ⟨b,es,clk,vals,hv,g1,g2,g3,g4⟩:=hm'.rmp_inv
   exact ⟨es,⟨g2,fun i k x hx=>⟨vals i,(g3 i k x hx).1,(g3 i k x hx).2,.pure _ _ (g4 i k x hx)⟩⟩,.inr ⟨b,clk,hv,g1⟩⟩
 obtain ⟨es,hE,hK⟩:=hes
 have hck' : (Instr.checkKey es.isEmpty 10000 kt kv).run P c.w=.ok () c.w:=by rw [aMn hE]; exact iB hck
 have hres : ∃ (cr : Value) (b : Bool),RV (ftOf T) c r cr∧v=.lit (.bool b)∧(Instr.lookup t (a.eval m') kv ok).run P c.w=.ok (if ok then .tuple #[cr,.bool b] else cr) c.w:=by
  rcases hr with ⟨i0,en,hf,hen,rfl,rfl⟩ | ⟨hf,rfl,rfl⟩
  ·obtain ⟨e',g1,g2⟩:=aId hE hf c.w
   obtain ⟨k0,x0⟩:=en
   obtain ⟨e'',g3,_,g4⟩:=hE.2 i0 k0 x0 hen
   rw [g1] at g3
   cases g3
   refine ⟨e'.val,true,g4,rfl,?_⟩
   rcases hK with ⟨hv,rfl⟩ | ⟨b,clk,hv,hb⟩
   ·simp at g1
   ·simp [Instr.lookup,run_underlying hu,hv,pU hb,hck',g2]
  ·have g2:=aIe hE hf c.w
   refine ⟨zv,false,hzr,rfl,?_⟩
   rcases hK with ⟨hv,rfl⟩ | ⟨b,clk,hv,hb⟩
   ·simp only [Array.isEmpty_empty] at hck'
    simp [Instr.lookup,run_underlying hu,hv,hck',g2,zeroValue,typeInfo,hi,hz]
   ·simp [Instr.lookup,run_underlying hu,hv,pU hb,hck',g2,zeroValue,typeInfo,hi,hz]
 obtain ⟨cr,b,k1,rfl,k3⟩:=hres
 refine gL (cv:=if ok then .tuple #[cr,.bool b] else cr) hs (by simp [execOp,ho,hkv,k3]) ?_
 cases ok with
 | false=>simpa using k1
 | true =>
  simp only [if_true]
  refine .tup _ _ (fun i=>if i=0 then cr else .bool b) rfl ?_ ?_
  ·intro i x hx
   match i with
   | 0=>rfl
   | 1=>rfl
   | n + 2=>simp at hx
  ·intro i x hx
   match i with
   | 0=>simp at hx; subst hx; simpa using k1
   | 1=>simp at hx; subst hx; exact RV.lit _
   | n + 2=>simp at hx
theorem aYg {FT : Nat→Option Nat} {ents : List (Value × AV)} {es : Array MapEntry} {i : Nat} {k : Value} {x : AV} {v : Value} {e : MapEntry} (h : aIk FT c ents es) (he : es[i]? = some e) (hr : RV FT c x v) :
  aIk FT c (ents.set i (k,x)) (es.modify i fun e=>{ e with key:=k,val:=v }):=by
 refine ⟨by simpa using h.1,fun j k' x' hx=>?_⟩
 rw [List.getElem?_set] at hx
 split at hx
 ·rename_i hij
  subst hij
  split at hx
  ·cases hx
   refine ⟨{ e with key:=k,val:=v },?_,rfl,hr⟩
   rw [Array.getElem?_modify]; simp [he]
  ·cases hx
 ·rename_i hij
  obtain ⟨e',g1,g2,g3⟩:=h.2 j k' x' hx
  refine ⟨e',?_,g2,g3⟩
  rw [Array.getElem?_modify]; simp [hij,g1]
theorem aVj {FT : Nat→Option Nat} {ents : List (Value × AV)} {es : Array MapEntry} {k : Value} {x : AV} {v : Value} {n : Nat} (h : aIk FT c ents es) (hr : RV FT c x v) :
  aIk FT c (ents++[(k,x)]) (es.push { key:=k,val:=v,born:=n }):=by
 refine ⟨by simp [h.1],fun j k' x' hx=>?_⟩
 rw [List.getElem?_append] at hx
 split at hx
 ·rename_i hj
  obtain ⟨e',g1,g2,g3⟩:=h.2 j k' x' hx
  refine ⟨e',?_,g2,g3⟩
  rw [Array.getElem?_push,if_neg (by rw [h.1]; omega)]; exact g1
 ·rename_i hj
  rw [List.getElem?_singleton] at hx
  split at hx
  ·rename_i h0
   cases hx
   refine ⟨{ key:=k,val:=v,born:=n },?_,rfl,hr⟩
   rw [Array.getElem?_push,if_pos (by rw [h.1]; omega)]
  ·cases hx
theorem aOo {es : Array MapEntry} {clk i : Nat} {f : MapEntry→MapEntry} (h : ∀ e ∈ es.toList,e.born < clk) (hf : ∀ e,(f e).born=e.born) : ∀ e ∈ (es.modify i f).toList,e.born < clk:=by
 intro e he
 obtain ⟨j,hj,rfl⟩:=List.mem_iff_getElem.1 he
 simp only [Array.getElem_toList,Array.getElem_modify]
 have hj' : j < es.size:=by simpa using hj
 have:=h es[j] (by simp)
 split
 ·rw [hf]; exact this
 ·exact this
theorem aUk {es : Array MapEntry} {clk : Nat} {k v : Value} (h : ∀ e ∈ es.toList,e.born < clk) : ∀ e ∈ (es.push { key:=k,val:=v,born:=clk }).toList,e.born < clk + 1:=by
 intro e he
 simp only [Array.toList_push,List.mem_append,List.mem_singleton] at he
 rcases he with he | rfl
 ·exact Nat.lt_succ_of_lt (h e he)
 ·exact Nat.lt_succ_self _
theorem aQw {es : Array MapEntry} {clk i : Nat} (h : ∀ e ∈ es.toList,e.born < clk) (hi : i < es.size) : ∀ e ∈ (es.eraseIdxIfInBounds i).toList,e.born < clk:=by
 intro e he
 simp only [Array.eraseIdxIfInBounds,hi,dif_pos,Array.toList_eraseIdx] at he
 exact h e (List.mem_of_mem_eraseIdx he)
theorem aPf [GlobT] (hs : Sim (ftOf T) c) (htr : TR (ftOf T) c tm a.tmps) {kt e t : TypeId} {m k x : AOpd} {m' k' x' : Operand} {ents ents' : List (Value × AV)} {kv : Value} {id : Nat}
  (ho : o.op=.mapUpdate t m' k' x' ∨ o.op=.insert t m' k' x') (h1 : eC T m m'=true) (h2 : eC T k k'=true) (h3 : eC T x x'=true) (hu : P.underlying t=some (.map kt e))
  (hk : lits (dU tm k)=some kv) (hck : eD P (Instr.checkKey false 10000 kt kv)=some ()) (hfl : fl ≤ id)
  (hm : dU tm m=.mp id) (hob : c.H[id]? = some (.mp ents))
  (hr : (∃ i en,aAr P kt kv ents=some (some i)∧ents[i]? = some en∧Instr.sameBits 10000 en.1 kv=true∧ents'=ents.set i (kv,dU tm x)) ∨ (aAr P kt kv ents=some none∧ents'=ents++[(kv,dU tm x)])) :
  OpOK P (ftOf T) c fl o a (.lit gD) (c.H.set id (.mp ents')):=by
 have hm':=eE hs htr h1
 rw [hm] at hm'
 have hkv:=aKu (eE hs htr h2) hk
 have hx:=eE hs htr h3
 obtain ⟨b,hv,_,hb⟩:=hm'.mp_inv
 obtain ⟨es,clk,g1,hE,hY⟩:=aT2 hs hob hb
 have hck':=iB (w:=c.w) hck
 have hset : ∀ ob,(setObj b ob).run P c.w=.ok () { c.w with heap:=c.w.heap.setIfInBounds b ob }:=by
  intro ob; simp [setObj,Sem.run,g1]
 have hrun : ∃ es' clk',(aIk (ftOf T) c ents' es'∧∀ e ∈ es'.toList,e.born < clk')∧(Instr.mapUpdate t (a.eval m') kv (a.eval x')).run P c.w=.ok () { c.w with heap:=c.w.heap.setIfInBounds b (.map es' clk') }:=by
  rcases hr with ⟨i0,en,hf,hen,hsb,rfl⟩ | ⟨hf,rfl⟩
  ·obtain ⟨e',k1,k2⟩:=aId hE hf c.w
   obtain ⟨k0,x0⟩:=en
   obtain ⟨e'',k3,k4,_⟩:=hE.2 i0 k0 x0 hen
   rw [k1] at k3
   cases k3
   refine ⟨es.modify i0 fun e=>{ e with key:=kv,val:=a.eval x' },clk,⟨aYg hE k1 hx,aOo hY fun _=>rfl⟩,?_⟩
   have hks : (Instr.keyThatStays e'.key kv).run P c.w=.ok kv c.w:=by
    simp only at hsb
    simp [Instr.keyThatStays,k4,hsb]
   simp [Instr.mapUpdate,run_underlying hu,hv,pU g1,hck',k2,k1,hks,hset]
  ·have k2:=aIe hE hf c.w
   refine ⟨es.push { key:=kv,val:=a.eval x',born:=clk },clk + 1,⟨aVj hE hx,aUk hY⟩,?_⟩
   simp [Instr.mapUpdate,run_underlying hu,hv,pU g1,hck',k2,hset]
 obtain ⟨es',clk',hE',hrun⟩:=hrun
 refine aW0 (β':=c.β) (w':={ c.w with heap:=c.w.heap.setIfInBounds b (.map es' clk') }) ?_ (aFp (ob:=.map es' clk') hs hfl hob hb rfl rfl rfl rfl) (aMc hs hob hb rfl rfl rfl rfl ⟨hE'.1.1,hE'.2⟩ hE'.1.2)
 rcases ho with ho | ho <;> simp [execOp,ho,hkv,hrun]
theorem aPi [GlobT] (hs : Sim (ftOf T) c) (htr : TR (ftOf T) c tm a.tmps) {kt e t : TypeId} {m k : AOpd} {m' k' : Operand} {ts : Array TypeId} {ents ents' : List (Value × AV)} {kv : Value} {id : Nat}
  (ho : o.op=.call ⟨.builtin .delete,#[m',k'],ts⟩) (ht : ts[0]? = some t) (h1 : eC T m m'=true) (h2 : eC T k k'=true) (hu : P.underlying t=some (.map kt e))
  (hk : lits (dU tm k)=some kv) (hck : eD P (Instr.checkKey ents.isEmpty 10000 kt kv)=some ()) (hfl : fl ≤ id)
  (hm : dU tm m=.mp id) (hob : c.H[id]? = some (.mp ents))
  (hr : (∃ i,aAr P kt kv ents=some (some i)∧ents'=ents.eraseIdx i) ∨ (aAr P kt kv ents=some none∧ents'=ents)) :
  OpOK P (ftOf T) c fl o a (.lit gD) (c.H.set id (.mp ents')):=by
 have hm':=eE hs htr h1
 rw [hm] at hm'
 have hkv:=aKu (eE hs htr h2) hk
 obtain ⟨b,hv,_,hb⟩:=hm'.mp_inv
 obtain ⟨es,clk,g1,hE,hY⟩:=aT2 hs hob hb
 have hck' : (Instr.checkKey es.isEmpty 10000 kt kv).run P c.w=.ok () c.w:=by rw [aMn hE]; exact iB hck
 have hset : ∀ ob,(setObj b ob).run P c.w=.ok () { c.w with heap:=c.w.heap.setIfInBounds b ob }:=by
  intro ob; simp [setObj,Sem.run,g1]
 have hrun : ∃ es' clk',(aIk (ftOf T) c ents' es'∧∀ e ∈ es'.toList,e.born < clk')∧(Builtin.delete_ ts o.type #[a.eval m',kv]).run P c.w=.ok (.tuple #[]) { c.w with heap:=c.w.heap.setIfInBounds b (.map es' clk') }:=by
  rcases hr with ⟨i0,hf,rfl⟩ | ⟨hf,rfl⟩
  ·obtain ⟨e',k1,k2⟩:=aId hE hf c.w
   have hlt : i0 < es.size:=(Array.getElem?_eq_some_iff.1 k1).1
   refine ⟨es.eraseIdxIfInBounds i0,clk,⟨⟨?_,?_⟩,aQw hY hlt⟩,?_⟩
   ·simp only [Array.eraseIdxIfInBounds,hlt,dif_pos]
    rw [Array.size_eraseIdx,List.length_eraseIdx,hE.1]
    rw [if_pos (by rw [← hE.1]; exact hlt)]
   ·intro j k0 x0 hx
    simp only [Array.eraseIdxIfInBounds,hlt,dif_pos]
    rw [List.getElem?_eraseIdx] at hx
    rw [Array.getElem?_eraseIdx]
    split at hx
    ·rename_i hj
     rw [if_pos hj]; exact hE.2 j k0 x0 hx
    ·rename_i hj
     rw [if_neg hj]; exact hE.2 _ k0 x0 hx
   ·simp [Builtin.delete_,ht,run_underlying hu,hv,pU g1,hck',k2,hset]
  ·have k2:=aIe hE hf c.w
   refine ⟨es,clk,⟨hE,hY⟩,?_⟩
   simp [Builtin.delete_,ht,run_underlying hu,hv,pU g1,hck',k2,hset]
 obtain ⟨es',clk',hE',hrun⟩:=hrun
 refine mH (cv:=.tuple #[]) (β':=c.β) (w':={ c.w with heap:=c.w.heap.setIfInBounds b (.map es' clk') }) ?_ (aFp (ob:=.map es' clk') hs hfl hob hb rfl rfl rfl rfl) (aMc hs hob hb rfl rfl rfl rfl ⟨hE'.1.1,hE'.2⟩ hE'.1.2) (RV.lit _)
 simp [execOp,ho,resolve,invoke,builtin,hkv,hrun]
end
end Go.Proofs.YtapabkfjeiknbaaGreat.Av
namespace Go.Proofs.YtapabkfjeiknbaaGreat.Av
open Go
section
variable {P : Program} {T : List AFun} {c : Ctx} {fl : Nat} {o : Oper} {a : Act} {tm : List AV}
def zK (FT : Nat→Option Nat) (c : Ctx) (s : Nat) (ys : List (List AV)) (news : List Value) : Prop :=
 news.length=ys.length * s∧∀ i j x,hZ ys i j=some x→∃ u,news[i * s + j]? = some u∧gA u=true∧RV FT c x u
theorem aC3 {s : Nat} {ys : List (List AV)} (h : zJ s ys=true) : ∀ e ∈ ys,e.length=s:=by
 intro e he
 have:=List.all_eq_true.1 h e he
 simpa using this
theorem zU [GlobT] {FT : Nat→Option Nat} {s : Nat} {ys : List (List AV)} {news : List Value} (hl : ∀ e ∈ ys,e.length=s) (h : zK FT c s ys news) : ∀ u ∈ news,u.oneCell'=true:=by
 intro u hu
 obtain ⟨p,hp⟩:=List.mem_iff_getElem?.1 hu
 have hlt : p < ys.length * s:=by rw [← h.1]; exact (List.getElem?_eq_some_iff.1 hp).1
 have hs : 0 < s:=by
  rcases Nat.eq_zero_or_pos s with h0 | h0
  ·subst h0; simp at hlt
  ·exact h0
 have hi : p / s < ys.length:=Nat.div_lt_of_lt_mul (by rw [Nat.mul_comm]; exact hlt)
 have hj : p % s < s:=Nat.mod_lt _ hs
 have he : (ys[p / s]).length=s:=hl _ (List.getElem_mem hi)
 obtain ⟨u',h1,h2,_⟩:=h.2 (p / s) (p % s) ((ys[p / s])[p % s]'(by omega)) (by simp [hZ,hi,he,hj])
 rw [Nat.mul_comm,Nat.div_add_mod] at h1
 rw [hp] at h1
 cases h1
 rw [← aHo]; exact h2
theorem aKb [GlobT] {FT : Nat→Option Nat} {s k b n : Nat} {cc : Array Value} {Ty : TypeId} {fz : Nat × Nat} {ys : List (List AV)} (hb : c.w.heap[b]? = some (.cells cc Ty fz)) (hs : 0 < s) (hn : ys.length=n) (hl : ∀ e ∈ ys,e.length=s)
  (h : ∀ i j x,hZ ys i j=some x→∃ u,cc[k + (i * s + j)]? = some u∧gA u=true∧RV FT c x u) :
  ∃ news,zK FT c s ys news∧∀ (j : Nat) (v : Value),news[j]? = some v→c.w.cell? ((⟨b,k,none⟩ : Addr).add j)=some v:=by
 refine ⟨(cc.toList.drop k).take (n * s),⟨?_,?_⟩,?_⟩
 ·simp only [List.length_take,List.length_drop,Array.length_toList,hn]
  cases n with
  | zero=>simp
  | succ m =>
   have hm : m < ys.length:=by omega
   have he : (ys[m]).length=s:=hl _ (List.getElem_mem hm)
   obtain ⟨u,hu,_⟩:=h m (s - 1) ((ys[m])[s - 1]'(by omega)) (by simp [hZ,hm])
   have : k + (m * s + (s - 1)) < cc.size:=(Array.getElem?_eq_some_iff.1 hu).1
   rw [Nat.add_mul]; omega
 ·intro i j x hx
  obtain ⟨u,h1,h2,h3⟩:=h i j x hx
  refine ⟨u,?_,h2,h3⟩
  obtain ⟨e,he,hj⟩:=jJ hx
  have hjs : j < s:=by rw [← hl e (List.mem_of_getElem? he)]; exact (List.getElem?_eq_some_iff.1 hj).1
  have hi : i < n:=by rw [← hn]; exact (List.getElem?_eq_some_iff.1 he).1
  rw [List.getElem?_take,if_pos (aS4 hi hjs),List.getElem?_drop]
  simpa using h1
 ·intro j v hv
  rw [pO,cell_of_row c.w b (k + j) cc Ty fz hb]
  rw [List.getElem?_take] at hv
  split at hv
  ·simpa using hv
  ·cases hv
theorem aZz [GlobT] {FT : Nat→Option Nat} (hs : Sim FT c) {y : AV} {v : Value} {ys : List (List AV)} {s : Nat} (hr : RV FT c y v) (h : rd c.H y=some ys) (hl : ∀ e ∈ ys,e.length=s) (hs0 : 0 < s) :
  ∃ xa xc news,v=.slice xa ys.length xc∧ys.length ≤ xc∧zK FT c s ys news∧∀ w',Drawn c.w w'→(Builtin.firstCells s ys.length v).run P w'=.ok news.toArray w':=by
 have fin : ∀ (b k xc : Nat) (news : List Value),zK FT c s ys news→(∀ (j : Nat) (v : Value),news[j]? = some v→c.w.cell? ((⟨b,k,none⟩ : Addr).add j)=some v) →
   ∀ w',Drawn c.w w'→(Builtin.firstCells s ys.length (.slice (some ⟨b,k,none⟩) ys.length xc)).run P w'=.ok news.toArray w':=by
  intro b k xc news h1 h2 w' hd
  refine run_firstCells_some w' s ys.length ⟨b,k,none⟩ ys.length xc news h1.1 ?_
  intro j v hv
  rw [World.cell?_of_block (w:=c.w) (by rw [hd.heap])]
  exact h2 j v hv
 have finE : ∀ (xa : Option Addr) (xc : Nat),ys=[]→∀ w',Drawn c.w w'→(Builtin.firstCells s ys.length (.slice xa ys.length xc)).run P w'=.ok (#[] : Array Value) w':=by
  intro xa xc he w' _
  subst he
  cases xa <;> simp [Builtin.firstCells,loadCells,loadCellsFrom]
 have emp : ys=[]→zK FT c s ys []:=by
  intro he; subst he; exact ⟨by simp,fun i j x hx=>by simp [hZ] at hx⟩
 unfold rd at h
 split at h
 ·cases h
  exact ⟨none,0,[],hr.lit_inv,Nat.zero_le _,emp rfl,by rw [hr.lit_inv]; exact finE none 0 rfl⟩
 ·rename_i f es
  cases h
  have hp:=hr.sl_inv
  cases hp with
  | nil _ ad cap hf=>exact ⟨ad,cap,[],rfl,Nat.zero_le _,emp rfl,finE ad cap rfl⟩
  | sl _ _ b off cap cc Ty fz s' vals g1 g2 g3 g4 g5 g6 g7 g8 =>
   have e : s'=s:=by
    cases ys with
    | nil=>exact (g1 rfl).elim
    | cons e r=>rw [← g4 e (by simp),hl e (by simp)]
   subst e
   obtain ⟨news,k1,k2⟩:=aKb (k:=off) g3 hs0 rfl hl (fun i j x hx=>⟨vals i j,(g7 i j x hx).1,(g7 i j x hx).2,.pure _ _ (g8 i j x hx)⟩)
   exact ⟨_,cap,news,rfl,g5,k1,fin b off cap news k1 k2⟩
 ·rename_i es
  cases h
  obtain ⟨ad,cap,rfl,hcap,hor⟩:=hr.vw_inv
  rcases hor with rfl | ⟨b,off,cc,Ty,fz,s',vals,rfl,g2,g3,g4,g7,g8⟩
  ·exact ⟨ad,cap,[],rfl,Nat.zero_le _,emp rfl,finE ad cap rfl⟩
  ·by_cases hne : ys=[]
   ·subst hne
    exact ⟨_,cap,[],rfl,Nat.zero_le _,emp rfl,finE _ cap rfl⟩
   have e : s'=s:=by
    cases ys with
    | nil=>exact (hne rfl).elim
    | cons e r=>rw [← g4 e (by simp),hl e (by simp)]
   subst e
   obtain ⟨news,k1,k2⟩:=aKb (k:=off) g3 hs0 rfl hl (fun i j x hx=>⟨vals i j,(g7 i j x hx).1,(g7 i j x hx).2,.pure _ _ (g8 i j x hx)⟩)
   exact ⟨_,cap,news,rfl,hcap,k1,fin b off cap news k1 k2⟩
 ·rename_i id tot off len
  split at h
  ·rename_i s' es hob
   split at h
   ·rename_i htot
    cases h
    obtain ⟨ad,cap,s0,n0,hv,g1,g2,g3,g4⟩:=hr.ms_inv
    rw [qP hob] at g1
    cases g1
    obtain ⟨m1,m2⟩:=g4 htot.symm
    have hlen : ((es.drop off).take len).length=len:=by simp; omega
    rw [hlen]
    rcases m2 with ⟨_,m3,m4,m5⟩ | ⟨b,cc,Ty,a',m3,m4,m5,m6,m7⟩
    ·subst m5
     have hl0 : len=0:=by omega
     subst hl0
     have he : (es.drop off).take 0=[]:=by simp
     have k2:=finE ad 0 he
     simp only [hlen] at k2
     exact ⟨ad,0,[],hv,Nat.le_refl _,emp he,by rw [hv]; exact k2⟩
    ·by_cases hl0 : len=0
     ·subst hl0
      have he : (es.drop off).take 0=[]:=by simp
      have k2:=finE ad cap he
      simp only [hlen] at k2
      exact ⟨ad,cap,[],hv,Nat.zero_le _,emp he,by rw [hv]; exact k2⟩
     ·have ha:=m7 (by omega)
      subst m6
      subst ha
      obtain ⟨cc',Ty',q1,q2,q3⟩:=hs.blk id s' es b hob m3
      rw [m4] at q1
      cases q1
      have es0 : s'=s:=by
       have hne : 0 < es.length:=by omega
       have hm : off < es.length:=by omega
       have h1:=hs.lens id s' es hob (es[off]) (List.getElem_mem hm)
       have h2:=hl (es[off]) (by
        rw [List.mem_iff_getElem?]
        exact ⟨0,by rw [List.getElem?_take,if_pos (by omega),List.getElem?_drop]; simp [hm]⟩)
       omega
      subst es0
      obtain ⟨news,k1,k2⟩:=aKb (FT:=FT) (k:=off * s') m4 hs0 rfl hl (fun i j x hx=>by
       obtain ⟨e,he,hj⟩:=jJ hx
       rw [List.getElem?_take] at he
       split at he
       ·rw [List.getElem?_drop] at he
        obtain ⟨u,w1,w2,w3⟩:=q3 (off + i) j x (by simp [hZ,he,hj])
        exact ⟨u,by rw [← w1]; congr 1; rw [Nat.add_mul]; omega,w2,w3⟩
       ·cases he)
      have k3:=fin b (off * s') cap news k1 k2
      simp only [hlen] at k3
      exact ⟨_,cap,news,hv,by omega,k1,by rw [hv]; exact k3⟩
   ·cases h
  ·cases h
 ·cases h
end
end Go.Proofs.YtapabkfjeiknbaaGreat.Av
namespace Go.Proofs.YtapabkfjeiknbaaGreat.Av
open Go
section
variable {P : Program} {T : List AFun} {c : Ctx} {fl : Nat} {o : Oper} {a : Act} {tm : List AV}
theorem aMv (w : World) : Drawn w w.drew:=⟨rfl,rfl,rfl,rfl,Nat.le_succ _⟩
structure Src (P : Program) (w : World) (t t' e : TypeId) (i : TypeInfo) (xv : Value) (m : Nat) (news : List Value) : Prop where
 ht : P.underlying t=some (.slice e)
 hi : P.info? e=some i
 run : ∀ (ty : TypeId) (base : Option Addr) (sLen sCap : Nat),sLen + m ≤ sCap→∀ (w' : World),
  (∀ ad,base=some ad→(storeCells (ad.add (sLen * i.size)) news).run P w=.ok () w')→(base=none→w'=w) →
  (Builtin.append_ #[t,t'] ty #[.slice base sLen sCap,xv]).run P w=.ok (.slice base (sLen + m) sCap) w'
 grow : ∀ (ty : TypeId) (z : Value) (base : Option Addr) (sLen sCap : Nat) (olds : List Value),i.zero=some z→sCap < sLen + m→((sLen + m : Nat) : Int) ≤ 9223372036854775807 →
  Builtin.nextslicecap (sLen + m) sCap * i.bytes ≤ 281474976710656→(Builtin.firstCells i.size sLen (.slice base sLen sCap)).run P w.drew=.ok olds.toArray w.drew →
  ∃ cells : Array Value,cells.toList=olds++news++(Builtin.zeroCells z.cells (grownCap w (sLen + m) sCap e - (sLen + m))).toList ∧
  (Builtin.append_ #[t,t'] ty #[.slice base sLen sCap,xv]).run P w =
   .ok (.slice (some ⟨w.heap.size,0,none⟩) (sLen + m) (grownCap w (sLen + m) sCap e)) (w.drew.alloc (.cells cells e))
theorem aVy [GlobT] {w : World} {t t' e e' : TypeId} {i : TypeInfo} {xa : Option Addr} {xc m : Nat} {news : List Value} (ht : P.underlying t=some (.slice e)) (ht' : P.underlying t'=some (.slice e')) (hi : P.info? e=some i)
  (hf : ∀ w',Drawn w w'→(Builtin.firstCells i.size m (.slice xa m xc)).run P w'=.ok news.toArray w') : Src P w t t' e i (.slice xa m xc) m news where
 ht:=ht
 hi:=hi
 run:=by
  intro ty base sLen sCap hroom w' hst hn
  have hf0:=hf w (Drawn.refl w)
  cases base with
  | none=>simp [Builtin.append_,run_underlying ht,run_underlying ht',sizeOf,typeInfo,hi,Builtin.lenOf,hroom,hf0,hn rfl]
  | some ad=>simp [Builtin.append_,run_underlying ht,run_underlying ht',sizeOf,typeInfo,hi,Builtin.lenOf,hroom,hf0,hst ad rfl]
 grow:=by
  intro ty z base sLen sCap olds hz hg h63 hfit ho
  have hf0:=hf w.drew (aMv w)
  have hn : ¬ (sLen + m ≤ sCap):=by omega
  have h63' : ¬ (9223372036854775807 < ((sLen : Int) + (m : Int))):=by omega
  have h48' : ¬ (281474976710656 < Builtin.nextslicecap (sLen + m) sCap * i.bytes):=by omega
  refine ⟨olds.toArray++news.toArray++Builtin.zeroCells z.cells (grownCap w (sLen + m) sCap e - (sLen + m)),by simp,?_⟩
  simp [Builtin.append_,run_underlying ht,run_underlying ht',sizeOf,typeInfo,zeroValue,hi,hz,Builtin.lenOf,hn,h63',h48',Question.forced,hf0,ho,newRow,grownCap]
  congr 2
  apply Array.ext'
  simp [List.append_assoc]
theorem aVx [GlobT] {w : World} {t t' e : TypeId} {i : TypeInfo} {k k' : IntKind} {z : Value} {m : Nat} (ht : P.underlying t=some (.slice e)) (ht' : P.underlying t'=some (.int k)) (hi : P.info? e=some i) (hz : i.zero=some z)
  (hm : m ≤ 2 ^ 20) (hb : m * i.bytes ≤ 2 ^ 40) (hs0 : 0 < i.size) (hzs : z.cells.size=i.size) : Src P w t t' e i (.int k' (m : Nat)) m (Builtin.zeroCells z.cells m).toList where
 ht:=ht
 hi:=hi
 run:=by
  intro ty base sLen sCap hroom w' hst hn
  have w1:=aEk (n:=m) (by omega)
  have hneg : ¬ ((m : Int) < 0):=by omega
  have hbig : ¬ ((281474976710656 : Int) < (m : Int) * (i.bytes : Int)):=by rw [← Int.natCast_mul]; omega
  by_cases hm0 : m * i.size=0
  ·have hmz : m=0:=by
    rcases Nat.mul_eq_zero.1 hm0 with h | h
    ·exact h
    ·omega
   subst hmz
   have hz0 : (Builtin.zeroCells z.cells 0).toList=[]:=by simp [Builtin.zeroCells]
   rw [hz0] at hst
   have hr0 : sLen ≤ sCap:=by omega
   have w0 : IntKind.i64.wrap 0=0:=IntWalk.i64_in _ (by omega)
   cases base with
   | none=>simp [Builtin.append_,run_underlying ht,run_underlying ht',sizeOf,typeInfo,hi,asInt,asIntOf,hr0,hn rfl,w0]
   | some ad=>simp [Builtin.append_,run_underlying ht,run_underlying ht',sizeOf,typeInfo,hi,asInt,asIntOf,hr0,hst ad rfl,w0]
  ·cases base with
   | none=>simp [Builtin.append_,run_underlying ht,run_underlying ht',sizeOf,typeInfo,zeroValue,hz,hi,asInt,asIntOf,w1,hneg,hbig,hm0,hroom,hn rfl]
   | some ad=>simp [Builtin.append_,run_underlying ht,run_underlying ht',sizeOf,typeInfo,zeroValue,hz,hi,asInt,asIntOf,w1,hneg,hbig,hm0,hroom,hst ad rfl]
 grow:=by
  intro ty z' base sLen sCap olds hz' hg h63 hfit ho
  rw [hz] at hz'
  cases hz'
  have w1:=aEk (n:=m) (by omega)
  have hneg : ¬ ((m : Int) < 0):=by omega
  have hbig : ¬ ((281474976710656 : Int) < (m : Int) * (i.bytes : Int)):=by rw [← Int.natCast_mul]; omega
  have hn : ¬ (sLen + m ≤ sCap):=by omega
  have h63' : ¬ (9223372036854775807 < ((sLen : Int) + (m : Int))):=by omega
  have h48' : ¬ (281474976710656 < Builtin.nextslicecap (sLen + m) sCap * i.bytes):=by omega
  refine ⟨olds.toArray++(Builtin.zeroCells z.cells m)++Builtin.zeroCells z.cells (grownCap w (sLen + m) sCap e - (sLen + m)),by simp,?_⟩
  by_cases hm0 : m * i.size=0
  ·have hmz : m=0:=by
    rcases Nat.mul_eq_zero.1 hm0 with h | h
    ·exact h
    ·omega
   subst hmz
   have hz0 : Builtin.zeroCells z.cells 0=#[]:=by simp [Builtin.zeroCells]
   have w0 : IntKind.i64.wrap 0=0:=IntWalk.i64_in _ (by omega)
   have hn0 : ¬ (sLen ≤ sCap):=by omega
   have h630 : ¬ (9223372036854775807 < (sLen : Int)):=by omega
   have h480 : ¬ (281474976710656 < Builtin.nextslicecap sLen sCap * i.bytes):=by simpa using h48'
   simp [Builtin.append_,run_underlying ht,run_underlying ht',sizeOf,typeInfo,zeroValue,hi,hz,asInt,asIntOf,hn0,h630,h480,Question.forced,ho,newRow,grownCap,w0,hz0]
  ·simp [Builtin.append_,run_underlying ht,run_underlying ht',sizeOf,typeInfo,zeroValue,hi,hz,asInt,asIntOf,w1,hneg,hbig,hm0,hn,h63',h48',Question.forced,ho,newRow,grownCap]
end
end Go.Proofs.YtapabkfjeiknbaaGreat.Av
namespace Go.Proofs.YtapabkfjeiknbaaGreat.Av
open Go
section
variable {P : Program} {T : List AFun} {c : Ctx} {fl : Nat} {o : Oper} {a : Act} {tm : List AV}
theorem aQi [GlobT] {es ys : List (List AV)} {i j : Nat} {x : AV} (h : hZ (es++ys) i j=some x) : (i < es.length∧hZ es i j=some x) ∨ (es.length ≤ i∧hZ ys (i - es.length) j=some x):=by
 obtain ⟨e,h1,h2⟩:=jJ h
 rw [List.getElem?_append] at h1
 split at h1
 ·exact .inl ⟨by assumption,by simp [hZ,h1,h2]⟩
 ·exact .inr ⟨by omega,by simp [hZ,h1,h2]⟩
theorem aQ9 [GlobT] {FT : Nat→Option Nat} {s : Nat} {es ys : List (List AV)} {olds news rest : List Value} (h1 : zK FT c s es olds) (h2 : zK FT c s ys news) :
  ∀ i j x,hZ (es++ys) i j=some x→∃ u,(olds++news++rest)[i * s + j]? = some u∧gA u=true∧RV FT c x u:=by
 intro i j x hx
 rcases aQi hx with ⟨hi,hc⟩ | ⟨hi,hc⟩
 ·obtain ⟨u,g1,g2,g3⟩:=h1.2 i j x hc
  refine ⟨u,?_,g2,g3⟩
  have hlt:=(List.getElem?_eq_some_iff.1 g1).1
  rw [List.append_assoc,List.getElem?_append_left hlt]; exact g1
 ·obtain ⟨u,g1,g2,g3⟩:=h2.2 _ j x hc
  refine ⟨u,?_,g2,g3⟩
  have hlt:=(List.getElem?_eq_some_iff.1 g1).1
  have e : i * s + j=olds.length + ((i - es.length) * s + j):=by
   rw [h1.1,← Nat.add_assoc,← Nat.add_mul]; congr 2; omega
  rw [e,List.append_assoc,List.getElem?_append_right (by omega),Nat.add_sub_cancel_left,List.getElem?_append_left hlt]
  exact g1
theorem aV9 {n bytes : Nat} (h : room n bytes=true) : n * bytes ≤ 2 ^ 40∧n ≤ 2 ^ 40:=by
 simpa [room] using h
theorem aXz [GlobT] {n m bytes cap : Nat} (h : room (n + m) bytes=true) (hc : cap < n + m) : Builtin.nextslicecap (n + m) cap * bytes ≤ 281474976710656∧((n + m : Nat) : Int) ≤ 9223372036854775807:=by
 obtain ⟨h1,h2⟩:=aV9 h
 exact ⟨growslice_fits hc (by omega),by omega⟩
theorem aHa [GlobT] {FT : Nat→Option Nat} {s k : Nat} {es ys : List (List AV)} {news : List Value} {cc : Array Value}
  (hl : ∀ e ∈ es,e.length=s) (hly : ∀ e ∈ ys,e.length=s) (hk : k ≤ es.length) (hE : zK FT c s ys news) (hfit : k * s + news.length ≤ cc.size)
  (hold : ∀ i j x,hZ es i j=some x→∃ v,cc[i * s + j]? = some v∧gA v=true∧RV FT c x v) :
  (∀ e ∈ jM es k ys,e.length=s) ∧
  ∀ i j x,hZ (jM es k ys) i j=some x→∃ v,((jM cc.toList (k * s) news).toArray)[i * s + j]? = some v∧gA v=true∧RV FT c x v:=by
 refine ⟨?_,?_⟩
 ·intro e he
  simp only [jM,List.mem_append] at he
  rcases he with h | h | h
  ·exact hl e (List.mem_of_mem_take h)
  ·exact hly e h
  ·exact hl e (List.mem_of_mem_drop h)
 ·intro i j x hx
  have hfit2 : k * s + news.length ≤ cc.toList.length:=by simpa using hfit
  simp only [List.getElem?_toArray,aEp hfit2]
  obtain ⟨e,h1,h2⟩:=jJ hx
  unfold jM at h1
  rw [List.getElem?_append] at h1
  simp only [List.length_take,Nat.min_eq_left hk] at h1
  have hjs : ∀ e' : List AV,(e' ∈ es ∨ e' ∈ ys)→e=e'→j < s:=by
   intro e' hm he
   have : e'.length=s:=hm.elim (hl e') (hly e')
   rw [← this,← he]; exact (List.getElem?_eq_some_iff.1 h2).1
  split at h1
  ·rename_i hi
   rw [List.getElem?_take,if_pos hi] at h1
   have hj:=hjs e (.inl (List.mem_of_getElem? h1)) rfl
   have : i * s + j < k * s:=aS4 hi hj
   rw [if_pos this]
   simpa using hold i j x (by simp [hZ,h1,h2])
  ·rename_i hi
   rw [List.getElem?_append] at h1
   split at h1
   ·rename_i hi2
    have hj:=hjs e (.inr (List.mem_of_getElem? h1)) rfl
    have hge : k * s ≤ i * s:=Nat.mul_le_mul_right s (by omega)
    have e1 : i * s + j - k * s=(i - k) * s + j:=by rw [Nat.sub_mul]; omega
    have hlt : (i - k) * s + j < ys.length * s:=aS4 hi2 hj
    rw [if_neg (by omega),if_pos (by rw [hE.1]; omega),e1]
    exact hE.2 _ j x (by simp [hZ,h1,h2])
   ·rename_i hi2
    rw [List.getElem?_drop] at h1
    have e0 : k + ys.length + (i - k - ys.length)=i:=by omega
    rw [e0] at h1
    have hge : (k + ys.length) * s ≤ i * s:=Nat.mul_le_mul_right s (by omega)
    rw [Nat.add_mul] at hge
    rw [if_neg (by omega),if_neg (by rw [hE.1]; omega)]
    simpa using hold i j x (by simp [hZ,h1,h2])
theorem aDd [GlobT] {FT : Nat→Option Nat} (hs : Sim FT c) {x : AV} {v : Value} {xs : List (List AV)} {s : Nat} (hr : RV FT c x v) (h : rd c.H x=some xs) (hl : ∀ e ∈ xs,e.length=s) (hs0 : 0 < s) :
  ∃ xa xc olds,v=.slice xa xs.length xc∧zK FT c s xs olds∧(Builtin.firstCells s xs.length (.slice xa xs.length xc)).run P c.w.drew=.ok olds.toArray c.w.drew:=by
 obtain ⟨xa,xc,news,h1,_,h2,h3⟩:=aZz (P:=P) hs hr h hl hs0
 exact ⟨xa,xc,news,h1,h2,by rw [← h1]; exact h3 _ (aMv _)⟩
theorem aPj [GlobT] (hs : Sim (ftOf T) c) (hfl : fl ≤ c.H.length) {x r : AV} {xv yv z : Value} {t t' e : TypeId} {i : TypeInfo} {s bytes m : Nat} {ys : List (List AV)} {news : List Value} {H' : Heap}
  (hx : RV (ftOf T) c x xv) (hsrc : Src P c.w t t' e i yv m news) (hE : zK (ftOf T) c s ys news) (hm : ys.length=m) (hsize : i.size=s) (hby : i.bytes=bytes) (hz : i.zero=some z) (hzs : z.cells.size=s)
  (happ : iE fl c.H s bytes x ys=some (r,H'))
  (hexec : ∀ cv w',(Builtin.append_ #[t,t'] o.type #[xv,yv]).run P c.w=.ok cv w'→(execOp a.eval o).run P c.w=.ok (.value cv) w') : OpOK P (ftOf T) c fl o a r H':=by
 subst hsize hby hm
 unfold iE at happ
 split at happ
 ·rename_i hcond
  obtain ⟨hal,hs0,hroomy⟩:=hcond
  have hly:=aC3 hal
  have nothing : ys.length=0→(∃ xa n cap,xv=.slice xa n cap∧n ≤ cap)→OpOK P (ftOf T) c fl o a x c.H:=by
   rintro h0 ⟨xa,n,cap,rfl,hle⟩
   have hnil : news=[]:=List.eq_nil_of_length_eq_zero (by rw [hE.1,h0,Nat.zero_mul])
   have:=hsrc.run o.type xa n cap (by omega) c.w (by intro ad _; rw [hnil]; simp [storeCells]) (fun _=>rfl)
   rw [h0] at this
   exact gL hs (hexec _ _ this) hx
  have fresh : ∀ (es : List (List AV)) (xa : Option Addr) (cap : Nat) (olds : List Value),xv=.slice xa es.length cap→(∀ e ∈ es,e.length=i.size)→zK (ftOf T) c i.size es olds →
    (Builtin.firstCells i.size es.length (.slice xa es.length cap)).run P c.w.drew=.ok olds.toArray c.w.drew→cap < es.length + ys.length→room (es.length + ys.length) i.bytes=true →
    ∃ cells : Array Value,∃ ncap,es.length + ys.length ≤ ncap∧cells.size=ncap * i.size ∧
     (execOp a.eval o).run P c.w=.ok (.value (.slice (some ⟨c.w.heap.size,0,none⟩) (es.length + ys.length) ncap)) (c.w.drew.alloc (.cells cells e (0,0))) ∧
     (∀ f ∈ es++ys,f.length=i.size)∧∀ k j x,hZ (es++ys) k j=some x→∃ v,cells[k * i.size + j]? = some v∧gA v=true∧RV (ftOf T) c x v:=by
   intro es xa cap olds hxv hle hO hfo hcap hroom
   obtain ⟨f1,f2⟩:=aXz hroom hcap
   obtain ⟨cells,g1,g2⟩:=hsrc.grow o.type z xa es.length cap olds hz hcap f2 f1 hfo
   have hge:=grownCap_ge c.w (es.length + ys.length) cap e
   refine ⟨cells,grownCap c.w (es.length + ys.length) cap e,hge,?_,?_,?_,?_⟩
   ·have:=congrArg List.length g1
    simp only [Array.length_toList,List.length_append,hO.1,hE.1,size_zeroCells,hzs] at this
    rw [this,← Nat.add_mul,← Nat.add_mul]; congr 1; omega
   ·exact hexec _ _ (by rw [hxv]; exact g2)
   ·intro f hf
    rcases List.mem_append.1 hf with h | h
    ·exact hle f h
    ·exact hly f h
   ·intro k j x hx
    obtain ⟨u,k1,k2,k3⟩:=aQ9 (rest:=(Builtin.zeroCells z.cells (grownCap c.w (es.length + ys.length) cap e - (es.length + ys.length))).toList) hO hE k j x hx
    refine ⟨u,?_,k2,k3⟩
    rw [← g1] at k1
    simpa using k1
  have newobj : ∀ (es : List (List AV)) (xa : Option Addr) (cap : Nat) (olds : List Value),xv=.slice xa es.length cap→(∀ e ∈ es,e.length=i.size)→zK (ftOf T) c i.size es olds →
    (Builtin.firstCells i.size es.length (.slice xa es.length cap)).run P c.w.drew=.ok olds.toArray c.w.drew→cap < es.length + ys.length→room (es.length + ys.length) i.bytes=true →
    OpOK P (ftOf T) c fl o a (.ms c.H.length (es.length + ys.length) 0 (es.length + ys.length)) (c.H++[.blk i.size (es++ys)]):=by
   intro es xa cap olds h1 h2 h3 h4 h5 h6
   obtain ⟨cells,ncap,q1,q2,q3,q4,q5⟩:=fresh es xa cap olds h1 h2 h3 h4 h5 h6
   have:=aCr (P:=P) (o:=o) (a:=a) hs hfl false (es:=es++ys) (n:=es.length + ys.length) (cap:=ncap) (cv:=cells) (t:=e) (s:=i.size) (w':=c.w.drew.alloc (.cells cells e (0,0)))
    (by simp) q1 (by simp) rfl rfl rfl rfl q3 q2 q4 q5
   simpa using this
  split at happ
  · -- nil
   have hv:=hx.lit_inv
   split at happ
   ·rename_i h0
    cases happ
    exact nothing h0 ⟨none,0,0,hv,Nat.le_refl _⟩
   ·rename_i h0
    cases happ
    have:=newobj [] none 0 [] hv (by simp) ⟨by simp,fun i j x hx=>by simp [hZ] at hx⟩ (by simp [Builtin.firstCells]) (by simp; omega) (by simpa using hroomy)
    simpa using this
  ·rename_i f es
   obtain ⟨xa,cap,hv,hle,hfull⟩:=aV7 hx.sl_inv
   split at happ
   ·rename_i h0
    cases happ
    exact nothing h0 ⟨xa,_,cap,hv,hle⟩
   ·rename_i h0
    split at happ
    ·rename_i hc
     cases happ
     have hle':=aC3 hc.2.1
     obtain ⟨xa',xc',olds,k1,k2,k3⟩:=aDd (P:=P) hs hx (by simp [rd] : rd c.H (.sl f es)=some es) hle' hs0
     rw [hv] at k1
     cases k1
     exact newobj es xa cap olds hv hle' k2 k3 (by rw [hfull hc.1]; omega) hc.2.2
    ·cases happ
  ·rename_i id tot off len
   obtain ⟨ad,cap,s0,n0,hv,g1,g2,g3,g4⟩:=hx.ms_inv
   split at happ
   ·rename_i s' es hob
    split at happ
    ·rename_i hc
     obtain ⟨rfl,htot,hroom⟩:=hc
     rw [qP hob] at g1
     cases g1
     obtain ⟨m1,m2⟩:=g4 htot.symm
     have hlens:=hs.lens id i.size es hob
     split at happ
     ·rename_i h0
      cases happ
      exact nothing h0 ⟨ad,len,cap,hv,g3⟩
     ·rename_i h0
      split at happ
      ·rename_i hflid
       split at happ
       ·rename_i htip
        obtain ⟨rfl,rfl⟩:=htip
        cases happ
        subst htot
        have moves : cap < es.length + ys.length→OpOK P (ftOf T) c fl o a (.ms id (es.length + ys.length) 0 (es.length + ys.length)) (c.H.set id (.blk i.size (es++ys))):=by
         intro hcap
         obtain ⟨xa',xc',olds,k1,k2,k3⟩:=aDd (P:=P) hs hx (by simp [rd,hob] : rd c.H (.ms id es.length 0 es.length)=some es) hlens hs0
         rw [hv] at k1
         cases k1
         obtain ⟨cells,ncap,q1,q2,q3,q4,q5⟩:=fresh es ad cap olds hv hlens k2 k3 hcap hroom
         have hgt : es.length < (es++ys).length:=by simp; omega
         refine mH (β':=upd c.β id c.w.heap.size) q3 (aJz (ob:=.cells cells e (0,0)) hs hflid hob hgt rfl rfl rfl rfl)
          (aSw (cs':=cells) (T:=e) hs hob hgt rfl rfl rfl rfl q4 (by rw [q2]; exact Nat.mul_le_mul_right _ (by simpa using q1)) q5) ?_
         refine .ms id _ 0 _ _ ncap i.size _ (by rw [aHm hob]; simp) (Nat.le_refl _) q1 fun _=>⟨by omega,.inr ⟨c.w.heap.size,cells,e,_,mG _ _ _,?_,by simpa using q2.symm,rfl,fun _=>by simp⟩⟩
         exact heap_alloc_new c.w.drew _
        rcases m2 with ⟨_,m3,m4,m5⟩ | ⟨b,cc,Ty,a',m3,m4,m5,m6,m7⟩
        ·exact moves (by omega)
        ·by_cases hcap : cap < es.length + ys.length
         ·exact moves hcap
         · -- it stays
          have hne : cap ≠ 0:=by omega
          have ha:=m7 hne
          subst m6
          subst ha
          obtain ⟨cc',Ty',q1,q2,q3⟩:=hs.blk id i.size es b hob m3
          rw [m4] at q1
          cases q1
          have hfit : es.length * i.size + news.length ≤ cc.size:=by
           rw [hE.1,← m5,← Nat.add_mul]; exact Nat.mul_le_mul_right _ (by omega)
          obtain ⟨p1,p2⟩:=aHa (k:=es.length) hlens hly (Nat.le_refl _) hE hfit q3
          have hsp : jM es es.length ys=es++ys:=by simp [jM]
          rw [hsp] at p1 p2
          have hst:=run_storeCells_at P b (es.length * i.size) Ty news 0 cc c.w m4 (by simpa using hfit) (zU hly hE)
          rw [vE] at hst
          have hsplen:=kI (l:=cc.toList) (vs:=news) (k:=es.length * i.size) (by simpa using hfit)
          have hrun:=hsrc.run o.type (some ⟨b,0 * i.size,none⟩) es.length cap (by omega) _ (fun ad' h=>by cases h; rw [pO]; simpa using hst) (fun h=>by cases h)
          rw [← hv] at hrun
          refine mH (β':=c.β) (hexec _ _ hrun)
           (aAv (cs':=(jM cc.toList (es.length * i.size) news).toArray) hs hflid hob m3 m4 (by simp) (by simpa using hsplen) (setRow_heap c.w b cc _ Ty _ m4) (fun k hk=>setRow_other c.w b k _ hk) (by simp) rfl rfl rfl)
           (aFt (cs':=(jM cc.toList (es.length * i.size) news).toArray) hs hob m3 m4 (by simp) (by simpa using hsplen) (setRow_heap c.w b cc _ Ty _ m4) (fun k hk=>setRow_other c.w b k _ hk) (by simp) rfl rfl rfl p1 ?_ p2) ?_
          ·simp only [List.length_append,List.size_toArray,hsplen,Array.length_toList]
           rw [Nat.add_mul,← hE.1]; exact hfit
          ·refine .ms id _ 0 _ _ cap i.size _ (by rw [aHm hob]; simp) (Nat.le_refl _) (by omega) fun _=>⟨by omega,.inr ⟨b,_,Ty,_,m3,setRow_heap c.w b cc _ Ty _ m4,?_,rfl,fun _=>rfl⟩⟩
           simpa [hsplen] using m5
       ·rename_i htip
        split at happ
        ·rename_i hin
         cases happ
         subst htot
         rcases m2 with ⟨_,m3,m4,m5⟩ | ⟨b,cc,Ty,a',m3,m4,m5,m6,m7⟩
         ·omega
         ·obtain ⟨cc',Ty',q1,q2,q3⟩:=hs.blk id i.size es b hob m3
          rw [m4] at q1
          cases q1
          have hcap : es.length ≤ off + cap:=by
           rcases Nat.lt_or_ge (off + cap) es.length with h | h
           ·have : (off + cap + 1) * i.size ≤ es.length * i.size:=Nat.mul_le_mul_right _ h
            rw [Nat.add_mul] at this; omega
           ·exact h
          have hne : cap ≠ 0:=by omega
          have ha:=m7 hne
          subst m6
          subst ha
          have hfit : (off + len) * i.size + news.length ≤ cc.size:=by
           rw [hE.1,← Nat.add_mul]; exact Nat.le_trans (Nat.mul_le_mul_right _ hin) q2
          obtain ⟨p1,p2⟩:=aHa (k:=off + len) hlens hly (by omega) hE hfit q3
          have hst:=run_storeCells_at P b ((off + len) * i.size) Ty news 0 cc c.w m4 (by simpa using hfit) (zU hly hE)
          rw [vE] at hst
          have hsplen:=kI (l:=cc.toList) (vs:=news) (k:=(off + len) * i.size) (by simpa using hfit)
          have hspes:=kI (l:=es) (vs:=ys) (k:=off + len) hin
          have hrun:=hsrc.run o.type (some ⟨b,off * i.size,none⟩) len cap (by omega) _ (fun ad' h=>by cases h; rw [pO,← Nat.add_mul]; exact hst) (fun h=>by cases h)
          rw [← hv] at hrun
          refine mH (β':=c.β) (hexec _ _ hrun)
           (aAv (cs':=(jM cc.toList ((off + len) * i.size) news).toArray) hs hflid hob m3 m4 (by omega) (by simpa using hsplen) (setRow_heap c.w b cc _ Ty _ m4) (fun k hk=>setRow_other c.w b k _ hk) (by simp) rfl rfl rfl)
           (aFt (cs':=(jM cc.toList ((off + len) * i.size) news).toArray) hs hob m3 m4 (by omega) (by simpa using hsplen) (setRow_heap c.w b cc _ Ty _ m4) (fun k hk=>setRow_other c.w b k _ hk) (by simp) rfl rfl rfl p1 ?_ p2) ?_
          ·simp only [List.size_toArray,hsplen,Array.length_toList,hspes]; exact q2
          ·refine .ms id _ off _ _ cap i.size _ (by rw [aHm hob]; simp [hspes]) (Nat.le_refl _) (by omega) fun _=>⟨by omega,.inr ⟨b,_,Ty,_,m3,setRow_heap c.w b cc _ Ty _ m4,?_,rfl,fun _=>rfl⟩⟩
           simpa [hsplen] using m5
        ·cases happ
      ·cases happ
    ·cases happ
   ·cases happ
  ·cases happ
 ·cases happ
theorem aKr [GlobT] (hs : Sim (ftOf T) c) (htr : TR (ftOf T) c tm a.tmps) (hfl : fl ≤ c.H.length) {x y : AOpd} {x' y' : Operand} {t t' e e' : TypeId} {i : TypeInfo} {z : Value} {s bytes : Nat} {ys : List (List AV)} {r : AV} {H' : Heap}
  (ho : o.op=.call ⟨.builtin .append,#[x',y'],#[t,t']⟩) (h1 : eC T x x'=true) (h2 : eC T y y'=true) (hu : P.underlying t=some (.slice e)) (hu' : P.underlying t'=some (.slice e'))
  (hi : P.info? e=some i) (hsz : i.size=s) (hby : i.bytes=bytes) (hz : i.zero=some z) (hzs : z.cells.size=s) (hrd : rd c.H (dU tm y)=some ys)
  (happ : iE fl c.H s bytes (dU tm x) ys=some (r,H')) : OpOK P (ftOf T) c fl o a r H':=by
 have hal : zJ s ys=true∧0 < s:=by
  unfold iE at happ
  split at happ
  ·rename_i h; exact ⟨h.1,h.2.1⟩
  ·cases happ
 obtain ⟨xa,xc,news,hv,_,hE,hfc⟩:=aZz (P:=P) hs (eE hs htr h2) hrd (aC3 hal.1) hal.2
 have hsrc : Src P c.w t t' e i (a.eval y') ys.length news:=by
  rw [hv]
  exact aVy hu hu' hi (by rw [hsz,← hv]; exact hfc)
 refine aPj hs hfl (eE hs htr h1) hsrc hE rfl hsz hby hz hzs happ ?_
 intro cv w' hr
 simp [execOp,ho,resolve,invoke,builtin,hr]
theorem aJv [GlobT] {FT : Nat→Option Nat} {s n : Nat} {z : List Value} {v : Value} (hz : z.length=s) (hsc : ∀ u ∈ z,gA u=true) (hv : v.cells=z.toArray) :
  zK FT c s (List.replicate n (z.map AV.lit)) (Builtin.zeroCells v.cells n).toList:=by
 have hcs : v.cells.size=s:=by rw [hv]; simpa using hz
 obtain ⟨_,h2⟩:=aEr (FT:=FT) (c:=c) (n:=n) (m:=n) (cv:=v.cells) hz hsc (by rw [hv]) (Nat.le_refl _)
 refine ⟨by simp [size_zeroCells,hcs],fun i j x hx=>?_⟩
 obtain ⟨u,g1,g2,g3⟩:=h2 i j x hx
 refine ⟨u,?_,g2,g3⟩
 rw [← g1]
 simp only [Builtin.zeroCells,hcs,Array.getElem?_toList]
theorem aU1 [GlobT] (hs : Sim (ftOf T) c) (htr : TR (ftOf T) c tm a.tmps) (hfl : fl ≤ c.H.length) {x y : AOpd} {x' y' : Operand} {t t' e : TypeId} {k : IntKind} {z : List Value} {s bytes n : Nat} {r : AV} {H' : Heap}
  (ho : o.op=.call ⟨.builtin .append,#[x',y'],#[t,t']⟩) (h1 : eC T x x'=true) (h2 : eC T y y'=true) (hu : P.underlying t=some (.slice e)) (hu' : P.underlying t'=some (.int k))
  (hsz : kL P e s=true) (hby : aBr P e bytes=true) (hz : yY P e z=true) (hzl : z.length=s) (hn : uS (dU tm y)=some n) (hn20 : n ≤ 2 ^ 20) (hnb : n * bytes ≤ 2 ^ 40)
  (happ : iE fl c.H s bytes (dU tm x) (List.replicate n (z.map .lit))=some (r,H')) : OpOK P (ftOf T) c fl o a r H':=by
 have hs0 : 0 < s:=by
  unfold iE at happ
  split at happ
  ·rename_i h; exact h.2.1
  ·cases happ
 obtain ⟨i,hi,his⟩:=kV hsz
 obtain ⟨i',v,hi',hv,hvc,hsc⟩:=qN hz
 rw [hi] at hi'
 cases hi'
 have hbytes : i.bytes=bytes:=by simpa [aBr,hi] using hby
 have hcs : v.cells.size=s:=by rw [hvc]; simpa using hzl
 obtain ⟨k',hyv⟩:=aAl (eE hs htr h2) hn
 have hsrc : Src P c.w t t' e i (a.eval y') n (Builtin.zeroCells v.cells n).toList:=by
  rw [hyv]
  exact aVx hu hu' hi hv hn20 (by rw [hbytes]; exact hnb) (by omega) (by omega)
 refine aPj hs hfl (eE hs htr h1) hsrc (aJv hzl hsc hvc) (by simp) his hbytes hv hcs happ ?_
 intro cv w' hr
 simp [execOp,ho,resolve,invoke,builtin,hr]
theorem bD4 [GlobT] (hs : Sim (ftOf T) c) (htr : TR (ftOf T) c tm a.tmps) {x y : AOpd} {x' y' : Operand} {t t' e : TypeId} {i : TypeInfo} {s id tot off len : Nat} {es ys : List (List AV)}
  (ho : o.op=.call ⟨.builtin .copy,#[x',y'],#[t,t']⟩) (h1 : eC T x x'=true) (h2 : eC T y y'=true) (hu : P.underlying t=some (.slice e))
  (hi : P.info? e=some i) (hsz : i.size=s) (hrd : rd c.H (dU tm y)=some ys) (hal : zJ s ys=true) (hs0 : 0 < s) (hx : dU tm x=.ms id tot off len)
  (hob : c.H[id]? = some (.blk s es)) (htot : es.length=tot) (hle : ys.length ≤ len) (hflid : fl ≤ id) {r : AV} {H' : Heap}
  (hr : (if ys.length=0 then some (AV.lit (.int .i64 0),c.H) else some (AV.lit (.int .i64 ys.length),c.H.set id (.blk s (jM es off ys))))=some (r,H')) : OpOK P (ftOf T) c fl o a r H':=by
 have hly:=aC3 hal
 obtain ⟨xa,xc,news,hv,_,hE,hfc⟩:=aZz (P:=P) hs (eE hs htr h2) hrd hly hs0
 have hxr:=eE hs htr h1
 rw [hx] at hxr
 obtain ⟨ad,cap,s0,n0,hxv,g1,g2,g3,g4⟩:=hxr.ms_inv
 rw [qP hob] at g1
 cases g1
 obtain ⟨m1,m2⟩:=g4 htot.symm
 have hf:=hfc c.w (Drawn.refl _)
 have hmin : Nat.min ys.length len=ys.length:=Nat.min_eq_left hle
 subst hsz
 rw [hv] at hf
 split at hr
 ·rename_i h0
  cases hr
  have hnil : news=[]:=List.eq_nil_of_length_eq_zero (by rw [hE.1,h0,Nat.zero_mul])
  subst hnil
  refine gL (cv:=.int .i64 0) hs ?_ (RV.lit _)
  have h0' : Nat.min ys.length len=0:=by rw [hmin,h0]
  rw [h0] at hf
  cases ad <;> simp [execOp,ho,resolve,invoke,builtin,Builtin.copy_,run_underlying hu,sizeOf,typeInfo,hi,Builtin.lenOf,hv,hxv,h0,hf,storeCells,goInt]
 ·rename_i h0
  cases hr
  rcases m2 with ⟨_,m3,m4,m5⟩ | ⟨b,cc,Ty,a',m3,m4,m5,m6,m7⟩
  ·omega
  ·have ha:=m7 (by omega)
   subst m6
   subst ha
   obtain ⟨cc',Ty',q1,q2,q3⟩:=hs.blk id i.size es b hob m3
   rw [m4] at q1
   cases q1
   have hin : off + ys.length ≤ es.length:=by omega
   have hfit : off * i.size + news.length ≤ cc.size:=by
    rw [hE.1,← Nat.add_mul]; exact Nat.le_trans (Nat.mul_le_mul_right _ hin) q2
   obtain ⟨p1,p2⟩:=aHa (k:=off) (hs.lens id _ es hob) hly (by omega) hE hfit q3
   have hst:=run_storeCells_at P b (off * i.size) Ty news 0 cc c.w m4 (by simpa using hfit) (zU hly hE)
   rw [vE] at hst
   have hsplen:=kI (l:=cc.toList) (vs:=news) (k:=off * i.size) (by simpa using hfit)
   have hspes:=kI (l:=es) (vs:=ys) (k:=off) hin
   refine mH (β':=c.β) (cv:=.int .i64 ys.length) ?_
    (aAv (cs':=(jM cc.toList (off * i.size) news).toArray) hs hflid hob m3 m4 (by omega) (by simpa using hsplen) (setRow_heap c.w b cc _ Ty _ m4) (fun k hk=>setRow_other c.w b k _ hk) (by simp) rfl rfl rfl)
    (aFt (cs':=(jM cc.toList (off * i.size) news).toArray) hs hob m3 m4 (by omega) (by simpa using hsplen) (setRow_heap c.w b cc _ Ty _ m4) (fun k hk=>setRow_other c.w b k _ hk) (by simp) rfl rfl rfl p1 ?_ p2) (RV.lit _)
   ·simp [execOp,ho,resolve,invoke,builtin,Builtin.copy_,run_underlying hu,sizeOf,typeInfo,hi,Builtin.lenOf,hv,hxv,hmin,hf,hst,goInt]
   ·simp only [List.size_toArray,hsplen,Array.length_toList,hspes]; exact q2
theorem bAd [GlobT] (hs : Sim (ftOf T) c) (htr : TR (ftOf T) c tm a.tmps) {x : AOpd} {x' : Operand} {t e : TypeId} {s : Nat} {z : List Value}
  (ho : o.op=.call ⟨.builtin .clear,#[x'],#[t]⟩) (h1 : eC T x x'=true) (hu : P.underlying t=some (.slice e)) (hsz : kL P e s=true) (hz : yY P e z=true) {r : AV} {H' : Heap}
  (hx : (dU tm x=.lit (.slice none 0 0)∧r=.tup []∧H'=c.H) ∨ (∃ f,dU tm x=.sl f []∧r=.tup []∧H'=c.H) ∨
   ∃ id tot off len es,dU tm x=.ms id tot off len∧c.H[id]? = some (.blk s es)∧es.length=tot∧off + len ≤ tot∧fl ≤ id∧0 < s∧z.length=s ∧
    (if len=0 then some (AV.tup [],c.H) else some (AV.tup [],c.H.set id (.blk s (jM es off (List.replicate len (z.map .lit))))))=some (r,H')) : OpOK P (ftOf T) c fl o a r H':=by
 have hxr:=eE hs htr h1
 have hnil : RV (ftOf T) c (.tup []) (.tuple #[]):=.tup [] #[] (fun _=>gD) rfl (fun i x hx=>by simp at hx) (fun i x hx=>by simp at hx)
 obtain ⟨i0,hi0,his⟩:=kV hsz
 obtain ⟨i',v,hi',hv,hvc,hsc⟩:=qN hz
 rcases hx with ⟨hx,rfl,rfl⟩ | ⟨f,hx,rfl,rfl⟩ | ⟨id,tot,off,len,es,hx,hob,htot,hle,hflid,hs0,hzl,hr⟩
 ·rw [hx] at hxr
  refine gL (cv:=.tuple #[]) hs ?_ hnil
  simp [execOp,ho,resolve,invoke,builtin,Builtin.clear_,run_underlying hu,hxr.lit_inv]
 ·rw [hx] at hxr
  obtain ⟨ad,cap,hv',_⟩:=aV7 hxr.sl_inv
  refine gL (cv:=.tuple #[]) hs ?_ hnil
  have hv'' : a.eval x'=.slice ad 0 cap:=hv'
  cases ad <;> simp [execOp,ho,resolve,invoke,builtin,Builtin.clear_,run_underlying hu,hv'']
 ·rw [hx] at hxr
  obtain ⟨ad,cap,s0,n0,hxv,g1,g2,g3,g4⟩:=hxr.ms_inv
  rw [qP hob] at g1
  cases g1
  obtain ⟨m1,m2⟩:=g4 htot.symm
  split at hr
  ·rename_i h0
   cases hr
   subst h0
   refine gL (cv:=.tuple #[]) hs ?_ hnil
   cases ad <;> simp [execOp,ho,resolve,invoke,builtin,Builtin.clear_,run_underlying hu,hxv]
  ·rename_i h0
   cases hr
   rcases m2 with ⟨_,m3,m4,m5⟩ | ⟨b,cc,Ty,a',m3,m4,m5,m6,m7⟩
   ·omega
   ·have ha:=m7 (by omega)
    subst m6
    subst ha
    obtain ⟨cc',Ty',q1,q2,q3⟩:=hs.blk id s es b hob m3
    rw [m4] at q1
    cases q1
    have hvl : v.cells.toList=z:=by rw [hvc]
    have hvs : v.cells.size=s:=by rw [← Array.length_toList,hvl,hzl]
    obtain ⟨p1,p2⟩:=aEr (FT:=ftOf T) (c:=c) (n:=len) (m:=len) hzl hsc hvl (Nat.le_refl _)
    have hE : zK (ftOf T) c s (List.replicate len (z.map AV.lit)) (Builtin.zeroCells v.cells len).toList:=by
     refine ⟨by simp [Builtin.zeroCells,hvs],fun i j x hx=>?_⟩
     obtain ⟨u,w1,w2,w3⟩:=p2 i j x hx
     exact ⟨u,by simp only [Builtin.zeroCells,Array.getElem?_toList,hvs]; rw [hvs] at w1; exact w1,w2,w3⟩
    have hly:=p1
    have hin : off + len ≤ es.length:=by omega
    have hfit : off * s + (Builtin.zeroCells v.cells len).toList.length ≤ cc.size:=by
     rw [hE.1,List.length_replicate,← Nat.add_mul]; exact Nat.le_trans (Nat.mul_le_mul_right _ hin) q2
    obtain ⟨p1,p2⟩:=aHa (k:=off) (hs.lens id _ es hob) hly (by omega) hE hfit q3
    have hst:=run_storeCells_at P b (off * s) Ty _ 0 cc c.w m4 (by simpa using hfit) (zU hly hE)
    rw [vE] at hst
    have hsplen:=kI (l:=cc.toList) (vs:=(Builtin.zeroCells v.cells len).toList) (k:=off * s) (by simpa using hfit)
    have hspes:=kI (l:=es) (vs:=List.replicate len (z.map AV.lit)) (k:=off) (by simpa using hin)
    refine mH (β':=c.β) (cv:=.tuple #[]) ?_
     (aAv (cs':=(jM cc.toList (off * s) (Builtin.zeroCells v.cells len).toList).toArray) hs hflid hob m3 m4 (by omega) (by simpa using hsplen) (setRow_heap c.w b cc _ Ty _ m4) (fun k hk=>setRow_other c.w b k _ hk) (by simp) rfl rfl rfl)
     (aFt (cs':=(jM cc.toList (off * s) (Builtin.zeroCells v.cells len).toList).toArray) hs hob m3 m4 (by omega) (by simpa using hsplen) (setRow_heap c.w b cc _ Ty _ m4) (fun k hk=>setRow_other c.w b k _ hk) (by simp) rfl rfl rfl p1 ?_ p2) (.tup [] #[] (fun _=>gD) rfl (fun i x hx=>by simp at hx) (fun i x hx=>by simp at hx))
    ·obtain ⟨n1,hn1⟩ : ∃ n1,len=n1 + 1:=⟨len - 1,by omega⟩
     simp [execOp,ho,resolve,invoke,builtin,Builtin.clear_,run_underlying hu,hxv,zeroValue,typeInfo,hi',hv,hst,hn1]
     subst hn1
     simp [hst]
    ·simp only [List.size_toArray,hsplen,Array.length_toList,hspes]; exact q2
theorem aLp {FT : Nat→Option Nat} : ∀ (es : List (List AV)) (ns : List Int) (news : List Value),aFl es=some ns→zK FT c 1 es news→news=ns.map (Value.int .u8)∧∀ e ∈ es,e.length=1
 | [],ns,news,h,hE=>by
  simp only [aFl,Option.some.injEq] at h
  subst h
  exact ⟨List.eq_nil_of_length_eq_zero (by simpa using hE.1),by simp⟩
 | e :: r,ns,news,h,hE=>by
  simp only [aFl] at h
  split at h
  ·rename_i n
   split at h
   ·rename_i l hl
    cases h
    obtain ⟨hl1,hl2⟩:=hE
    cases news with
    | nil=>simp at hl1
    | cons v vs =>
     obtain ⟨u,h1,_,h3⟩:=hl2 0 0 (.lit (.int .u8 n)) rfl
     simp only [Nat.zero_mul,Nat.zero_add,List.getElem?_cons_zero,Option.some.injEq] at h1
     subst h1
     have hE' : zK FT c 1 r vs:=⟨by simpa using hl1,fun i j x hx=>by
      obtain ⟨u,k1,k2,k3⟩:=hl2 (i + 1) j x (by simpa [hZ] using hx)
      have e1 : (i + 1) * 1 + j=(i * 1 + j) + 1:=by omega
      rw [e1,List.getElem?_cons_succ] at k1
      exact ⟨u,k1,k2,k3⟩⟩
     obtain ⟨k1,k2⟩:=aLp r l vs hl hE'
     refine ⟨by rw [h3.lit_inv,k1]; rfl,fun e he=>?_⟩
     rcases List.mem_cons.1 he with rfl | he
     ·rfl
     ·exact k2 e he
   ·cases h
  ·cases h
theorem aMy : ∀ (es : List (List AV)) (ns : List Int),aFl es=some ns→ns.length=es.length∧∀ e ∈ es,e.length=1
 | [],ns,h=>by
  simp only [aFl,Option.some.injEq] at h
  subst h
  exact ⟨rfl,by simp⟩
 | e :: r,ns,h=>by
  simp only [aFl] at h
  split at h
  ·split at h
   ·rename_i l hl
    cases h
    obtain ⟨k1,k2⟩:=aMy r l hl
    refine ⟨by simp [k1],fun e he=>?_⟩
    rcases List.mem_cons.1 he with rfl | he
    ·rfl
    ·exact k2 e he
   ·cases h
  ·cases h
theorem bAc [GlobT] (hs : Sim (ftOf T) c) (htr : TR (ftOf T) c tm a.tmps) {x : AOpd} {x' : Operand} {s d : TypeId} {f : Bool} {es : List (List AV)} {ns : List Int} (ho : o.op=.convert s d x')
  (h1 : eC T x x'=true) (e1 : dU tm x=.sl f es) (hb : aN1 P s d=true) (hns : aFl es=some ns) : OpOK P (ftOf T) c fl o a (.lit (.string (aJx ns))) c.H:=by
 have hx:=eE hs htr h1
 rw [e1] at hx
 obtain ⟨hl1,hl2⟩:=aMy es ns hns
 obtain ⟨xa,xc,news,hv,_,hE,hfc⟩:=aZz (P:=P) hs hx (show rd c.H (.sl f es)=some es from rfl) hl2 (by omega)
 obtain ⟨rfl,_⟩:=aLp es ns news hns hE
 have hf:=hfc c.w (Drawn.refl _)
 unfold aN1 at hb
 split at hb
 ·rename_i e hu
  split at hb
  ·rename_i he
   split at hb
   ·rename_i hd
    refine gL (cv:=.string (aJx ns)) hs ?_ (RV.lit _)
    rw [hv] at hf
    have hconv : (convert s d (.slice xa es.length xc)).run P c.w=.ok (.string (aJx ns)) c.w:=by
     cases xa with
     | none =>
      have h0 : ns=[]:=by
       have : (ns.map (Value.int .u8)).toArray=#[]:=by
        have:=hf
        simp [Builtin.firstCells] at this
        simpa using this.symm
       simpa using this
      subst h0
      simp [convert,run_underlying hu,run_underlying hd,run_underlying he,Conv.bytesToString,aJx]
     | some ad =>
      have h2 : (loadCells ad es.length).run P c.w=.ok (ns.map (Value.int .u8)).toArray c.w:=by
       simpa [Builtin.firstCells] using hf
      simp [convert,run_underlying hu,run_underlying hd,run_underlying he,run_bytesToString c.w ad es.length xc ns h2,aJx]
    simp [execOp,ho,hv,hconv]
   ·cases hb
  ·cases hb
 ·cases hb
end
end Go.Proofs.YtapabkfjeiknbaaGreat.Av
namespace Go.Proofs.YtapabkfjeiknbaaGreat.Av
open Go
section
variable {FT : Nat→Option Nat} {c c' : Ctx}
theorem aHn [GlobT] {n : Nat} {I : Nat→Prop} (hs : Sim FT c') (himp : ∀ b,Imm c' b→I b) (hnew : ∀ id b,n ≤ id→c'.β id=some b→I b) :
  ∀ (d : Nat) (x : AV) (v : Value),RV FT c' x v→RP c'.w I (lD c'.H n d x) v
 | d,.lit u,v,h=>by
  have : lD c'.H n d (.lit u)=nrmV u:=by cases d <;> rfl
  rw [this,h.lit_inv]; exact aRo u
 | d,.sl f es,v,h=>by
  have : lD c'.H n d (.sl f es)=.sl false es:=by cases d <;> rfl
  rw [this]
  exact aTe (h.sl_inv.mono fun b o hi hb=>⟨himp b hi,hb⟩)
 | 0,.ms id tot off len,v,_=>.undef v
 | d + 1,.ms id tot off len,v,h=>by
  simp only [lD]
  split
  ·rename_i hn
   split
   ·rename_i es hrd
    obtain ⟨ad,cap,s0,n0,hv,g1,g2,g3,g4⟩:=h.ms_inv
    unfold rd at hrd
    simp only at hrd
    split at hrd
    ·rename_i s' es0 hob
     split at hrd
     ·rename_i htot
      cases hrd
      rw [qP hob] at g1
      cases g1
      obtain ⟨m1,m2⟩:=g4 htot.symm
      have hlen : ((es0.drop off).take len).length=len:=by simp; omega
      subst hv
      by_cases hl0 : len=0
      ·subst hl0
       simp only [List.take_zero,List.map_nil]
       exact .nil false _ _ (fun h=>by cases h)
      ·rcases m2 with ⟨_,m3,m4,m5⟩ | ⟨b,cc,Ty,a',m3,m4,m5,m6,m7⟩
       ·omega
       ·have ha:=m7 (by omega)
        subst m6
        subst ha
        obtain ⟨cc',Ty',q1,q2,q3⟩:=hs.blk id s0 es0 b hob m3
        rw [m4] at q1
        cases q1
        have hlens:=hs.lens id s0 es0 hob
        have hcell : ∀ i j x,hZ (((es0.drop off).take len).map fun e=>e.map (lD c'.H n d)) i j=some x →
          ∃ y u,x=lD c'.H n d y∧cc[off * s0 + (i * s0 + j)]? = some u∧gA u=true∧RV FT c' y u:=by
         intro i j x hx
         obtain ⟨y,hy,rfl⟩:=tO hx
         obtain ⟨e,he,hj⟩:=jJ hy
         rw [List.getElem?_take] at he
         split at he
         ·rw [List.getElem?_drop] at he
          obtain ⟨u,w1,w2,w3⟩:=q3 (off + i) j y (by simp [hZ,he,hj])
          exact ⟨y,u,rfl,by rw [← w1]; congr 1; rw [Nat.add_mul]; omega,w2,w3⟩
         ·cases he
        have hres:=RP.sl (w:=c'.w) (I:=I) false (((es0.drop off).take len).map fun e=>e.map (lD c'.H n d)) b (off * s0) cap cc Ty (0,0) s0
         (fun i j=>(cc[off * s0 + (i * s0 + j)]?).getD gD)
         (by intro e; have:=congrArg List.length e; simp at this; omega) (hnew id b hn m3) m4
         (fun e he=>by
          simp only [List.mem_map] at he
          obtain ⟨e0,h0,rfl⟩:=he
          simpa using hlens e0 (List.mem_of_mem_drop (List.mem_of_mem_take h0)))
         (by simp only [List.length_map,hlen]; exact g3) (fun h=>by cases h)
         (fun i j x hx=>by
          obtain ⟨y,u,_,w1,w2,_⟩:=hcell i j x hx
          simp [w1,w2])
         (fun i j x hx=>by
          obtain ⟨y,u,hxy,w1,_,w3⟩:=hcell i j x hx
          rw [hxy]
          simp only [w1,Option.getD_some]
          exact aHn hs himp hnew d y u w3)
        simp only [List.length_map,hlen] at hres
        exact hres
     ·cases hrd
    ·cases hrd
   ·exact .undef v
  ·exact .undef v
 | d,.undef,v,_=>by
  have : lD c'.H n d .undef=.undef:=by cases d <;> rfl
  rw [this]; exact .undef v
 | d,.ptr ..,v,_=>by cases d <;> exact .undef v
 | d,.rptr ..,v,_=>by cases d <;> exact .undef v
 | d,.vw ..,v,_=>by cases d <;> exact .undef v
 | d,.sptr cs,v,h=>by
  have : lD c'.H n d (.sptr cs)=.sptr cs:=by cases d <;> rfl
  rw [this]
  cases h with
  | pure _ _ hp=>exact hp.mono fun b o hi hb=>⟨himp b hi,hb⟩
 | d,.rmp ents,v,h=>by
  have : lD c'.H n d (.rmp ents)=.rmp ents:=by cases d <;> rfl
  rw [this]
  cases h with
  | pure _ _ hp=>exact hp.mono fun b o hi hb=>⟨himp b hi,hb⟩
 | 0,.mp id,v,_=>.undef v
 | d + 1,.mp id,v,h=>by
  simp only [lD]
  split
  ·rename_i hn
   split
   ·rename_i ents hob
    obtain ⟨b,rfl,_,hb⟩:=h.mp_inv
    obtain ⟨es,clk,g1,⟨g2,g3⟩,g4⟩:=hs.map id ents b hob hb
    refine .rmp _ b es clk (fun i=>(es[i]?).getD default) (hnew id b hn hb) g1 (by simpa using g2) g3 ?_ ?_
    ·intro i k x hx
     rw [List.getElem?_map,Option.map_eq_some_iff] at hx
     obtain ⟨⟨k0,x0⟩,h0,h1⟩:=hx
     cases h1
     obtain ⟨e,w1,w2,_⟩:=g4 i k0 x0 h0
     simp [w1,w2]
    ·intro i k x hx
     rw [List.getElem?_map,Option.map_eq_some_iff] at hx
     obtain ⟨⟨k0,x0⟩,h0,h1⟩:=hx
     cases h1
     obtain ⟨e,w1,_,w3⟩:=g4 i k0 x0 h0
     simp only [w1,Option.getD_some]
     exact aHn hs himp hnew d x0 e.val w3
   ·exact .undef v
  ·exact .undef v
 | d,.it ..,v,_=>by cases d <;> exact .undef v
 | d,.fn ..,v,_=>by cases d <;> exact .undef v
 | d,.agg ..,v,_=>by cases d <;> exact .undef v
 | d,.tup ..,v,_=>by cases d <;> exact .undef v
def back (c c' : Ctx) : Ctx:=⟨c'.w,c.X,c.β,c.H⟩
theorem aGm [GlobT] {fl : Nat} (hs : Sim FT c) (h : Step c.H.length c c') : Step fl c (back c c') where
 X:=rfl
 os:=h.os
 tape:=h.tape
 output:=h.output
 drawn:=h.drawn
 size:=h.size
 len:=Nat.le_refl _
 frame:=h.frame
 img:=fun i _ hb=>.inr ⟨i,hb⟩
 blkS:=fun id s n hs'=>⟨n,hs',Nat.le_refl _,fun _=>⟨rfl,fun b cs T hb hcs=>⟨cs,by
  have:=(h.floor id (hs.dom id b hb)).2.2 b hb
  rw [← hcs]; exact this,rfl⟩⟩⟩
 mpS:=fun _ hm=>⟨hm,rfl⟩
 floor:=fun id _=>⟨rfl,rfl,fun b hb=>(h.floor id (hs.dom id b hb)).2.2 b hb⟩
theorem aNe [GlobT] (hs : Sim FT c) (h : Step c.H.length c c') : Sim FT (back c c'):=by
 have hst:=aGm (fl:=0) hs h
 have hblk : ∀ id b,c.β id=some b→c'.w.heap[b]? = c.w.heap[b]?:=fun id b hb=>(h.floor id (hs.dom id b hb)).2.2 b hb
 refine ⟨hs.gl.step hst,hs.inj,hs.dom,hs.nx,fun k hk=>hs.fresh k (Nat.le_trans h.size hk),hs.lens,?_,?_,fun id q b ho hb=>(hblk id b hb).trans (hs.raw id q b ho hb)⟩
 ·intro id s es b ho hb
  obtain ⟨cs,T,g1,g2,g3⟩:=hs.blk id s es b ho hb
  exact ⟨cs,T,(hblk id b hb).trans g1,g2,fun i j x hx=>let ⟨v,k1,k2,k3⟩:=g3 i j x hx; ⟨v,k1,k2,k3.step hst⟩⟩
 ·intro id ents b ho hb
  obtain ⟨es,clk,g1,g2,g3⟩:=hs.map id ents b ho hb
  exact ⟨es,clk,(hblk id b hb).trans g1,g2,fun i k x hx=>let ⟨e,k1,k2,k3⟩:=g3 i k x hx; ⟨e,k1,k2,k3.step hst⟩⟩
structure Fl (c c' : Ctx) : Prop where
 X : c'.X=c.X
 floor : ∀ id,id < c.H.length→c'.H[id]? = c.H[id]? ∧ c'.β id=c.β id
theorem Step.fl (h : Step c.H.length c c') : Fl c c':=⟨h.X,fun id hid=>⟨(h.floor id hid).1,(h.floor id hid).2.1⟩⟩
theorem aJo [GlobT] (hs : Sim FT c) (hs' : Sim FT c') (h : Fl c c') {x : AV} {v : Value} (hr : RV FT c' x v) : RV FT (back c c') (jX c'.H c.H.length x) v:=by
 have himp : ∀ b,Imm c' b→Imm (back c c') b:=by
  intro b hi
  refine ⟨by have:=hi.1; rw [h.X] at this; exact this,fun id hid=>hi.2 id ?_⟩
  have hid' : c.β id=some b:=hid
  rw [(h.floor id (hs.dom id b hid')).2]; exact hid'
 have hnew : ∀ id b,c.H.length ≤ id→c'.β id=some b→Imm (back c c') b:=by
  intro id b hn hb
  refine ⟨by have:=hs'.nx id b hb; rwa [h.X] at this,fun id' hid'=>?_⟩
  have hid'' : c.β id'=some b:=hid'
  have hlt:=hs.dom id' b hid''
  have : c'.β id'=some b:=by rw [(h.floor id' hlt).2]; exact hid''
  have:=hs'.inj id id' b hb this
  omega
 have hshp : ∀ id,id < c.H.length→shp c.H id=shp c'.H id:=fun id hid=>by simp [shp,(h.floor id hid).1]
 cases hr with
 | pure _ _ hp =>
  have hp':=hp.mono (w':=(back c c').w) (I':=Imm (back c c')) fun b o hi hb=>⟨himp b hi,hb⟩
  have hn:=aTe hp'
  cases hp' with
  | undef v=>exact .pure _ _ (.undef v)
  | lit v=>exact .pure _ _ hn
  | nil f a cap hf=>exact .pure _ _ hn
  | sl f es b off cap cc T fz s vals h1 h2 h3 h4 h5 h6 h7 h8=>exact .pure _ _ hn
  | sptr cs b off cc T fz vals h1 h2 h3 h4=>exact .pure _ _ hn
  | rmp ents b es clk vals h1 h2 h3 h4 h5 h6=>exact .pure _ _ hn
 | ms id tot off len a cap s n g1 g2 g3 g4 =>
  simp only [jX]
  split
  ·rename_i hid
   refine .ms id tot off len a cap s n (by show shp c.H id=_; rw [hshp id hid]; exact g1) g2 g3 fun e=>?_
   obtain ⟨m1,m2⟩:=g4 e
   have hβ:=(h.floor id hid).2
   refine ⟨m1,?_⟩
   rcases m2 with ⟨m3,m4,m5,m6⟩ | ⟨b,cs,T,a',m3,m4,m5,m6,m7⟩
   ·exact .inl ⟨hβ.symm.trans m3,m4,m5,m6⟩
   ·exact .inr ⟨b,cs,T,a',hβ.symm.trans m3,m4,m5,m6,m7⟩
  ·exact .pure _ _ (aHn hs' himp hnew nV _ _ (.ms id tot off len a cap s n g1 g2 g3 g4))
 | ptr id tot idx off a s n g1 g2 g3 =>
  simp only [jX]
  split
  ·rename_i hid
   refine .ptr id tot idx off a s n (by show shp c.H id=_; rw [hshp id hid]; exact g1) g2 fun e=>?_
   obtain ⟨b,hb,ha⟩:=g3 e
   exact ⟨b,((h.floor id hid).2).symm.trans hb,ha⟩
  ·exact RV.undef _
 | rptr=>exact RV.undef _
 | vnil=>exact RV.undef _
 | vw=>exact RV.undef _
 | mp id b g1 g2 =>
  simp only [jX]
  split
  ·rename_i hid
   obtain ⟨ents,he,hnb⟩:=g1
   exact .mp id b ⟨ents,by rw [← he]; exact ((h.floor id hid).1).symm,hnb⟩ (((h.floor id hid).2).symm.trans g2)
  ·exact .pure _ _ (aHn hs' himp hnew nV _ _ (.mp id b g1 g2))
 | it=>exact RV.undef _
 | fn vi f caps cv vals g1 g2 g3 g4 =>
  cases caps with
  | nil=>exact .fn vi f [] cv vals g1 g2 g3 (fun i x hx=>by simp at hx)
  | cons _ _=>exact RV.undef _
 | agg=>exact RV.undef _
 | tup=>exact RV.undef _
theorem aS0 [GlobT] (hs : Sim FT c) (hs' : Sim FT c') (h : Fl c c') {x : AV} {v : Value} (hr : RV FT c' x v) : RV FT (back c c') (qM c'.H c.H.length x) v:=by
 unfold qM
 split
 ·rename_i cs
  obtain ⟨cv,vals,rfl,g1,g2,g3⟩:=hr.agg_inv
  refine .agg _ cv vals (by simpa using g1) ?_ ?_
  ·intro i x hx
   simp only [List.getElem?_map,Option.map_eq_some_iff] at hx
   obtain ⟨y,hy,rfl⟩:=hx
   exact g2 i y hy
  ·intro i x hx
   simp only [List.getElem?_map,Option.map_eq_some_iff] at hx
   obtain ⟨y,hy,rfl⟩:=hx
   exact aJo hs hs' h (g3 i y hy)
 ·exact aJo hs hs' h hr
theorem aJn [GlobT] (hs : Sim FT c) (hs' : Sim FT c') (h : Fl c c') {x : AV} {v : Value} (hr : RV FT c' x v) : RV FT (back c c') (mI c'.H c.H.length x) v:=by
 unfold mI
 split
 ·rename_i cs
  obtain ⟨cv,vals,rfl,g1,g2,g3⟩:=hr.tup_inv
  refine .tup _ cv vals (by simpa using g1) ?_ ?_
  ·intro i x hx
   simp only [List.getElem?_map,Option.map_eq_some_iff] at hx
   obtain ⟨y,hy,rfl⟩:=hx
   exact g2 i y hy
  ·intro i x hx
   simp only [List.getElem?_map,Option.map_eq_some_iff] at hx
   obtain ⟨y,hy,rfl⟩:=hx
   exact aS0 hs hs' h (g3 i y hy)
 ·exact aS0 hs hs' h hr
end
end Go.Proofs.YtapabkfjeiknbaaGreat.Av
namespace Go.Proofs.YtapabkfjeiknbaaGreat.Av
open Go
section
variable {FT : Nat→Option Nat} {c : Ctx}
def frz (c : Ctx) (id s : Nat) (es : List (List AV)) : Ctx:=⟨c.w,c.X,fun i=>if i=id then none else c.β i,c.H.set id (.blk s (es++[List.replicate s .undef]))⟩
theorem aAq {id s i : Nat} {es : List (List AV)} (h : i ≠ id) : (frz c id s es).H[i]? = c.H[i]?:=by
 simp only [frz]
 rw [List.getElem?_set_ne (Ne.symm h)]
theorem aEy {id s : Nat} {es es' : List (List AV)} (ho : c.H[id]? = some (.blk s es')) : (frz c id s es).H[id]? = some (.blk s (es++[List.replicate s .undef])):=by
 have hlt : id < c.H.length:=by
  rcases Nat.lt_or_ge id c.H.length with h | h
  ·exact h
  ·rw [List.getElem?_eq_none h] at ho; cases ho
 simp only [frz]
 rw [List.getElem?_set_self hlt]
theorem aAw [GlobT] {fl id s : Nat} {es : List (List AV)} (hfl : fl ≤ id) (ho : c.H[id]? = some (.blk s es)) : Step fl c (frz c id s es) where
 X:=rfl
 os:=rfl
 tape:=rfl
 output:=rfl
 drawn:=Nat.le_refl _
 size:=Nat.le_refl _
 len:=by simp [frz]
 frame:=fun _ _ _=>rfl
 img:=fun i b hb=>by
  simp only [frz] at hb
  split at hb
  ·cases hb
  ·exact .inr ⟨_,hb⟩
 blkS:=fun i s' n hs=>by
  by_cases hi : i=id
  ·subst hi
   simp only [shp,ho,Option.some.injEq,Prod.mk.injEq] at hs
   obtain ⟨rfl,rfl⟩:=hs
   exact ⟨es.length + 1,by simp [shp,aEy ho],by omega,fun h=>by omega⟩
  ·refine ⟨n,by simp only [shp,aAq hi]; exact hs,Nat.le_refl _,fun _=>⟨by simp [frz,hi],fun b cs T _ hcs=>⟨cs,hcs,rfl⟩⟩⟩
 mpS:=fun i hm=>by
  obtain ⟨e,he,hnb⟩:=hm
  have hi : i ≠ id:=by
   intro h
   subst h
   rw [ho] at he
   cases he
   exact hnb
  exact ⟨⟨e,by rw [aAq hi]; exact he,hnb⟩,by simp [frz,hi]⟩
 floor:=fun i hi=>by
  have : i ≠ id:=by omega
  exact ⟨aAq this,by simp [frz,this],fun _ _=>rfl⟩
theorem aHl [GlobT] {id s : Nat} {es : List (List AV)} (hs : Sim FT c) (ho : c.H[id]? = some (.blk s es)) : Sim FT (frz c id s es):=by
 have hst:=aAw (fl:=0) (Nat.zero_le _) ho
 have hβ : ∀ i b,(frz c id s es).β i=some b→i ≠ id∧c.β i=some b:=by
  intro i b hb
  simp only [frz] at hb
  split at hb
  ·cases hb
  ·rename_i h; exact ⟨h,hb⟩
 refine ⟨hs.gl.step hst,fun i j b hi hj=>hs.inj i j b (hβ i b hi).2 (hβ j b hj).2,fun i b hi=>?_,fun i b hi=>hs.nx i b (hβ i b hi).2,hs.fresh,?_,?_,?_,fun i q b h hb=>by
  obtain ⟨hi,hb⟩:=hβ i b hb
  rw [aAq hi] at h
  exact hs.raw i q b h hb⟩
 ·have:=hs.dom i b (hβ i b hi).2
  simpa [frz] using this
 ·intro i s' es' h e he
  by_cases hi : i=id
  ·subst hi
   rw [aEy ho] at h
   cases h
   rcases List.mem_append.1 he with he | he
   ·exact hs.lens i s es ho e he
   ·simp at he; subst he; simp
  ·rw [aAq hi] at h
   exact hs.lens i s' es' h e he
 ·intro i s' es' b h hb
  obtain ⟨hi,hb⟩:=hβ i b hb
  rw [aAq hi] at h
  obtain ⟨cs,T,g1,g2,g3⟩:=hs.blk i s' es' b h hb
  exact ⟨cs,T,g1,g2,fun i j x hx=>let ⟨v,k1,k2,k3⟩:=g3 i j x hx; ⟨v,k1,k2,k3.step hst⟩⟩
 ·intro i ents b h hb
  obtain ⟨hi,hb⟩:=hβ i b hb
  rw [aAq hi] at h
  obtain ⟨cs,T,g1,g2,g3⟩:=hs.map i ents b h hb
  exact ⟨cs,T,g1,g2,fun i j x hx=>let ⟨v,k1,k2,k3⟩:=g3 i j x hx; ⟨v,k1,k2,k3.step hst⟩⟩
theorem aS1 [GlobT] {id s tot off len : Nat} {es : List (List AV)} {v : Value} (hs : Sim FT c) (ho : c.H[id]? = some (.blk s es)) (htot : es.length=tot) (h : RV FT c (.ms id tot off len) v) :
  RV FT (frz c id s es) (.sl false (((es.drop off).take len).map fun e=>e.map toP)) v:=by
 obtain ⟨ad,cap,s0,n0,hv,g1,g2,g3,g4⟩:=h.ms_inv
 rw [qP ho] at g1
 cases g1
 obtain ⟨m1,m2⟩:=g4 htot.symm
 have hlen : ((es.drop off).take len).length=len:=by simp; omega
 subst hv
 refine .pure _ _ ?_
 by_cases hl0 : len=0
 ·subst hl0
  simp only [List.take_zero,List.map_nil]
  exact .nil false _ _ (fun h=>by cases h)
 ·rcases m2 with ⟨_,m3,m4,m5⟩ | ⟨b,cc,Ty,a',m3,m4,m5,m6,m7⟩
  ·omega
  ·have ha:=m7 (by omega)
   subst m6
   subst ha
   obtain ⟨cc',Ty',q1,q2,q3⟩:=hs.blk id s es b ho m3
   rw [m4] at q1
   cases q1
   have hlens:=hs.lens id s es ho
   have himm : ∀ b',Imm c b'→Imm (frz c id s es) b':=fun b' hi=>⟨hi.1,fun i hb=>by
    simp only [frz] at hb
    split at hb
    ·cases hb
    ·exact hi.2 i hb⟩
   have hcell : ∀ i j x,hZ (((es.drop off).take len).map fun e=>e.map toP) i j=some x →
     ∃ y u,x=toP y∧cc[off * s + (i * s + j)]? = some u∧gA u=true∧RV FT c y u:=by
    intro i j x hx
    obtain ⟨y,hy,rfl⟩:=tO hx
    obtain ⟨e,he,hj⟩:=jJ hy
    rw [List.getElem?_take] at he
    split at he
    ·rw [List.getElem?_drop] at he
     obtain ⟨u,w1,w2,w3⟩:=q3 (off + i) j y (by simp [hZ,he,hj])
     exact ⟨y,u,rfl,by rw [← w1]; congr 1; rw [Nat.add_mul]; omega,w2,w3⟩
    ·cases he
   have hres:=RP.sl (w:=c.w) (I:=Imm (frz c id s es)) false (((es.drop off).take len).map fun e=>e.map toP) b (off * s) cap cc Ty (0,0) s
    (fun i j=>(cc[off * s + (i * s + j)]?).getD gD)
    (by intro e; have:=congrArg List.length e; simp at this; omega)
    ⟨hs.nx id b m3,fun i hb=>by
     simp only [frz] at hb
     split at hb
     ·cases hb
     ·rename_i hne; exact hne (hs.inj i id b hb m3)⟩ m4
    (fun e he=>by
     simp only [List.mem_map] at he
     obtain ⟨e0,h0,rfl⟩:=he
     simpa using hlens e0 (List.mem_of_mem_drop (List.mem_of_mem_take h0)))
    (by simp only [List.length_map,hlen]; exact g3) (fun h=>by cases h)
    (fun i j x hx=>by
     obtain ⟨y,u,_,w1,w2,_⟩:=hcell i j x hx
     simp [w1,w2])
    (fun i j x hx=>by
     obtain ⟨y,u,hxy,w1,_,w3⟩:=hcell i j x hx
     rw [hxy]
     simp only [w1,Option.getD_some]
     exact (aOs w3).mono fun b o hi hb=>⟨himm b hi,hb⟩)
   simp only [List.length_map,hlen] at hres
   exact hres
theorem aV4 [GlobT] {id s tot idx off : Nat} {es : List (List AV)} {e : List AV} {v : Value} (hs : Sim FT c) (ho : c.H[id]? = some (.blk s es)) (htot : es.length=tot) (he : es[idx]? = some e) (h : RV FT c (.ptr id tot idx off) v) :
  RV FT (frz c id s es) (.sptr ((e.drop off).map toP)) v:=by
 cases h with
 | pure _ _ hp=>cases hp
 | ptr _ _ _ _ ad s0 n0 g1 g2 g3 =>
  rw [qP ho] at g1
  cases g1
  obtain ⟨b,hb,rfl⟩:=g3 htot.symm
  obtain ⟨cc,Ty,q1,q2,q3⟩:=hs.blk id s es b ho hb
  have himm : ∀ b',Imm c b'→Imm (frz c id s es) b':=fun b' hi=>⟨hi.1,fun i hb=>by
   simp only [frz] at hb
   split at hb
   ·cases hb
   ·exact hi.2 i hb⟩
  have hcell : ∀ j x,((e.drop off).map toP)[j]? = some x→∃ y u,x=toP y∧cc[idx * s + off + j]? = some u∧gA u=true∧RV FT c y u:=by
   intro j x hx
   rw [List.getElem?_map,Option.map_eq_some_iff] at hx
   obtain ⟨y,hy,rfl⟩:=hx
   rw [List.getElem?_drop] at hy
   obtain ⟨u,w1,w2,w3⟩:=q3 idx (off + j) y (by simp [hZ,he,hy])
   exact ⟨y,u,rfl,by rw [← w1]; congr 1; omega,w2,w3⟩
  refine .pure _ _ (.sptr _ b (idx * s + off) cc Ty (0,0) (fun j=>(cc[idx * s + off + j]?).getD gD) ⟨hs.nx id b hb,fun i hbi=>?_⟩ q1 ?_ ?_)
  ·simp only [frz] at hbi
   split at hbi
   ·cases hbi
   ·rename_i hne; exact hne (hs.inj i id b hbi hb)
  ·intro j x hx
   obtain ⟨y,u,_,w1,w2,_⟩:=hcell j x hx
   simp [w1,w2]
  ·intro j x hx
   obtain ⟨y,u,rfl,w1,_,w3⟩:=hcell j x hx
   simp only [w1,Option.getD_some]
   exact (aOs w3).mono fun b o hi hb=>⟨himm b hi,hb⟩
def det (c : Ctx) (id s : Nat) (es : List (List AV)) : Ctx:=⟨c.w,fun k=>c.X k ∨ c.β id=some k,fun i=>if i=id then none else c.β i,c.H.set id (.blk s (es++[List.replicate s .undef]))⟩
theorem det_imm {id s : Nat} {es : List (List AV)} {b : Nat} : Imm (det c id s es) b ↔ Imm c b:=by
 constructor
 ·intro h
  refine ⟨fun hx=>h.1 (.inl hx),fun i hb=>?_⟩
  by_cases hi : i=id
  ·subst hi; exact h.1 (.inr hb)
  ·exact h.2 i (by simp only [det,if_neg hi]; exact hb)
 ·intro h
  refine ⟨fun hx=>?_,fun i hb=>?_⟩
  ·rcases hx with hx | hx
   ·exact h.1 hx
   ·exact h.2 _ hx
  ·simp only [det] at hb
   split at hb
   ·cases hb
   ·exact h.2 i hb
theorem aS2 {id s : Nat} {es : List (List AV)} {x : AV} {v : Value} (h : RP c.w (Imm c) x v) : RP (det c id s es).w (Imm (det c id s es)) x v :=
 h.mono fun _ _ hi hb=>⟨det_imm.2 hi,hb⟩
theorem aV5 [GlobT] {id s : Nat} {es : List (List AV)} {x : AV} {v : Value} (ho : c.H[id]? = some (.blk s es)) (h : RV FT c x v) : RV FT (det c id s es) x v:=by
 have hget : ∀ i,i ≠ id→(det c id s es).H[i]? = c.H[i]?:=fun i hi=>aAq (s:=s) (es:=es) hi
 have hsame : (det c id s es).H[id]? = some (.blk s (es++[List.replicate s .undef])):=aEy ho
 have hβ : ∀ i,i ≠ id→(det c id s es).β i=c.β i:=fun i hi=>by simp [det,hi]
 have hvis : ∀ b,Vis c b→Vis (det c id s es) b:=by
  intro b hb i hi
  simp only [det] at hi
  split at hi
  ·cases hi
  ·exact hb i hi
 have hmp : ∀ i,aGz c.H i→i ≠ id:=by
  rintro i ⟨e,he,hnb⟩ rfl
  rw [ho] at he; cases he; exact hnb
 induction h with
 | pure x v hp=>exact .pure x v (aS2 hp)
 | ms i tot off len a cap s' n g1 g2 g3 g4 =>
  by_cases hi : i=id
  ·subst hi
   rw [qP ho] at g1
   cases g1
   exact .ms i tot off len a cap s (es.length + 1) (by simp [shp,hsame]) (by omega) g3 fun e=>by omega
  ·refine .ms i tot off len a cap s' n (by simp only [shp,hget i hi]; exact g1) g2 g3 fun e=>?_
   obtain ⟨m1,m2⟩:=g4 e
   refine ⟨m1,?_⟩
   rw [hβ i hi]
   exact m2
 | ptr i tot idx off a s' n g1 g2 g3 =>
  by_cases hi : i=id
  ·subst hi
   rw [qP ho] at g1
   cases g1
   exact .ptr i tot idx off a s (es.length + 1) (by simp [shp,hsame]) (by omega) fun e=>by omega
  ·refine .ptr i tot idx off a s' n (by simp only [shp,hget i hi]; exact g1) g2 fun e=>?_
   rw [hβ i hi]
   exact g3 e
 | rptr cs b off cc T fz vals hi hb hv hp=>exact .rptr cs b off cc T fz vals (hvis b hi) hb hv fun j x hx=>aS2 (hp j x hx)
 | vnil a cap=>exact .vnil a cap
 | vw es' b off cap cc T fz s' vals hne hi hb hlen hcap hv hp=>exact .vw es' b off cap cc T fz s' vals hne (hvis b hi) hb hlen hcap hv fun i j x hx=>aS2 (hp i j x hx)
 | mp i b hm hb =>
  have hi:=hmp i hm
  obtain ⟨e,he,hnb⟩:=hm
  exact .mp i b ⟨e,by rw [hget i hi]; exact he,hnb⟩ (by rw [hβ i hi]; exact hb)
 | it i b hm hb =>
  have hi:=hmp i hm
  obtain ⟨e,he,hnb⟩:=hm
  exact .it i b ⟨e,by rw [hget i hi]; exact he,hnb⟩ (by rw [hβ i hi]; exact hb)
 | fn vi f caps cv vals hf hs hv _ ih=>exact .fn vi f caps cv vals hf hs hv ih
 | agg cs cv vals hs hv _ ih=>exact .agg cs cv vals hs hv ih
 | tup cs cv vals hs hv _ ih=>exact .tup cs cv vals hs hv ih
theorem bDj [GlobT] {id s : Nat} {es : List (List AV)} (hs : Sim FT c) (ho : c.H[id]? = some (.blk s es)) : Sim FT (det c id s es):=by
 have hβ : ∀ i b,(det c id s es).β i=some b→i ≠ id∧c.β i=some b:=by
  intro i b hb
  simp only [det] at hb
  split at hb
  ·cases hb
  ·rename_i h; exact ⟨h,hb⟩
 have hget : ∀ i,i ≠ id→(det c id s es).H[i]? = c.H[i]?:=fun i hi=>aAq (s:=s) (es:=es) hi
 refine ⟨?_,fun i j b hi hj=>hs.inj i j b (hβ i b hi).2 (hβ j b hj).2,fun i b hi=>?_,fun i b hi hx=>?_,fun k hk hx=>?_,?_,?_,?_,fun i q b h hb=>by
  obtain ⟨hi,hb⟩:=hβ i b hb
  rw [hget i hi] at h
  exact hs.raw i q b h hb⟩
 ·intro g cs hcs
  obtain ⟨cc,T,fz,vals,h1,h2,h0,h3,h4⟩:=hs.gl g cs hcs
  exact ⟨cc,T,fz,vals,det_imm.2 h1,h2,h0,h3,fun j x hx=>aS2 (h4 j x hx)⟩
 ·have:=hs.dom i b (hβ i b hi).2
  simpa [det] using this
 ·obtain ⟨hne,hb⟩:=hβ i b hi
  rcases hx with hx | hx
  ·exact hs.nx i b hb hx
  ·exact hne (hs.inj i id b hb hx)
 ·rcases hx with hx | hx
  ·exact hs.fresh k hk hx
  ·have h1:=hs.lt hx
   have h2 : c.w.heap.size ≤ k:=hk
   omega
 ·intro i s' es' h e he
  by_cases hi : i=id
  ·subst hi
   have h' : (det c i s es).H[i]? = some (.blk s (es++[List.replicate s .undef])):=aEy ho
   rw [h'] at h
   cases h
   rcases List.mem_append.1 he with he | he
   ·exact hs.lens i s es ho e he
   ·simp at he; subst he; simp
  ·rw [hget i hi] at h
   exact hs.lens i s' es' h e he
 ·intro i s' es' b h hb
  obtain ⟨hi,hb⟩:=hβ i b hb
  rw [hget i hi] at h
  obtain ⟨cs,T,g1,g2,g3⟩:=hs.blk i s' es' b h hb
  exact ⟨cs,T,g1,g2,fun i j x hx=>let ⟨v,k1,k2,k3⟩:=g3 i j x hx; ⟨v,k1,k2,aV5 ho k3⟩⟩
 ·intro i ents b h hb
  obtain ⟨hi,hb⟩:=hβ i b hb
  rw [hget i hi] at h
  obtain ⟨cs,T,g1,g2,g3⟩:=hs.map i ents b h hb
  exact ⟨cs,T,g1,g2,fun i j x hx=>let ⟨v,k1,k2,k3⟩:=g3 i j x hx; ⟨v,k1,k2,aV5 ho k3⟩⟩
section
variable {c' : Ctx} {id s tot off len : Nat} {es : List (List AV)}
end
end
section
variable {P : Program} {T : List AFun} {c : Ctx} {fl : Nat} {o : Oper} {a : Act} {tm : List AV}
theorem aUy [GlobT] (hs : Sim (ftOf T) c) (htr : TR (ftOf T) c tm a.tmps) {x : AOpd} {y : Operand} {id s tot idx off : Nat} {es : List (List AV)} {e : List AV} (ho : o.op=.move y ∨ o.op=.assign y) (h : eC T x y=true)
  (hx : dU tm x=.ptr id tot idx off) (hfl : fl ≤ id) (hid : c.H[id]? = some (.blk s es)) (htot : es.length=tot) (he : es[idx]? = some e) :
  OpOK P (ftOf T) c fl o a (.sptr ((e.drop off).map toP)) (c.H.set id (.blk s (es++[List.replicate s .undef]))):=by
 have hr:=eE hs htr h
 rw [hx] at hr
 refine mH (cv:=a.eval y) (w':=c.w) (β':=fun i=>if i=id then none else c.β i) ?_ (aAw hfl hid) (aHl hs hid) (aV4 hs hid htot he hr)
 rcases ho with ho | ho <;> simp [execOp,ho]
theorem aWw [GlobT] (hs : Sim (ftOf T) c) (htr : TR (ftOf T) c tm a.tmps) {x : AOpd} {y : Operand} {id s tot off len : Nat} {es : List (List AV)} (ho : o.op=.move y ∨ o.op=.assign y) (h : eC T x y=true)
  (hx : dU tm x=.ms id tot off len) (hfl : fl ≤ id) (hid : c.H[id]? = some (.blk s es)) (htot : es.length=tot) :
  OpOK P (ftOf T) c fl o a (.sl false (((es.drop off).take len).map fun e=>e.map toP)) (c.H.set id (.blk s (es++[List.replicate s .undef]))):=by
 have hr:=eE hs htr h
 rw [hx] at hr
 refine mH (cv:=a.eval y) (w':=c.w) (β':=fun i=>if i=id then none else c.β i) ?_ (aAw hfl hid) (aHl hs hid) (aS1 hs hid htot hr)
 rcases ho with ho | ho <;> simp [execOp,ho]
theorem aUt [GlobT] {id s tot off len k : Nat} {es : List (List AV)} {cs : List AV} {v : Value} (hs : Sim (ftOf T) c) (ho : c.H[id]? = some (.blk s es)) (htot : es.length=tot)
  (hk : cs[k]? = some (.ms id tot off len)) (h : RV (ftOf T) c (.agg cs) v) : RV (ftOf T) (frz c id s es) (.agg (cs.set k (.sl false (((es.drop off).take len).map fun e=>e.map toP)))) v:=by
 have hst:=aAw (fl:=0) (Nat.zero_le _) ho
 obtain ⟨cv,vals,rfl,g1,g2,g3⟩:=h.agg_inv
 have key : ∀ (i : Nat) (x : AV),(cs.set k (.sl false (((es.drop off).take len).map fun e=>e.map toP)))[i]? = some x→(i=k∧x=.sl false (((es.drop off).take len).map fun e=>e.map toP)) ∨ cs[i]? = some x:=by
  intro i x hx
  rw [List.getElem?_set] at hx
  split at hx
  ·split at hx
   ·rename_i h1 _; cases hx; exact .inl ⟨h1.symm,rfl⟩
   ·cases hx
  ·exact .inr hx
 refine .agg _ cv vals (by simpa using g1) (fun i x hx=>?_) (fun i x hx=>?_)
 ·rcases key i x hx with ⟨rfl,rfl⟩ | h1
  ·exact g2 _ _ hk
  ·exact g2 i x h1
 ·rcases key i x hx with ⟨rfl,rfl⟩ | h1
  ·exact aS1 hs ho htot (g3 _ _ hk)
  ·exact (g3 i x h1).step hst
theorem bAb [GlobT] (hs : Sim (ftOf T) c) (htr : TR (ftOf T) c tm a.tmps) {x : AOpd} {y : Operand} {t : TypeId} {n k : Nat} {cs : List AV} {id s tot off len : Nat} {es : List (List AV)} (ho : o.op=.load t y)
  (h : eC T x y=true) (h1 : aHf P t true=true) (h2 : kL P t n=true) (hl : uT c.H (dU tm x) n=some cs)
  (hk : cs[k]? = some (.ms id tot off len)) (hfl : fl ≤ id) (hid : c.H[id]? = some (.blk s es)) (htot : es.length=tot) :
  OpOK P (ftOf T) c fl o a (.agg (cs.set k (.sl false (((es.drop off).take len).map fun e=>e.map toP)))) (c.H.set id (.blk s (es++[List.replicate s .undef]))):=by
 obtain ⟨ad,vs,hp,hn,hc⟩:=aH4 hs (eE hs htr h) hl
 refine mH (cv:=.agg vs.toArray) (w':=c.w) (β':=fun i=>if i=id then none else c.β i) ?_ (aAw hfl hid) (aHl hs hid) (aUt hs hid htot hk (aDv hc))
 simp [execOp,ho,Instr.loadAt,Instr.sureAddr,hp,aBa hc hn h1 h2 rfl]
theorem aZx {H : Heap} {v : AV} {ys : List (List AV)} (h : bDn v=some ys) : rd H v=some ys:=by
 unfold bDn at h
 split at h
 ·exact h
 ·exact h
 ·cases h
theorem aU2 [GlobT] (hs : Sim (ftOf T) c) (htr : TR (ftOf T) c tm a.tmps) {x y : AOpd} {x' y' : Operand} {t t' e e' : TypeId} {i : TypeInfo} {z : Value} {s bytes : Nat} {r : AV}
  (ho : o.op=.call ⟨.builtin .append,#[x',y'],#[t,t']⟩) (h1 : eC T x x'=true) (h2 : eC T y y'=true) (hu : P.underlying t=some (.slice e)) (hu' : P.underlying t'=some (.slice e'))
  (hi : P.info? e=some i) (hsz : i.size=s) (hby : i.bytes=bytes) (hz : i.zero=some z) (hzs : z.cells.size=s) (hr : appP s bytes (dU tm x) (dU tm y)=some r) :
  OpOK P (ftOf T) c fl o a r c.H:=by
 unfold appP at hr
 split at hr
 ·rename_i f es hx
  split at hr
  ·split at hr
   ·split at hr
    ·rename_i ys hys
     split at hr
     ·rename_i hcond
      cases hr
      have hrd : rd c.H (dU tm y)=some ys:=aZx hys
      intro K Q hK
      by_cases h0 : ys.length=0
      ·have h00 : ys=[]:=List.length_eq_zero_iff.1 h0
       have happ : iE c.H.length c.H s bytes (dU tm x) ys=some (.sl true [],c.H):=by
        unfold iE
        rw [if_pos hcond,hx]
        simp [h0]
       refine aKr hs htr (fl:=c.H.length) (Nat.le_refl _) ho h1 h2 hu hu' hi hsz hby hz hzs hrd happ K Q (fun cv c' hH hst hsim hrv=>?_)
       exact hK cv (back c c') rfl (aGm hs hst) (aNe hs hst) (by have:=aJo hs hsim hst.fl hrv; rw [h00]; exact this)
      ·have happ : iE c.H.length c.H s bytes (dU tm x) ys=some (.ms c.H.length ys.length 0 ys.length,c.H++[.blk s ys]):=by
        unfold iE
        rw [if_pos hcond,hx]
        have hcond2 : room (0 + ys.length) bytes=true:=by rw [Nat.zero_add]; exact hcond.2.2
        simp [h0,zJ,hcond2,hcond.2.2]
       refine aKr hs htr (fl:=c.H.length) (Nat.le_refl _) ho h1 h2 hu hu' hi hsz hby hz hzs hrd happ K Q (fun cv c' hH hst hsim hrv=>?_)
       have hob : c'.H[c.H.length]? = some (.blk s ys):=by rw [hH]; simp
       have hst2 : Step c.H.length c (frz c' c.H.length s ys):=hst.trans (aAw (Nat.le_refl _) hob)
       have hsim2:=aHl hsim hob
       have hrv2:=aS1 hsim hob rfl hrv
       have hrv3:=aJo hs hsim2 hst2.fl hrv2
       refine hK cv (back c (frz c' c.H.length s ys)) rfl (aGm hs hst2) (aNe hs hst2) ?_
       simpa [jX] using hrv3
     ·cases hr
    ·cases hr
   ·cases hr
  ·cases hr
 ·cases hr
end
end Go.Proofs.YtapabkfjeiknbaaGreat.Av
