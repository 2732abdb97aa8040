/- A part of the proof of a law of the chapter warp: an evaluator of the program, proved sound, and what it says. -/
import Derived.Test.YtapabkfjeiknbaaGreatWeTl1
set_option linter.unusedVariables false
set_option linter.unusedSimpArgs false
namespace Go.Proofs.YtapabkfjeiknbaaGreat.Av
open Go
theorem aGj (aE : GPlan) (aA : ((List Int) × (List (Int × GPoint)))) (aD : (GNode × Bool)) (n : Nat) (aB : Int) (aC : Int) (r : Int) (h : lZ aE aA aD n aB aC=some r) : ∃ H',evF PP T n 6 54 [(iv aB),(iv aC),(.ptr 3 1 0 0),(.ptr 5 1 0 0)] (hp52 aE aA aD)=some (iv r,H'):=by
 cases n with
 | zero=>cases h
 | succ n =>
  rw [lZ] at h
  have aF:=xF (P:=PP) (cf:=evF PP T n) (fl:=6) (H:=(hp52 aE aA aD)) (id:=4) (kv:=dX) (va:=eB) (m:=aA.2) (k:=aB) (x:=(iv aB)) lG (GPoint.mk 0 0) rfl rfl
  have aG:=xF (P:=PP) (cf:=evF PP T n) (fl:=6) (H:=(hp52 aE aA aD)) (id:=4) (kv:=dX) (va:=eB) (m:=aA.2) (k:=aC) (x:=(iv aC)) lG (GPoint.mk 0 0) rfl rfl
  obtain ⟨aT,aJ,h⟩:=dQ h
  rcases cn h with ⟨aH,aO,h⟩ | ⟨aH,aO,h⟩
  ·have aP:=by have q:=aA4 n aD.1.At (GPoint.mk (Option.getD (mget aA.2 aB) (GPoint.mk 0 0)).X (Option.getD (mget aA.2 aB) (GPoint.mk 0 0)).Y) (GPoint.mk (Option.getD (mget aA.2 aC) (GPoint.mk 0 0)).X (Option.getD (mget aA.2 aC) (GPoint.mk 0 0)).Y) _ aJ; rw [aH] at q; exact q
   obtain rfl:=si h
   exact ⟨_,iT F54 (qa 16 aP<|qb 15 aG<|qb 12 aF<|q0) [] [] (r:=(iv (-1))) (H':=(hp52 aE aA aD))⟩
  have aK:=by have q:=aA4 n aD.1.At (GPoint.mk (Option.getD (mget aA.2 aB) (GPoint.mk 0 0)).X (Option.getD (mget aA.2 aB) (GPoint.mk 0 0)).Y) (GPoint.mk (Option.getD (mget aA.2 aC) (GPoint.mk 0 0)).X (Option.getD (mget aA.2 aC) (GPoint.mk 0 0)).Y) _ aJ; rw [aH] at q; exact q
  have aL:=xF (P:=PP) (cf:=evF PP T n) (fl:=6) (H:=(hp52 aE aA aD)) (id:=4) (kv:=dX) (va:=eB) (m:=aA.2) (k:=aC) (x:=(iv aC)) lG (GPoint.mk 0 0) rfl rfl
  have aM:=xF (P:=PP) (cf:=evF PP T n) (fl:=6) (H:=(hp52 aE aA aD)) (id:=4) (kv:=dX) (va:=eB) (m:=aA.2) (k:=aB) (x:=(iv aB)) lG (GPoint.mk 0 0) rfl rfl
  obtain ⟨aU,aN,h⟩:=dQ h
  rcases cn h with ⟨aI,aQ,h⟩ | ⟨aI,aQ,h⟩
  ·have aR:=by have q:=aA4 n aD.1.At (GPoint.mk (Option.getD (mget aA.2 aC) (GPoint.mk 0 0)).X (Option.getD (mget aA.2 aC) (GPoint.mk 0 0)).Y) (GPoint.mk (Option.getD (mget aA.2 aB) (GPoint.mk 0 0)).X (Option.getD (mget aA.2 aB) (GPoint.mk 0 0)).Y) _ aN; rw [aI] at q; exact q
   obtain rfl:=si h
   exact ⟨_,iT F54 (qa 26 aR<|qb 25 aM<|qb 22 aL<|qa 16 aK<|qb 15 aG<|qb 12 aF<|q0) [] [] (r:=(iv 1)) (H':=(hp52 aE aA aD))⟩
  have aS:=by have q:=aA4 n aD.1.At (GPoint.mk (Option.getD (mget aA.2 aC) (GPoint.mk 0 0)).X (Option.getD (mget aA.2 aC) (GPoint.mk 0 0)).Y) (GPoint.mk (Option.getD (mget aA.2 aB) (GPoint.mk 0 0)).X (Option.getD (mget aA.2 aB) (GPoint.mk 0 0)).Y) _ aN; rw [aI] at q; exact q
  obtain rfl:=si h
  exact ⟨_,iT F54 (qa 26 aS<|qb 25 aM<|qb 22 aL<|qa 16 aK<|qb 15 aG<|qb 12 aF<|q0) [] [] (r:=(iv 0)) (H':=(hp52 aE aA aD))⟩
def aCh : Nat→GPlan→Int→Option (List Int)
 | 0,_,_=>none
 | n + 1,aA,aD=>(bnd (tF n aA aD) fun aB=>(cnd (aB.2) (bnd (jF n aD aA aB n [] ([] : List (Int × GPoint)) 0) fun aC=>(bnd (prd n) fun aE=>(bnd (grd (decide (List.length aC.1 ≤ 1000000))) fun aG=>(bnd (aLx (fun x y=>lZ aA aC aB aE x y) aC.1) fun aF=>(some aF))))) (some [])))
theorem aLv (n : Nat) (aA : GPlan) (aD : Int) (r : (List Int)) (h : aCh n aA aD=some r) : pv PP T n 33 [(kU aA),(iv aD)]=some (.sl false (List.map dS r)):=by
 cases n with
 | zero=>cases h
 | succ n =>
  rw [aCh] at h
  obtain ⟨aC,aG,h⟩:=dQ h
  rcases cn h with ⟨aF,aJ,h⟩ | ⟨aF,aJ,h⟩
  rotate_left
  ·have aK:=by have q:=jB n aA aD _ aG; rw [aF] at q; exact q
   obtain rfl:=si h
   exact pv_q F33 (qa 16 aK<|q0) [] [none,none]
  have aL:=by have q:=jB n aA aD _ aG; rw [aF] at q; exact q
  have aM:=iM (P:=PP) (cf:=evF PP T n) (fl:=0) (H:=(hp39 aA aC)) (c:=dR) (l:=aA.Arcs)
  have aN : eS true 0 6 [(.blk 3 [[(.vw (List.map dP aA.Nodes)),(.vw (List.map dR aA.Arcs)),(.vw (List.map dS aA.Faces))]]),(.blk 1 (List.map dS [])),(.blk 1 [[(.ms 1 0 0 0)]]),(.blk 3 [(dP aC.1)]),(.mp (entL dX eB ([] : List (Int × GPoint)))),(.blk 1 [[(.mp 4)]])]:=(by exact (clo rfl (clo (hU (gJ 6)) (clo rfl (clo rfl (clo (kA (kv:=dX) (va:=eB) fun _=>rfl) (clo rfl rfl)))))))
  obtain ⟨aB,aO,h⟩:=dQ h
  have aP:=kC n aD aA aC n [] ([] : List (Int × GPoint)) 0 _ aO
  obtain ⟨aH,aQ,h⟩:=dQ h
  have aR:=pQ aQ
  obtain ⟨aV,aS,h⟩:=dQ h
  obtain ⟨aE,aI,h⟩:=dQ h
  have aT:=aJ4 aI
  have aU : evF PP T n 0 55 [(.ms 1 aB.1.length 0 aB.1.length),(.fn 54 [(.ptr 3 1 0 0),(.ptr 5 1 0 0)])] (hp50 aA aB aC)=some ((.tup []),(hp51 aA aE aB aC)):=by rw [aR]; exact aQ2 (s:=1) (agg:=false) (c:=dS) (l:=aB.1) (F:=fun x y=>lZ aA aB aC aH x y) rfl (by omega) rfl (of_decide_eq_true (aEw aS)) (fun x y z hz=>bEt (by simp) (aGj aA aB aC aH x y z hz)) aI
  obtain rfl:=si h
  refine aFd (iT F33 (qc 78 aU<|qp aP<|qp aN<|qb 25 aM<|qa 16 aL<|q0) [((.exit 0),wI aD aA aC aB.1 aB.2)] [none,none,none] (r:=(.ms 1 aB.1.length 0 aB.1.length)) (H':=(hp51 aA aE aB aC))) ?_
  show (jX (hp51 aA aE aB aC) 0 (.ms 1 aB.1.length 0 aB.1.length))=_
  rw [aO7 (tot:=aB.1.length) aT (H:=(hp51 aA aE aB aC)) (id:=1) (s:=1) (c:=dS) (l:=aE) rfl (zV _ _ _)]
  first | done | rfl
def xI : Nat→(List Int)→Int→Option Int
 | 0,_,_=>none
 | n + 1,aA,aC=>(bnd (pP n aA aC) fun aB=>(cnd (decide (aB < 0)) (some 0) (bnd (remO (IntKind.i64.wrap ((IntKind.i64.wrap (aB + ((aA.length : Nat) : Int))) - 1)) ((aA.length : Nat) : Int)) fun aD=>(bnd (idx aA aD) fun aE=>(some aE)))))
theorem aHj (n : Nat) (aA : (List Int)) (aB : Int) (r : Int) (h : xI n aA aB=some r) : pv PP T n 34 [(.vw (List.map dS aA)),(iv aB)]=some (iv r):=by
 cases n with
 | zero=>cases h
 | succ n =>
  rw [xI] at h
  obtain ⟨aM,aE,h⟩:=dQ h
  have aD:=zW n aA aB _ aE
  rcases cn h with ⟨aF,aC,h⟩ | ⟨aF,aC,h⟩
  ·obtain rfl:=si h
   exact pv_q F34 (qa 10 aC<|qa 8 aD<|q0) [] []
  have aG:=iM (P:=PP) (cf:=evF PP T n) (fl:=0) (H:=[]) (c:=dS) (l:=aA)
  have aH:=iM (P:=PP) (cf:=evF PP T n) (fl:=0) (H:=[]) (c:=dS) (l:=aA)
  obtain ⟨aN,aI,h⟩:=dQ h
  have aJ:=bDp (P:=PP) (cf:=evF PP T n) (fl:=0) (H:=[]) (t:=3) (k:=.i64) aI
  obtain ⟨aO,aK,h⟩:=dQ h
  have aL:=idxv (H:=[]) (c:=dS) aK (iD _)
  obtain rfl:=si h
  exact pv_q F34 (qa 20 aL<|qb 19 aJ<|qb 18 aH<|qb 14 aG<|qa 10 aC<|qa 8 aD<|q0) [] []
abbrev hp53 (aA : GPlan) : Heap:=[(.blk 3 [[(.vw (List.map dP aA.Nodes)),(.vw (List.map dR aA.Arcs)),(.vw (List.map dS aA.Faces))]]),(.blk 1 (List.map eR [])),(.blk 1 (List.map dS [])),(.mp (entL dX rO ([] : List (Int × Int)))),(.blk 1 [[(.mp 3)]])]
def yP (aA : GPlan) (aB : (List Int)) (aC : (List (Int × Int))) (aD : Int) : St:=⟨sp 72 [(1,(.ptr 0 1 0 0)),(2,(.ms 1 0 0 0)),(4,(.ms 2 aB.length 0 aB.length)),(5,(.ptr 4 1 0 0)),(22,(.vw (List.map dP aA.Nodes))),(23,(iv ((aA.Nodes.length : Nat) : Int))),(24,(iv aD))],[(.blk 3 [[(.vw (List.map dP aA.Nodes)),(.vw (List.map dR aA.Arcs)),(.vw (List.map dS aA.Faces))]]),(.blk 1 (List.map eR [])),(.blk 1 (List.map dS aB)),(.mp (entL dX rO aC)),(.blk 1 [[(.mp 3)]])]⟩
theorem aI0 (aA : GPlan) (aB : (List Int)) (aC : (List (Int × Int))) (aD : Int) : eS true 0 5 (yP aA aB aC aD).heap:=(by exact (clo rfl (clo (hU (rC 5)) (clo (hU (gJ 5)) (clo (kA (kv:=dX) (va:=rO) fun _=>rfl) (clo rfl rfl))))))
def wH (aA : GPlan) (aB : (List Int)) (aC : (List (Int × Int))) : St:=⟨sp 72 [(2,(.ms 1 0 0 0)),(4,(.ms 2 aB.length 0 aB.length)),(5,(.ptr 4 1 0 0))],[(.blk 3 [[(.vw (List.map dP aA.Nodes)),(.vw (List.map dR aA.Arcs)),(.vw (List.map dS aA.Faces))]]),(.blk 1 (List.map eR [])),(.blk 1 (List.map dS aB)),(.mp (entL dX rO aC)),(.blk 1 [[(.mp 3)]])]⟩
abbrev hp54 (aA : GPlan) (aB : (List Int)) (aC : (List (Int × Int))) : Heap:=[(.blk 3 [[(.vw (List.map dP aA.Nodes)),(.vw (List.map dR aA.Arcs)),(.vw (List.map dS aA.Faces))]]),(.blk 1 (List.map eR [])),(.blk 1 (List.map dS aB)),(.mp (entL dX rO aC)),(.blk 1 [[(.mp 3)]])]
abbrev hp55 (aA : GPlan) (aB : (List Int)) (aC : (List (Int × Int))) (aD : GNode) : Heap:=[(.blk 3 [[(.vw (List.map dP aA.Nodes)),(.vw (List.map dR aA.Arcs)),(.vw (List.map dS aA.Faces))]]),(.blk 1 (List.map eR [])),(.blk 1 (List.map dS aB)),(.mp (entL dX rO aC)),(.blk 1 [[(.mp 3)]]),(.blk 3 [(dP aD)])]
def aC6 (aB : (List Int)) (aA : GPlan) (aD : Int) (aE : GNode) (aC : (List Int)) (aF : (List (Int × Int))) (aG : Int) : St:=⟨sp 72 [(1,(.ptr 0 1 0 0)),(2,(.ms 1 0 0 0)),(4,(.ms 2 aC.length 0 aC.length)),(5,(.ptr 4 1 0 0)),(8,(.sl false (List.map dS aB))),(22,(.vw (List.map dP aA.Nodes))),(23,(iv ((aA.Nodes.length : Nat) : Int))),(24,(iv aD)),(32,(.sl false (List.map dS aB))),(33,(iv ((aB.length : Nat) : Int))),(34,(iv aG))],[(.blk 3 [[(.vw (List.map dP aA.Nodes)),(.vw (List.map dR aA.Arcs)),(.vw (List.map dS aA.Faces))]]),(.blk 1 (List.map eR [])),(.blk 1 (List.map dS aC)),(.mp (entL dX rO aF)),(.blk 1 [[(.mp 3)]]),(.blk 3 [(dP aE)])]⟩
def wG (aF : (List Int)) (aA : GPlan) (aC : Int) (aD : GNode) (aB : (List Int)) (aE : (List (Int × Int))) : St:=⟨sp 72 [(1,(.ptr 0 1 0 0)),(2,(.ms 1 0 0 0)),(4,(.ms 2 aB.length 0 aB.length)),(5,(.ptr 4 1 0 0)),(22,(.vw (List.map dP aA.Nodes))),(23,(iv ((aA.Nodes.length : Nat) : Int))),(24,(iv aC))],[(.blk 3 [[(.vw (List.map dP aA.Nodes)),(.vw (List.map dR aA.Arcs)),(.vw (List.map dS aA.Faces))]]),(.blk 1 (List.map eR [])),(.blk 1 (List.map dS aB)),(.mp (entL dX rO aE)),(.blk 1 [[(.mp 3)]]),(.blk 3 [(dP aD)])]⟩
abbrev hp56 (aA : GPlan) (aB : (List Int)) (aC : (List (Int × Int))) (aD : Int) (aE : Int) (aF : GNode) : Heap:=[(.blk 3 [[(.vw (List.map dP aA.Nodes)),(.vw (List.map dR aA.Arcs)),(.vw (List.map dS aA.Faces))]]),(.blk 1 (List.map eR [])),(.blk 1 (List.map dS aB)),(.mp (entL dX rO (mput aC (IntKind.i64.wrap (0 - aD)) aE))),(.blk 1 [[(.mp 3)]]),(.blk 3 [(dP aF)])]
def sX (n : Nat) (aA : (List Int)) (aF : GPlan) (aG : Int) (aH : GNode) : Nat→(List Int)→(List (Int × Int))→Int→Option ((List Int) × (List (Int × Int)))
 | 0,_,_,_=>none
 | m + 1,aD,aE,aB=>(cnd (decide (aB < ((aA.length : Nat) : Int))) (bnd (idx aA aB) fun aC=>(bnd (app aD [aC]) fun aI=>(bnd (xI n aA aC) fun aJ=>(sX n aA aF aG aH m aI (mput aE (IntKind.i64.wrap (0 - aC)) aJ) (IntKind.i64.wrap (aB + 1)))))) (some (aD,aE)))
theorem aBu (n : Nat) (aD : (List Int)) (aB : GPlan) (aF : Int) (aC : GNode) : ∀ (m : Nat) (aE : (List Int)) (aA : (List (Int × Int))) (aH : Int) (r : ((List Int) × (List (Int × Int)))),sX n aD aB aF aC m aE aA aH=some r→eT lv51 [false,false,true,true] false 0 6 (eG (eO (some lv53) false 0 6) (evC PP (evF PP T n) n 0 bIh) m (aC6 aD aB aF aC aE aA aH))=some ((.exit 2),wG aD aB aF aC r.1 r.2)
 | 0,_,_,_,_,h=>by cases h
 | m + 1,aE,aA,aH,r,h=>by
  rw [sX] at h
  rcases cn h with ⟨aL,aK,h⟩ | ⟨aL,aK,h⟩
  rotate_left
  ·obtain rfl:=si h
   exact eQ (some lv53) false (wG aD aB aF aC aE aA) (qa 35 aK<|q0) [] [] trivial
  obtain ⟨aG,aM,h⟩:=dQ h
  have aN:=idxl (H:=(hp55 aB aE aA aC)) (f:=false) (c:=dS) aM (iD _)
  obtain ⟨aI,aO,h⟩:=dQ h
  have aP:=yN (fl:=0) (H:=(hp55 aB aE aA aC)) (id:=2) (s:=1) (bytes:=8) (c:=dS) (l:=aE) aO rfl iD (by omega) (by omega) (by omega)
  obtain ⟨aJ,aQ,h⟩:=dQ h
  have aR:=aHj n aD aG _ aQ
  have aS:=aIl (P:=PP) (cf:=evF PP T n) (fl:=0) (H:=(hp55 aB aI aA aC)) (id:=3) (kv:=dX) (va:=rO) (m:=aA) (k:=(IntKind.i64.wrap (0 - aG))) (x:=(iv (IntKind.i64.wrap (0 - aG)))) lG aJ rfl (by omega) rfl
  exact nx_q (aC6 aD aB aF aC aI (mput aA (IntKind.i64.wrap (0 - aG)) aJ) (IntKind.i64.wrap (aH + 1))) (qp aS<|qa 47 aR<|qc 41 aP<|qa 36 aN<|qa 35 aK<|q0) [] [some (hp56 aB aI aA aG aJ aC)] trivial (aBu n aD aB aF aC m aI (mput aA (IntKind.i64.wrap (0 - aG)) aJ) (IntKind.i64.wrap (aH + 1)) r h)
abbrev hp57 (aA : GPlan) (aB : ((List Int) × (List (Int × Int)))) : Heap:=[(.blk 3 [[(.vw (List.map dP aA.Nodes)),(.vw (List.map dR aA.Arcs)),(.vw (List.map dS aA.Faces))]]),(.blk 1 (List.map eR [])),(.blk 1 (List.map dS aB.1)),(.mp (entL dX rO aB.2)),(.blk 1 [[(.mp 3)]])]
def sY (n : Nat) (aA : GPlan) : Nat→(List Int)→(List (Int × Int))→Int→Option ((List Int) × (List (Int × Int)))
 | 0,_,_,_=>none
 | m + 1,aC,aD,aB=>(cnd (decide (aB < ((aA.Nodes.length : Nat) : Int))) (bnd (idx aA.Nodes aB) fun aE=>(bnd (aCh n aA aE.ID) fun aG=>(bnd (sX n aG aA aB aE n aC aD 0) fun aF=>(sY n aA m aF.1 aF.2 (IntKind.i64.wrap (aB + 1)))))) (some (aC,aD)))
theorem aBv (n : Nat) (aA : GPlan) : ∀ (m : Nat) (aB : (List Int)) (aC : (List (Int × Int))) (aD : Int) (r : ((List Int) × (List (Int × Int)))),sY n aA m aB aC aD=some r→eT lv52 [false,false,true,true] true 0 5 (eG (eO (some lv51) true 0 5) (evC PP (evF PP T n) n 0 bIi) m (yP aA aB aC aD))=some ((.exit 0),wH aA r.1 r.2)
 | 0,_,_,_,_,h=>by cases h
 | m + 1,aB,aC,aD,r,h=>by
  rw [sY] at h
  rcases cn h with ⟨aI,aG,h⟩ | ⟨aI,aG,h⟩
  rotate_left
  ·obtain rfl:=si h
   exact eQ (some lv51) true (wH aA aB aC) (qa 25 aG<|q0) [] [] (by exact (clo rfl (clo (hU (rC 5)) (clo (hU (gJ 5)) (clo (kA (kv:=dX) (va:=rO) fun _=>rfl) (clo rfl rfl))))))
  obtain ⟨aF,aJ,h⟩:=dQ h
  have aK:=idxv (H:=(hp54 aA aB aC)) (c:=dP) aJ (jQ _)
  obtain ⟨aH,aL,h⟩:=dQ h
  have aM:=aLv n aA aF.ID _ aL
  have aN:=nP (P:=PP) (cf:=evF PP T n) (fl:=0) (H:=(hp55 aA aB aC aF)) (f:=false) (c:=dS) (l:=aH)
  have aO : eS false 0 6 [(.blk 3 [[(.vw (List.map dP aA.Nodes)),(.vw (List.map dR aA.Arcs)),(.vw (List.map dS aA.Faces))]]),(.blk 1 (List.map eR [])),(.blk 1 (List.map dS aB)),(.mp (entL dX rO aC)),(.blk 1 [[(.mp 3)]]),(.blk 3 [(dP aF)])]:=trivial
  obtain ⟨aE,aP,h⟩:=dQ h
  have aQ:=aBu n aH aA aD aF n aB aC 0 _ aP
  exact nx_q (yP aA aE.1 aE.2 (IntKind.i64.wrap (aD + 1))) (qp aQ<|qp aO<|qb 33 aN<|qa 31 aM<|qa 26 aK<|qa 25 aG<|q0) [((.exit 2),wG aH aA aD aF aE.1 aE.2)] [none] (aI0 _ _ _ _) (aBv n aA m aE.1 aE.2 (IntKind.i64.wrap (aD + 1)) r h)
abbrev hp58 (aA : GPlan) (aB : ((List Int) × (List (Int × Int)))) : Heap:=[(.blk 3 [[(.vw (List.map dP aA.Nodes)),(.vw (List.map dR aA.Arcs)),(.vw (List.map dS aA.Faces))]]),(.blk 1 (List.map eR [])),(.blk 1 (List.map dS (srtI aB.1))),(.mp (entL dX rO aB.2)),(.blk 1 [[(.mp 3)]])]
abbrev hp59 (aA : GPlan) (aB : ((List Int) × (List (Int × Int)))) : Heap:=[(.blk 3 [[(.vw (List.map dP aA.Nodes)),(.vw (List.map dR aA.Arcs)),(.vw (List.map dS aA.Faces))]]),(.blk 1 (List.map eR [])),(.blk 1 (List.map dS (srtI aB.1))),(.mp (entL dX rO aB.2)),(.blk 1 [[(.mp 3)]]),(.mp (entL dX gN ([] : List (Int × Bool)))),(.blk 1 [[(.mp 5)]])]
abbrev hp60 (aA : GPlan) (aB : ((List Int) × (List (Int × Int)))) : Heap:=[(.blk 3 [[(.vw (List.map dP aA.Nodes)),(.vw (List.map dR aA.Arcs)),(.vw (List.map dS aA.Faces))]]),(.blk 1 (List.map eR [])),(.blk 1 (List.map dS (srtI aB.1)++[List.replicate 1 AV.undef])),(.mp (entL dX rO aB.2)),(.blk 1 [[(.mp 3)]]),(.mp (entL dX gN ([] : List (Int × Bool)))),(.blk 1 [[(.mp 5)]])]
def tT (aA : ((List Int) × (List (Int × Int)))) (aB : GPlan) (aC : (List (List Int))) (aD : (List (Int × Bool))) (aE : Int) : St:=⟨sp 72 [(2,(.ms 1 aC.length 0 aC.length)),(11,(.ptr 6 1 0 0)),(12,(.fn 36 [(.ptr 6 1 0 0),(.ptr 4 1 0 0)])),(54,(.sl false (List.map dS (srtI aA.1)))),(55,(iv (((srtI aA.1).length : Nat) : Int))),(56,(iv aE))],[(.blk 3 [[(.vw (List.map dP aB.Nodes)),(.vw (List.map dR aB.Arcs)),(.vw (List.map dS aB.Faces))]]),(.blk 1 (List.map eR aC)),(.blk 1 (List.map dS (srtI aA.1)++[List.replicate 1 AV.undef])),(.mp (entL dX rO aA.2)),(.blk 1 [[(.mp 3)]]),(.mp (entL dX gN aD)),(.blk 1 [[(.mp 5)]])]⟩
theorem aC5 (aA : ((List Int) × (List (Int × Int)))) (aB : GPlan) (aC : (List (List Int))) (aD : (List (Int × Bool))) (aE : Int) : eS true 0 7 (tT aA aB aC aD aE).heap:=(by exact (clo rfl (clo (hU (rC 7)) (clo (lH (gJ 7)) (clo (kA (kv:=dX) (va:=rO) fun _=>rfl) (clo rfl (clo (kA (kv:=dX) (va:=gN) fun _=>rfl) (clo rfl rfl))))))))
def wF (aC : ((List Int) × (List (Int × Int)))) (aA : GPlan) (aB : (List (List Int))) (aD : (List (Int × Bool))) : St:=⟨sp 72 [(2,(.ms 1 aB.length 0 aB.length))],[(.blk 3 [[(.vw (List.map dP aA.Nodes)),(.vw (List.map dR aA.Arcs)),(.vw (List.map dS aA.Faces))]]),(.blk 1 (List.map eR aB)),(.blk 1 (List.map dS (srtI aC.1)++[List.replicate 1 AV.undef])),(.mp (entL dX rO aC.2)),(.blk 1 [[(.mp 3)]]),(.mp (entL dX gN aD)),(.blk 1 [[(.mp 5)]])]⟩
abbrev hp61 (aA : GPlan) (aC : (List (List Int))) (aB : ((List Int) × (List (Int × Int)))) (aD : (List (Int × Bool))) : Heap:=[(.blk 3 [[(.vw (List.map dP aA.Nodes)),(.vw (List.map dR aA.Arcs)),(.vw (List.map dS aA.Faces))]]),(.blk 1 (List.map eR aC)),(.blk 1 (List.map dS (srtI aB.1)++[List.replicate 1 AV.undef])),(.mp (entL dX rO aB.2)),(.blk 1 [[(.mp 3)]]),(.mp (entL dX gN aD)),(.blk 1 [[(.mp 5)]])]
def yZ (aA : GPlan) (aD : (List (List Int))) (aC : ((List Int) × (List (Int × Int)))) (aE : (List (Int × Bool))) (aB : (List Int)) (aF : Int) : St:=⟨sp 19 [(0,(iv aF)),(1,(.ptr 6 1 0 0)),(2,(.ptr 4 1 0 0)),(4,(.ms 7 aB.length 0 aB.length))],[(.blk 3 [[(.vw (List.map dP aA.Nodes)),(.vw (List.map dR aA.Arcs)),(.vw (List.map dS aA.Faces))]]),(.blk 1 (List.map eR aD)),(.blk 1 (List.map dS (srtI aC.1)++[List.replicate 1 AV.undef])),(.mp (entL dX rO aC.2)),(.blk 1 [[(.mp 3)]]),(.mp (entL dX gN aE)),(.blk 1 [[(.mp 5)]]),(.blk 1 (List.map dS aB))]⟩
def qO (aA : GPlan) (aD : (List (List Int))) (aC : ((List Int) × (List (Int × Int)))) (aE : (List (Int × Bool))) (aB : (List Int)) : St:=⟨sp 19 [(4,(.ms 7 aB.length 0 aB.length))],[(.blk 3 [[(.vw (List.map dP aA.Nodes)),(.vw (List.map dR aA.Arcs)),(.vw (List.map dS aA.Faces))]]),(.blk 1 (List.map eR aD)),(.blk 1 (List.map dS (srtI aC.1)++[List.replicate 1 AV.undef])),(.mp (entL dX rO aC.2)),(.blk 1 [[(.mp 3)]]),(.mp (entL dX gN aE)),(.blk 1 [[(.mp 5)]]),(.blk 1 (List.map dS aB))]⟩
abbrev hp62 (aA : GPlan) (aC : (List (List Int))) (aB : ((List Int) × (List (Int × Int)))) (aD : (List (Int × Bool))) (aE : (List Int)) : Heap:=[(.blk 3 [[(.vw (List.map dP aA.Nodes)),(.vw (List.map dR aA.Arcs)),(.vw (List.map dS aA.Faces))]]),(.blk 1 (List.map eR aC)),(.blk 1 (List.map dS (srtI aB.1)++[List.replicate 1 AV.undef])),(.mp (entL dX rO aB.2)),(.blk 1 [[(.mp 3)]]),(.mp (entL dX gN aD)),(.blk 1 [[(.mp 5)]]),(.blk 1 (List.map dS aE))]
abbrev hp63 (aA : GPlan) (aC : (List (List Int))) (aB : ((List Int) × (List (Int × Int)))) (aD : (List (Int × Bool))) (aE : Int) (aF : (List Int)) : Heap:=[(.blk 3 [[(.vw (List.map dP aA.Nodes)),(.vw (List.map dR aA.Arcs)),(.vw (List.map dS aA.Faces))]]),(.blk 1 (List.map eR aC)),(.blk 1 (List.map dS (srtI aB.1)++[List.replicate 1 AV.undef])),(.mp (entL dX rO aB.2)),(.blk 1 [[(.mp 3)]]),(.mp (entL dX gN (mput aD aE true))),(.blk 1 [[(.mp 5)]]),(.blk 1 (List.map dS aF))]
def mS (n : Nat) (aE : GPlan) (aF : (List (List Int))) (aC : ((List Int) × (List (Int × Int)))) : Nat→(List (Int × Bool))→(List Int)→Int→Option ((List (Int × Bool)) × (List Int))
 | 0,_,_,_=>none
 | m + 1,aB,aD,aA=>(cnd ((Option.getD (mget aB aA) false)) (some (aB,aD)) (bnd (app aD [aA]) fun aG=>(mS n aE aF aC m (mput aB aA true) aG (Option.getD (mget aC.2 aA) 0))))
theorem xQ (n : Nat) (aD : GPlan) (aE : (List (List Int))) (aB : ((List Int) × (List (Int × Int)))) : ∀ (m : Nat) (aC : (List (Int × Bool))) (aF : (List Int)) (aA : Int) (r : ((List (Int × Bool)) × (List Int))),mS n aD aE aB m aC aF aA=some r→eT lv4 lv4 false 0 8 (eG (eO (some lv55) false 0 8) (evC PP (evF PP T n) n 0 bH5) m (yZ aD aE aB aC aF aA))=some ((.exit 0),qO aD aE aB r.1 r.2)
 | 0,_,_,_,_,h=>by cases h
 | m + 1,aC,aF,aA,r,h=>by
  rw [mS] at h
  rcases cn h with ⟨aG,aI,h⟩ | ⟨aG,aI,h⟩
  ·have aJ:=by have q:=xF (P:=PP) (cf:=evF PP T n) (fl:=0) (H:=(hp62 aD aE aB aC aF)) (id:=5) (kv:=dX) (va:=gN) (m:=aC) (k:=aA) (x:=(iv aA)) lG false rfl rfl; simp only [aG,gN] at q; exact q
   obtain rfl:=si h
   exact eQ (some lv55) false (qO aD aE aB aC aF) (qb 7 aJ<|q0) [] [] trivial
  have aK:=by have q:=xF (P:=PP) (cf:=evF PP T n) (fl:=0) (H:=(hp62 aD aE aB aC aF)) (id:=5) (kv:=dX) (va:=gN) (m:=aC) (k:=aA) (x:=(iv aA)) lG false rfl rfl; simp only [aG,gN] at q; exact q
  have aL:=aIl (P:=PP) (cf:=evF PP T n) (fl:=0) (H:=(hp62 aD aE aB aC aF)) (id:=5) (kv:=dX) (va:=gN) (m:=aC) (k:=aA) (x:=(iv aA)) lG true rfl (by omega) rfl
  obtain ⟨aH,aM,h⟩:=dQ h
  have aN:=yN (fl:=0) (H:=(hp63 aD aE aB aC aA aF)) (id:=7) (s:=1) (bytes:=8) (c:=dS) (l:=aF) aM rfl iD (by omega) (by omega) (by omega)
  have aO:=xF (P:=PP) (cf:=evF PP T n) (fl:=0) (H:=(hp63 aD aE aB aC aA aH)) (id:=3) (kv:=dX) (va:=rO) (m:=aB.2) (k:=aA) (x:=(iv aA)) lG 0 rfl rfl
  exact nx_q (yZ aD aE aB (mput aC aA true) aH (Option.getD (mget aB.2 aA) 0)) (qb 17 aO<|qc 14 aN<|qp aL<|qb 7 aK<|q0) [] [some (hp63 aD aE aB aC aA aF)] trivial (xQ n aD aE aB m (mput aC aA true) aH (Option.getD (mget aB.2 aA) 0) r h)
abbrev hp64 (aA : GPlan) (aD : (List (List Int))) (aB : ((List Int) × (List (Int × Int)))) (aC : ((List (Int × Bool)) × (List Int))) : Heap:=[(.blk 3 [[(.vw (List.map dP aA.Nodes)),(.vw (List.map dR aA.Arcs)),(.vw (List.map dS aA.Faces))]]),(.blk 1 (List.map eR aD)),(.blk 1 (List.map dS (srtI aB.1)++[List.replicate 1 AV.undef])),(.mp (entL dX rO aB.2)),(.blk 1 [[(.mp 3)]]),(.mp (entL dX gN aC.1)),(.blk 1 [[(.mp 5)]]),(.blk 1 (List.map dS aC.2))]
abbrev hp65 (aA : GPlan) (aD : (List (List Int))) (aB : ((List Int) × (List (Int × Int)))) (aC : ((List (Int × Bool)) × (List Int))) : Heap:=[(.blk 3 [[(.vw (List.map dP aA.Nodes)),(.vw (List.map dR aA.Arcs)),(.vw (List.map dS aA.Faces))]]),(.blk 1 (List.map eR aD)),(.blk 1 (List.map dS (srtI aB.1)++[List.replicate 1 AV.undef])),(.mp (entL dX rO aB.2)),(.blk 1 [[(.mp 3)]]),(.mp (entL dX gN aC.1)),(.blk 1 [[(.mp 5)]]),(.blk 1 (List.map dS aC.2++[List.replicate 1 AV.undef]))]
def lI (n : Nat) (aA : ((List Int) × (List (Int × Int)))) (aE : GPlan) : Nat→(List (List Int))→(List (Int × Bool))→Int→Option ((List (List Int)) × (List (Int × Bool)))
 | 0,_,_,_=>none
 | m + 1,aB,aC,aD=>(cnd (decide (aD < (((srtI aA.1).length : Nat) : Int))) (bnd (idx (srtI aA.1) aD) fun aF=>(cnd ((Option.getD (mget aC aF) false)) (lI n aA aE m aB aC (IntKind.i64.wrap (aD + 1))) (bnd (prd n) fun aG=>(bnd (mS aG aE aB aA aG aC [] aF) fun aH=>(bnd (app aB [aH.2]) fun aI=>(lI n aA aE m aI aH.1 (IntKind.i64.wrap (aD + 1)))))))) (some (aB,aC)))
theorem wE (n : Nat) (aB : ((List Int) × (List (Int × Int)))) (aA : GPlan) : ∀ (m : Nat) (aC : (List (List Int))) (aD : (List (Int × Bool))) (aF : Int) (r : ((List (List Int)) × (List (Int × Bool)))),lI n aB aA m aC aD aF=some r→eT [false,false,true] [false,false,true,true] true 0 7 (eG (eO (some lv54) true 0 7) (evC PP (evF PP T n) n 0 bIg) m (tT aB aA aC aD aF))=some ((.exit 4),wF aB aA r.1 r.2)
 | 0,_,_,_,_,h=>by cases h
 | m + 1,aC,aD,aF,r,h=>by
  rw [lI] at h
  rcases cn h with ⟨aM,aH,h⟩ | ⟨aM,aH,h⟩
  rotate_left
  ·obtain rfl:=si h
   exact eQ (some lv54) true (wF aB aA aC aD) (qa 57 aH<|q0) [] [] (by exact (clo rfl (clo (hU (rC 7)) (clo (lH (gJ 7)) (clo (kA (kv:=dX) (va:=rO) fun _=>rfl) (clo rfl (clo (kA (kv:=dX) (va:=gN) fun _=>rfl) (clo rfl rfl))))))))
  obtain ⟨aG,aN,h⟩:=dQ h
  have aK:=idxl (H:=(hp61 aA aC aB aD)) (f:=false) (c:=dS) aN (iD _)
  rcases cn h with ⟨aI,aO,h⟩ | ⟨aI,aO,h⟩
  ·have aP:=by have q:=xF (P:=PP) (cf:=evF PP T n) (fl:=0) (H:=(hp61 aA aC aB aD)) (id:=5) (kv:=dX) (va:=gN) (m:=aD) (k:=aG) (x:=(iv aG)) lG false rfl rfl; simp only [aI,gN] at q; exact q
   exact nx_q (tT aB aA aC aD (IntKind.i64.wrap (aF + 1))) (qb 62 aP<|qa 58 aK<|qa 57 aH<|q0) [] [] (aC5 _ _ _ _ _) (wE n aB aA m aC aD (IntKind.i64.wrap (aF + 1)) r h)
  have aQ:=by have q:=xF (P:=PP) (cf:=evF PP T n) (fl:=0) (H:=(hp61 aA aC aB aD)) (id:=5) (kv:=dX) (va:=gN) (m:=aD) (k:=aG) (x:=(iv aG)) lG false rfl rfl; simp only [aI,gN] at q; exact q
  obtain ⟨aJ,aR,h⟩:=dQ h
  have aS:=pQ aR
  have aT : eS false 0 8 [(.blk 3 [[(.vw (List.map dP aA.Nodes)),(.vw (List.map dR aA.Arcs)),(.vw (List.map dS aA.Faces))]]),(.blk 1 (List.map eR aC)),(.blk 1 (List.map dS (srtI aB.1)++[List.replicate 1 AV.undef])),(.mp (entL dX rO aB.2)),(.blk 1 [[(.mp 3)]]),(.mp (entL dX gN aD)),(.blk 1 [[(.mp 5)]]),(.blk 1 (List.map dS []))]:=trivial
  obtain ⟨aE,aU,h⟩:=dQ h
  have aV:=xQ aJ aA aC aB aJ aD [] aG _ aU
  have aW:=bBu (P:=PP) (cf:=evF PP T aJ) (fl:=0) (H:=(hp64 aA aC aB aE)) (id:=7) (s:=1) (c:=dS) (l:=aE.2) rfl (by omega) aQj
  have aX : evF PP T n 0 36 [(iv aG),(.ptr 6 1 0 0),(.ptr 4 1 0 0)] (hp61 aA aC aB aD)=some ((.sl false (List.map dS aE.2)),(hp65 aA aC aB aE)):=by
   rw [aS]; exact iT F36 (qc 100004 aW<|qp aV<|qp aT<|q0) [((.exit 0),qO aA aC aB aE.1 aE.2)] []
  obtain ⟨aL,aY,h⟩:=dQ h
  have aZ:=yN (fl:=0) (H:=(hp65 aA aC aB aE)) (id:=1) (s:=1) (bytes:=24) (c:=eR) (l:=aC) aY rfl pZ (by omega) (by omega) (by omega)
  exact nx_q (tT aB aA aL aE.1 (IntKind.i64.wrap (aF + 1))) (qc 69 aZ<|qc 67 aX<|qb 62 aQ<|qa 58 aK<|qa 57 aH<|q0) [] [] (aC5 _ _ _ _ _) (wE n aB aA m aL aE.1 (IntKind.i64.wrap (aF + 1)) r h)
abbrev hp67 (aA : GPlan) (aB : ((List (List Int)) × (List (Int × Bool)))) (aC : ((List Int) × (List (Int × Int)))) : Heap:=[(.blk 3 [[(.vw (List.map dP aA.Nodes)),(.vw (List.map dR aA.Arcs)),(.vw (List.map dS aA.Faces))]]),(.blk 1 (List.map eR aB.1)),(.blk 1 (List.map dS (srtI aC.1)++[List.replicate 1 AV.undef])),(.mp (entL dX rO aC.2)),(.blk 1 [[(.mp 3)]]),(.mp (entL dX gN aB.2)),(.blk 1 [[(.mp 5)]])]
def aCg : Nat→GPlan→Option ((List (List Int)) × Int)
 | 0,_=>none
 | n + 1,aA=>(bnd (aEt n aA) fun aB=>(cnd (aB != 0) (some ([],aB)) (bnd (sY n aA n [] ([] : List (Int × Int)) 0) fun aC=>(bnd (prd n) fun aE=>(bnd (grd (decide (List.length aC.1 ≤ 1000000))) fun aF=>(bnd (lI n aC aA n [] ([] : List (Int × Bool)) 0) fun aD=>(some (aD.1,0))))))))
theorem aLu (n : Nat) (aA : GPlan) (r : ((List (List Int)) × Int)) (h : aCg n aA=some r) : pv PP T n 25 [(kU aA)]=some (.tup [(.sl false (List.map eR r.1)),(iv r.2)]):=by
 cases n with
 | zero=>cases h
 | succ n =>
  rw [aCg] at h
  obtain ⟨aU,aF,h⟩:=dQ h
  have aE:=aNj n aA _ aF
  rcases cn h with ⟨aG,aD,h⟩ | ⟨aG,aD,h⟩
  ·obtain rfl:=si h
   exact pv_q F25 (qa 18 aD<|qa 16 aE<|q0) [] []
  have aH:=iM (P:=PP) (cf:=evF PP T n) (fl:=0) (H:=(hp53 aA)) (c:=dP) (l:=aA.Nodes)
  have aI : eS true 0 5 [(.blk 3 [[(.vw (List.map dP aA.Nodes)),(.vw (List.map dR aA.Arcs)),(.vw (List.map dS aA.Faces))]]),(.blk 1 (List.map eR [])),(.blk 1 (List.map dS [])),(.mp (entL dX rO ([] : List (Int × Int)))),(.blk 1 [[(.mp 3)]])]:=(by exact (clo rfl (clo (hU (rC 5)) (clo (hU (gJ 5)) (clo (kA (kv:=dX) (va:=rO) fun _=>rfl) (clo rfl rfl))))))
  obtain ⟨aB,aJ,h⟩:=dQ h
  have aK:=aBv n aA n [] ([] : List (Int × Int)) 0 _ aJ
  obtain ⟨aV,aL,h⟩:=dQ h
  have aM:=pQ aL
  obtain ⟨aW,aN,h⟩:=dQ h
  have aX:=aGn aB.1
  have aO : evF PP T n 0 35 [(.ms 2 aB.1.length 0 aB.1.length)] (hp57 aA aB)=some ((.tup []),(hp58 aA aB)):=by rw [aM]; exact aZo (l:=aB.1) rfl (by omega) rfl (of_decide_eq_true (aEw aN))
  have aP:=aX2 (tot:=aB.1.length) (aGn aB.1) (P:=PP) (cf:=evF PP T n) (fl:=0) (H:=(hp59 aA aB)) (id:=2) (s:=1) (c:=dS) (l:=(srtI aB.1)) rfl (by omega) aQj
  have aQ:=nP (P:=PP) (cf:=evF PP T n) (fl:=0) (H:=(hp60 aA aB)) (f:=false) (c:=dS) (l:=(srtI aB.1))
  have aR : eS true 0 7 [(.blk 3 [[(.vw (List.map dP aA.Nodes)),(.vw (List.map dR aA.Arcs)),(.vw (List.map dS aA.Faces))]]),(.blk 1 (List.map eR [])),(.blk 1 (List.map dS (srtI aB.1)++[List.replicate 1 AV.undef])),(.mp (entL dX rO aB.2)),(.blk 1 [[(.mp 3)]]),(.mp (entL dX gN ([] : List (Int × Bool)))),(.blk 1 [[(.mp 5)]])]:=(by exact (clo rfl (clo (hU (rC 7)) (clo (lH (gJ 7)) (clo (kA (kv:=dX) (va:=rO) fun _=>rfl) (clo rfl (clo (kA (kv:=dX) (va:=gN) fun _=>rfl) (clo rfl rfl))))))))
  obtain ⟨aC,aS,h⟩:=dQ h
  have aT:=wE n aB aA n [] ([] : List (Int × Bool)) 0 _ aS
  obtain rfl:=si h
  refine aFd (iT F25 (qp aT<|qp aR<|qb 55 aQ<|qc 100004 aP<|qc 51 aO<|qp aK<|qp aI<|qb 23 aH<|qa 18 aD<|qa 16 aE<|q0) [((.exit 0),wH aA aB.1 aB.2),((.exit 4),wF aB aA aC.1 aC.2)] [none,none] (r:=(.tup [(.ms 1 aC.1.length 0 aC.1.length),(iv 0)])) (H':=(hp67 aA aC aB))) ?_
  show (AV.tup [(jX (hp67 aA aC aB) 0 (.ms 1 aC.1.length 0 aC.1.length)),(jX (hp67 aA aC aB) 0 (iv 0))])=_
  rw [aAx (H:=(hp67 aA aC aB)) (id:=1) (s:=1) (c:=eR) (l:=aC.1) rfl (aGg _ _ _)]
  first | done | rfl
abbrev hp68 (aA : GPlan) : Heap:=[(.blk 3 [[(.vw (List.map dP aA.Nodes)),(.vw (List.map dR aA.Arcs)),(.vw (List.map dS aA.Faces))]]),(.mp (entL dX eX ([] : List (Int × (List GPoint)))))]
def pC (aA : GPlan) (aB : (List (Int × (List GPoint)))) (aC : Int) : St:=⟨sp 31 [(1,(.ptr 0 1 0 0)),(3,(.mp 1)),(10,(.vw (List.map dR aA.Arcs))),(11,(iv ((aA.Arcs.length : Nat) : Int))),(12,(iv aC))],[(.blk 3 [[(.vw (List.map dP aA.Nodes)),(.vw (List.map dR aA.Arcs)),(.vw (List.map dS aA.Faces))]]),(.mp (entL dX eX aB))]⟩
theorem zY (aA : GPlan) (aB : (List (Int × (List GPoint)))) (aC : Int) : eS true 0 2 (pC aA aB aC).heap:=(by exact (clo rfl (clo (kA (kv:=dX) (va:=eX) fun _=>rfl) rfl)))
def rZ (aA : GPlan) (aB : (List (Int × (List GPoint)))) : St:=⟨sp 31 [(3,(.mp 1))],[(.blk 3 [[(.vw (List.map dP aA.Nodes)),(.vw (List.map dR aA.Arcs)),(.vw (List.map dS aA.Faces))]]),(.mp (entL dX eX aB))]⟩
abbrev hp69 (aA : GPlan) (aB : (List (Int × (List GPoint)))) : Heap:=[(.blk 3 [[(.vw (List.map dP aA.Nodes)),(.vw (List.map dR aA.Arcs)),(.vw (List.map dS aA.Faces))]]),(.mp (entL dX eX aB))]
abbrev hp70 (aA : GPlan) (aB : (List (Int × (List GPoint)))) (aC : GArc) : Heap:=[(.blk 3 [[(.vw (List.map dP aA.Nodes)),(.vw (List.map dR aA.Arcs)),(.vw (List.map dS aA.Faces))]]),(.mp (entL dX eX aB)),(.blk 6 [(dR aC)])]
abbrev hp71 (aA : GPlan) (aC : (List (Int × (List GPoint)))) (aB : GArc) (aD : ((List GPoint) × Int)) : Heap:=[(.blk 3 [[(.vw (List.map dP aA.Nodes)),(.vw (List.map dR aA.Arcs)),(.vw (List.map dS aA.Faces))]]),(.mp (entL dX eX (mput aC aB.ID aD.1))),(.blk 6 [(dR aB)])]
def lN (n : Nat) (aA : GPlan) : Nat→(List (Int × (List GPoint)))→Int→Option (List (Int × (List GPoint)))
 | 0,_,_=>none
 | m + 1,aC,aB=>(cnd (decide (aB < ((aA.Arcs.length : Nat) : Int))) (bnd (idx aA.Arcs aB) fun aD=>(bnd (aAf n aA aD.ID) fun aE=>(cnd (aE.2 == 0) (lN n aA m (mput aC aD.ID aE.1) (IntKind.i64.wrap (aB + 1))) (lN n aA m aC (IntKind.i64.wrap (aB + 1)))))) (some aC))
theorem rY (n : Nat) (aA : GPlan) : ∀ (m : Nat) (aB : (List (Int × (List GPoint)))) (aC : Int) (r : (List (Int × (List GPoint)))),lN n aA m aB aC=some r→eT [false,false,false,true] [false,false,true] true 0 2 (eG (eO (some lv56) true 0 2) (evC PP (evF PP T n) n 0 bIf) m (pC aA aB aC))=some ((.exit 0),rZ aA r)
 | 0,_,_,_,h=>by cases h
 | m + 1,aB,aC,r,h=>by
  rw [lN] at h
  rcases cn h with ⟨aJ,aE,h⟩ | ⟨aJ,aE,h⟩
  rotate_left
  ·obtain rfl:=si h
   exact eQ (some lv56) true (rZ aA aB) (qa 13 aE<|q0) [] [] (by exact (clo rfl (clo (kA (kv:=dX) (va:=eX) fun _=>rfl) rfl)))
  obtain ⟨aD,aK,h⟩:=dQ h
  have aH:=idxv (H:=(hp69 aA aB)) (c:=dR) aK (lY _)
  obtain ⟨aF,aL,h⟩:=dQ h
  have aI:=aA1 n aA aD.ID _ aL
  rcases cn h with ⟨aM,aG,h⟩ | ⟨aM,aG,h⟩
  rotate_left
  ·exact nx_q (pC aA aB (IntKind.i64.wrap (aC + 1))) (qa 24 aG<|qa 20 aI<|qa 14 aH<|qa 13 aE<|q0) [] [none] (zY _ _ _) (rY n aA m aB (IntKind.i64.wrap (aC + 1)) r h)
  have aN:=aIl (P:=PP) (cf:=evF PP T n) (fl:=0) (H:=(hp70 aA aB aD)) (id:=1) (kv:=dX) (va:=eX) (m:=aB) (k:=aD.ID) (x:=(iv aD.ID)) lG aF.1 rfl (by omega) rfl
  exact nx_q (pC aA (mput aB aD.ID aF.1) (IntKind.i64.wrap (aC + 1))) (qp aN<|qa 24 aG<|qa 20 aI<|qa 14 aH<|qa 13 aE<|q0) [] [none,some (hp71 aA aB aD aF)] (zY _ _ _) (rY n aA m (mput aB aD.ID aF.1) (IntKind.i64.wrap (aC + 1)) r h)
def xK : Nat→GPlan→Option (List (Int × (List GPoint)))
 | 0,_=>none
 | n + 1,aA=>(bnd (lN n aA n ([] : List (Int × (List GPoint))) 0) fun aB=>(some aB))
theorem aHp (n : Nat) (aA : GPlan) (r : (List (Int × (List GPoint)))) (h : xK n aA=some r) : pv PP T n 26 [(kU aA)]=some (.rmp (entL dX eX r)):=by
 cases n with
 | zero=>cases h
 | succ n =>
  rw [xK] at h
  have aC:=iM (P:=PP) (cf:=evF PP T n) (fl:=0) (H:=(hp68 aA)) (c:=dR) (l:=aA.Arcs)
  have aD : eS true 0 2 [(.blk 3 [[(.vw (List.map dP aA.Nodes)),(.vw (List.map dR aA.Arcs)),(.vw (List.map dS aA.Faces))]]),(.mp (entL dX eX ([] : List (Int × (List GPoint)))))]:=(by exact (clo rfl (clo (kA (kv:=dX) (va:=eX) fun _=>rfl) rfl)))
  obtain ⟨aB,aE,h⟩:=dQ h
  have aF:=rY n aA n ([] : List (Int × (List GPoint))) 0 _ aE
  obtain rfl:=si h
  refine aFd (iT F26 (qp aF<|qp aD<|qb 11 aC<|q0) [((.exit 0),rZ aA aB)] [] (r:=(.mp 1)) (H':=(hp69 aA aB))) ?_
  show (jX (hp69 aA aB) 0 (.mp 1))=_
  rw [aZv (H:=(hp69 aA aB)) (id:=1) (m:=aB) (kv:=dX) (va:=eX) rfl (fun x=>by first | rfl | simp [eX,lD])]
  first | done | rfl
def aBs : Nat→GPlan→Int→Option (GArc × Bool)
 | 0,_,_=>none
 | n + 1,aC,aA=>(cnd (aA == 0) (some ((GArc.mk 0 0 0 [] 0 0),false)) (cnd (aA == (-9223372036854775808)) (some ((GArc.mk 0 0 0 [] 0 0),false)) (bnd (aGt n aC (imax aA (IntKind.i64.wrap (0 - aA)))) fun aB=>(cnd (aB.2) (some (aB.1,true)) (some (aB.1,false))))))
theorem zL (n : Nat) (aB : GPlan) (aA : Int) (r : (GArc × Bool)) (h : aBs n aB aA=some r) : pv PP T n 59 [(kU aB),(iv aA)]=some (.tup [(.agg (dR r.1)),(bv r.2)]):=by
 cases n with
 | zero=>cases h
 | succ n =>
  rw [aBs] at h
  rcases cn h with ⟨aH,aC,h⟩ | ⟨aH,aC,h⟩
  ·obtain rfl:=si h
   exact pv_q F59 (qa 7 aC<|q0) [] [none]
  rcases cn h with ⟨aI,aD,h⟩ | ⟨aI,aD,h⟩
  ·obtain rfl:=si h
   exact pv_q F59 (qa 10 aD<|qa 7 aC<|q0) [] [none]
  have aF:=aKq (P:=PP) (cf:=evF PP T n) (fl:=0) (H:=(hp10 aB)) (a:=aA) (b:=(IntKind.i64.wrap (0 - aA)))
  obtain ⟨aM,aG,h⟩:=dQ h
  rcases cn h with ⟨aE,aJ,h⟩ | ⟨aE,aJ,h⟩
  ·have aK:=by have q:=aCo n aB (imax aA (IntKind.i64.wrap (0 - aA))) _ aG; rw [aE] at q; exact q
   obtain rfl:=si h
   exact pv_q F59 (qa 18 aK<|qb 17 aF<|qa 10 aD<|qa 7 aC<|q0) [] [none]
  have aL:=by have q:=aCo n aB (imax aA (IntKind.i64.wrap (0 - aA))) _ aG; rw [aE] at q; exact q
  obtain rfl:=si h
  exact pv_q F59 (qa 18 aL<|qb 17 aF<|qa 10 aD<|qa 7 aC<|q0) [] [none]
def vB (aB : (List Int)) (aA : GPlan) (aC : Int) (aD : Int) : St:=⟨sp 84 [(2,(.ptr 0 1 0 0)),(4,(iv aD)),(16,(.vw (List.map dS aB))),(17,(iv ((aB.length : Nat) : Int))),(18,(iv aC))],[(.blk 3 [[(.vw (List.map dP aA.Nodes)),(.vw (List.map dR aA.Arcs)),(.vw (List.map dS aA.Faces))]])]⟩
theorem aDn (aA : (List Int)) (aB : GPlan) (aC : Int) (aD : Int) : eS true 0 1 (vB aA aB aC aD).heap:=(by exact (clo rfl rfl))
def tS (aH : (List Int)) (aA : GPlan) (aB : Int) (aC : Int) (aD : Int) (aE : (List GPoint)) (aF : Int) (aG : Int) : St:=⟨sp 84 [(4,(iv 0))],[(.blk 3 [[(.vw (List.map dP aA.Nodes)),(.vw (List.map dR aA.Arcs)),(.vw (List.map dS aA.Faces))]]),(.blk 6 [[(iv aB),(iv aC),(iv aD),(.sl false (List.map dW aE)),(iv aF),(iv aG)]])]⟩
def yO (aC : (List Int)) (aA : GPlan) (aB : Int) : St:=⟨sp 84 [(4,(iv aB))],[(.blk 3 [[(.vw (List.map dP aA.Nodes)),(.vw (List.map dR aA.Arcs)),(.vw (List.map dS aA.Faces))]])]⟩
abbrev hp73 (aA : GPlan) (aB : (GArc × Bool)) : Heap:=[(.blk 3 [[(.vw (List.map dP aA.Nodes)),(.vw (List.map dR aA.Arcs)),(.vw (List.map dS aA.Faces))]]),(.blk 6 [(dR aB.1)])]
def aDm (aD : Int) (aE : Int) (aB : ((List GPoint) × Int)) (aC : (List Int)) (aF : Int) (aA : GPlan) (aG : (GArc × Bool)) (aH : Int) (aI : Int) : St:=⟨sp 84 [(2,(.ptr 0 1 0 0)),(4,(iv aD)),(6,(iv aE)),(9,(.sl false (List.map dW aB.1))),(11,(iv aH)),(16,(.vw (List.map dS aC))),(17,(iv ((aC.length : Nat) : Int))),(18,(iv aF)),(43,(iv (IntKind.i64.wrap (((aB.1.length : Nat) : Int) - 1)))),(44,(iv aI))],[(.blk 3 [[(.vw (List.map dP aA.Nodes)),(.vw (List.map dR aA.Arcs)),(.vw (List.map dS aA.Faces))]]),(.blk 6 [(dR aG.1)])]⟩
def tQ (aC : Int) (aD : Int) (aH : ((List GPoint) × Int)) (aB : (List Int)) (aE : Int) (aA : GPlan) (aF : (GArc × Bool)) (aG : Int) : St:=⟨sp 84 [(2,(.ptr 0 1 0 0)),(4,(iv aC)),(6,(iv aD)),(11,(iv aG)),(16,(.vw (List.map dS aB))),(17,(iv ((aB.length : Nat) : Int))),(18,(iv aE))],[(.blk 3 [[(.vw (List.map dP aA.Nodes)),(.vw (List.map dR aA.Arcs)),(.vw (List.map dS aA.Faces))]]),(.blk 6 [(dR aF.1)])]⟩
def vA (n : Nat) (aF : Int) (aG : Int) (aA : ((List GPoint) × Int)) (aH : (List Int)) (aI : Int) (aJ : GPlan) (aK : (GArc × Bool)) : Nat→Int→Int→Option Int
 | 0,_,_=>none
 | m + 1,aC,aB=>(cnd (decide (aB < (IntKind.i64.wrap (((aA.1.length : Nat) : Int) - 1)))) (bnd (idx aA.1 aB) fun aD=>(bnd (idx aA.1 (IntKind.i64.wrap (aB + 1))) fun aE=>(vA n aF aG aA aH aI aJ aK m (IntKind.i64.wrap (aC + (IntKind.i64.wrap ((IntKind.i64.wrap (aD.X * aE.Y)) - (IntKind.i64.wrap (aE.X * aD.Y)))))) (IntKind.i64.wrap (aB + 1))))) (some aC))
theorem aC4 (n : Nat) (aC : Int) (aD : Int) (aE : ((List GPoint) × Int)) (aF : (List Int)) (aG : Int) (aA : GPlan) (aB : (GArc × Bool)) : ∀ (m : Nat) (aH : Int) (aI : Int) (r : Int),vA n aC aD aE aF aG aA aB m aH aI=some r→eT lv59 lv4 false 0 2 (eG (eO (some lv58) false 0 2) (evC PP (evF PP T n) n 0 bH3) m (aDm aC aD aE aF aG aA aB aH aI))=some ((.exit 2),tQ aC aD aE aF aG aA aB r)
 | 0,_,_,_,h=>by cases h
 | m + 1,aH,aI,r,h=>by
  rw [vA] at h
  rcases cn h with ⟨aO,aL,h⟩ | ⟨aO,aL,h⟩
  rotate_left
  ·obtain rfl:=si h
   exact eQ (some lv58) false (tQ aC aD aE aF aG aA aB aH) (qa 45 aL<|q0) [] [] trivial
  obtain ⟨aJ,aM,h⟩:=dQ h
  have aP:=idxl (H:=(hp73 aA aB)) (f:=false) (c:=dW) aM (gW _)
  obtain ⟨aK,aN,h⟩:=dQ h
  have aQ:=idxl (H:=(hp73 aA aB)) (f:=false) (c:=dW) aN (gW _)
  have aR:=idxl (H:=(hp73 aA aB)) (f:=false) (c:=dW) aN (gW _)
  have aS:=idxl (H:=(hp73 aA aB)) (f:=false) (c:=dW) aM (gW _)
  exact nx_q (aDm aC aD aE aF aG aA aB (IntKind.i64.wrap (aH + (IntKind.i64.wrap ((IntKind.i64.wrap (aJ.X * aK.Y)) - (IntKind.i64.wrap (aK.X * aJ.Y)))))) (IntKind.i64.wrap (aI + 1))) (qa 68 aS<|qa 63 aR<|qa 56 aQ<|qa 50 aP<|qa 45 aL<|q0) [] [] trivial (aC4 n aC aD aE aF aG aA aB m (IntKind.i64.wrap (aH + (IntKind.i64.wrap ((IntKind.i64.wrap (aJ.X * aK.Y)) - (IntKind.i64.wrap (aK.X * aJ.Y)))))) (IntKind.i64.wrap (aI + 1)) r h)
def rD (n : Nat) (aB : (List Int)) (aC : GPlan) : Nat→Int→Int→Option ((Int × Int × Int × (List GPoint) × Int × Int) ⊕ Int)
 | 0,_,_=>none
 | m + 1,aD,aF=>(cnd (decide (aD < ((aB.length : Nat) : Int))) (bnd (idx aB aD) fun aE=>(bnd (aBs n aC aE) fun aA=>(cnd (aA.2) (bnd (aAf n aC (imax aE (IntKind.i64.wrap (0 - aE)))) fun aG=>(cnd (aG.2 != 0) (some (Sum.inl (aA.1.ID,aA.1.From,aA.1.To,aA.1.Via,aA.1.Left,aA.1.Right))) (bnd (vA n aF aE aG aB aD aC aA n 0 0) fun aH=>(cnd (decide (aE < 0)) (rD n aB aC m (IntKind.i64.wrap (aD + 1)) (IntKind.i64.wrap (aF + (IntKind.i64.wrap (0 - aH))))) (rD n aB aC m (IntKind.i64.wrap (aD + 1)) (IntKind.i64.wrap (aF + aH))))))) (some (Sum.inl (aA.1.ID,aA.1.From,aA.1.To,aA.1.Via,aA.1.Left,aA.1.Right)))))) (some (Sum.inr aF)))
theorem tR (n : Nat) (aC : (List Int)) (aA : GPlan) : ∀ (m : Nat) (aE : Int) (aD : Int) (r : ((Int × Int × Int × (List GPoint) × Int × Int) ⊕ Int)),rD n aC aA m aE aD=some r→eT lv4 lv4 true 0 1 (eG (eO (some lv57) true 0 1) (evC PP (evF PP T n) n 0 bH4) m (vB aC aA aE aD))=(match r with | (.inl r)=>some (.ret,tS aC aA r.1 r.2.1 r.2.2.1 r.2.2.2.1 r.2.2.2.2.1 r.2.2.2.2.2) | (.inr r)=>some ((.exit 0),yO aC aA r))
 | 0,_,_,_,h=>by cases h
 | m + 1,aE,aD,r,h=>by
  rw [rD] at h
  rcases cn h with ⟨aU,aG,h⟩ | ⟨aU,aG,h⟩
  rotate_left
  ·obtain rfl:=si h
   exact eQ (some lv57) true (yO aC aA aD) (qa 19 aG<|q0) [] [] (by exact (clo rfl rfl))
  obtain ⟨aF,aV,h⟩:=dQ h
  have aI:=idxv (H:=(hp0 aA)) (c:=dS) aV (iD _)
  obtain ⟨aB,aQ,h⟩:=dQ h
  rcases cn h with ⟨aL,aW,h⟩ | ⟨aL,aW,h⟩
  rotate_left
  ·have aX:=by have q:=zL n aA aF _ aQ; rw [aL] at q; exact q
   obtain rfl:=si h
   exact eQ (some lv57) true (tS aC aA aB.1.ID aB.1.From aB.1.To aB.1.Via aB.1.Left aB.1.Right) (qa 25 aX<|qa 20 aI<|qa 19 aG<|q0) [] [none] trivial
  have aM:=by have q:=zL n aA aF _ aQ; rw [aL] at q; exact q
  have aN:=aKq (P:=PP) (cf:=evF PP T n) (fl:=0) (H:=(hp73 aA aB)) (a:=aF) (b:=(IntKind.i64.wrap (0 - aF)))
  obtain ⟨aJ,aY,h⟩:=dQ h
  have aO:=aA1 n aA (imax aF (IntKind.i64.wrap (0 - aF))) _ aY
  rcases cn h with ⟨aZ,aK,h⟩ | ⟨aZ,aK,h⟩
  ·obtain rfl:=si h
   exact eQ (some lv57) true (tS aC aA aB.1.ID aB.1.From aB.1.To aB.1.Via aB.1.Left aB.1.Right) (qa 40 aK<|qa 36 aO<|qb 35 aN<|qa 25 aM<|qa 20 aI<|qa 19 aG<|q0) [] [none] trivial
  have aR:=nP (P:=PP) (cf:=evF PP T n) (fl:=0) (H:=(hp73 aA aB)) (f:=false) (c:=dW) (l:=aJ.1)
  have aS : eS false 0 2 [(.blk 3 [[(.vw (List.map dP aA.Nodes)),(.vw (List.map dR aA.Arcs)),(.vw (List.map dS aA.Faces))]]),(.blk 6 [(dR aB.1)])]:=trivial
  obtain ⟨aH,aa,h⟩:=dQ h
  have aT:=aC4 n aD aF aJ aC aE aA aB n 0 0 _ aa
  rcases cn h with ⟨ab,aP,h⟩ | ⟨ab,aP,h⟩
  rotate_left
  ·exact nx_q (vB aC aA (IntKind.i64.wrap (aE + 1)) (IntKind.i64.wrap (aD + aH))) (qa 76 aP<|qp aT<|qp aS<|qb 42 aR<|qa 40 aK<|qa 36 aO<|qb 35 aN<|qa 25 aM<|qa 20 aI<|qa 19 aG<|q0) [((.exit 2),tQ aD aF aJ aC aE aA aB aH)] [none] (aDn _ _ _ _) (tR n aC aA m (IntKind.i64.wrap (aE + 1)) (IntKind.i64.wrap (aD + aH)) r h)
  exact nx_q (vB aC aA (IntKind.i64.wrap (aE + 1)) (IntKind.i64.wrap (aD + (IntKind.i64.wrap (0 - aH))))) (qa 76 aP<|qp aT<|qp aS<|qb 42 aR<|qa 40 aK<|qa 36 aO<|qb 35 aN<|qa 25 aM<|qa 20 aI<|qa 19 aG<|q0) [((.exit 2),tQ aD aF aJ aC aE aA aB aH)] [none] (aDn _ _ _ _) (tR n aC aA m (IntKind.i64.wrap (aE + 1)) (IntKind.i64.wrap (aD + (IntKind.i64.wrap (0 - aH)))) r h)
def aEl : Nat→GPlan→(List Int)→Option Int
 | 0,_,_=>none
 | n + 1,aB,aA=>(cnd (decide (((aA.length : Nat) : Int) > 512)) (some 0) (bnd2 (rD n aA aB n 0 0) (fun aD=>(some 0)) (fun aC=>(some aC))))
theorem aM6 (n : Nat) (aA : GPlan) (aB : (List Int)) (r : Int) (h : aEl n aA aB=some r) : pv PP T n 38 [(kU aA),(.vw (List.map dS aB))]=some (iv r):=by
 cases n with
 | zero=>cases h
 | succ n =>
  rw [aEl] at h
  have aE:=iM (P:=PP) (cf:=evF PP T n) (fl:=0) (H:=(hp0 aA)) (c:=dS) (l:=aB)
  rcases cn h with ⟨aJ,aD,h⟩ | ⟨aJ,aD,h⟩
  ·obtain rfl:=si h
   exact pv_q F38 (qa 15 aD<|qb 14 aE<|q0) [] []
  have aH:=iM (P:=PP) (cf:=evF PP T n) (fl:=0) (H:=(hp0 aA)) (c:=dS) (l:=aB)
  have aI : eS true 0 1 [(.blk 3 [[(.vw (List.map dP aA.Nodes)),(.vw (List.map dR aA.Arcs)),(.vw (List.map dS aA.Faces))]])]:=(by exact (clo rfl rfl))
  rcases gF h with ⟨aC,aF,h⟩ | ⟨aK,aF,h⟩
  rotate_left
  ·have aG:=tR n aB aA n 0 0 _ aF
   obtain rfl:=si h
   exact pv_q F38 (qp aG<|qp aI<|qb 17 aH<|qa 15 aD<|qb 14 aE<|q0) [((.exit 0),yO aB aA aK)] []
  have aG:=tR n aB aA n 0 0 _ aF
  obtain rfl:=si h
  exact pv_q F38 (qp aG<|qp aI<|qb 17 aH<|qa 15 aD<|qb 14 aE<|q0) [(.ret,tS aB aA aC.1 aC.2.1 aC.2.2.1 aC.2.2.2.1 aC.2.2.2.2.1 aC.2.2.2.2.2)] []
abbrev hp74 (aA : GPoint) : Heap:=[(.blk 2 [[(iv aA.X),(iv aA.Y)]]),(.blk 1 [[bf]]),(.blk 1 [[bf]])]
def iZ (aC : (List (Int × (List GPoint)))) (aA : (List Int)) (aB : GPoint) (aD : Bool) (aE : Bool) (aF : Int) : St:=⟨sp 40 [(0,(.rmp (entL dX eX aC))),(2,(.fn 83 [(.ptr 0 1 0 0),(.ptr 1 1 0 0),(.ptr 2 1 0 0)])),(10,(.vw (List.map dS aA))),(11,(iv ((aA.length : Nat) : Int))),(12,(iv aF))],[(.blk 2 [[(iv aB.X),(iv aB.Y)]]),(.blk 1 [[(bv aD)]]),(.blk 1 [[(bv aE)]])]⟩
theorem oU (aA : (List (Int × (List GPoint)))) (aB : (List Int)) (aC : GPoint) (aD : Bool) (aE : Bool) (aF : Int) : eS true 0 3 (iZ aA aB aC aD aE aF).heap:=(by exact (clo rfl (clo rfl (clo rfl rfl))))
def kG (aD : (List (Int × (List GPoint)))) (aE : (List Int)) (aA : GPoint) (aB : Bool) (aC : Bool) : St:=⟨sp 40 [],[(.blk 2 [[(iv aA.X),(iv aA.Y)]]),(.blk 1 [[(bv aB)]]),(.blk 1 [[(bv aC)]])]⟩
abbrev hp75 (aA : GPoint) (aB : Bool) (aC : Bool) : Heap:=[(.blk 2 [[(iv aA.X),(iv aA.Y)]]),(.blk 1 [[(bv aB)]]),(.blk 1 [[(bv aC)]])]
def gM (aA : (List (Int × (List GPoint)))) (aB : Int) (aC : (List Int)) (aE : Int) (aD : GPoint) (aF : Bool) (aG : Bool) (aH : Int) : St:=⟨sp 40 [(0,(.rmp (entL dX eX aA))),(2,(.fn 83 [(.ptr 0 1 0 0),(.ptr 1 1 0 0),(.ptr 2 1 0 0)])),(8,(.sl false (List.map dW (Option.getD (mget aA (imax aB (IntKind.i64.wrap (0 - aB)))) [])))),(9,(iv aH)),(10,(.vw (List.map dS aC))),(11,(iv ((aC.length : Nat) : Int))),(12,(iv aE))],[(.blk 2 [[(iv aD.X),(iv aD.Y)]]),(.blk 1 [[(bv aF)]]),(.blk 1 [[(bv aG)]])]⟩
theorem iX (aA : (List (Int × (List GPoint)))) (aB : Int) (aC : (List Int)) (aD : Int) (aE : GPoint) (aF : Bool) (aG : Bool) (aH : Int) : eS true 0 3 (gM aA aB aC aD aE aF aG aH).heap:=(by exact (clo rfl (clo rfl (clo rfl rfl))))
def kE (aC : (List (Int × (List GPoint)))) (aG : Int) (aA : (List Int)) (aD : Int) (aB : GPoint) (aE : Bool) (aF : Bool) : St:=⟨sp 40 [(0,(.rmp (entL dX eX aC))),(2,(.fn 83 [(.ptr 0 1 0 0),(.ptr 1 1 0 0),(.ptr 2 1 0 0)])),(10,(.vw (List.map dS aA))),(11,(iv ((aA.length : Nat) : Int))),(12,(iv aD))],[(.blk 2 [[(iv aB.X),(iv aB.Y)]]),(.blk 1 [[(bv aE)]]),(.blk 1 [[(bv aF)]])]⟩
abbrev hp76 (aA : GPoint) (aD : Bool) (aB : GPoint) (aC : GPoint) : Heap:=[(.blk 2 [[(iv aA.X),(iv aA.Y)]]),(.blk 1 [[bt]]),(.blk 1 [[(bv aD)]]),(.blk 2 [[(iv aB.X),(iv aB.Y)]]),(.blk 2 [[(iv aC.X),(iv aC.Y)]])]
def xW (aA : GPoint) (aD : Bool) (aE : Bool) (aB : GPoint) (aC : GPoint) : St:=⟨sp 56 [(2,(.ptr 0 1 0 0)),(4,(.ptr 2 1 0 0)),(5,(.ptr 3 1 0 0)),(6,(.ptr 4 1 0 0))],[(.blk 2 [[(iv aA.X),(iv aA.Y)]]),(.blk 1 [[(bv aD)]]),(.blk 1 [[(bv aE)]]),(.blk 2 [[(iv aB.X),(iv aB.Y)]]),(.blk 2 [[(iv aC.X),(iv aC.Y)]])]⟩
def eY (aA : GPoint) (aD : Bool) (aE : Bool) (aB : GPoint) (aC : GPoint) (aF : Bool) : St:=⟨sp 56 [(2,(.ptr 0 1 0 0)),(4,(.ptr 2 1 0 0)),(5,(.ptr 3 1 0 0)),(6,(.ptr 4 1 0 0)),(12,(bv aF))],[(.blk 2 [[(iv aA.X),(iv aA.Y)]]),(.blk 1 [[(bv aD)]]),(.blk 1 [[(bv aE)]]),(.blk 2 [[(iv aB.X),(iv aB.Y)]]),(.blk 2 [[(iv aC.X),(iv aC.Y)]])]⟩
def iL (n : Nat) (aA : GPoint) (aE : Bool) (aF : Bool) (aB : GPoint) (aC : GPoint) : Option Bool:=(cnd (decide (aB.Y ≤ aA.Y)) (cnd (decide (aA.Y < aC.Y)) (bnd (rA n aB aC aA) fun aD=>(cnd (decide (aD > 0)) (some true) (some false))) (some false)) (some false))
theorem nY (n : Nat) (aA : GPoint) (aD : Bool) (aE : Bool) (aB : GPoint) (aC : GPoint) (r : Bool) (h : iL n aA aD aE aB aC=some r) : eT lv62 [] false 0 5 (evC PP (evF PP T n) n 0 bG6 (xW aA aD aE aB aC))=some (.normal,eY aA aD aE aB aC r):=by
 unfold iL at h
 rcases cn h with ⟨aJ,aF,h⟩ | ⟨aJ,aF,h⟩
 rotate_left
 ·obtain rfl:=si h
  exact dY (eY aA aD aE aB aC false) (qa 17 aF<|q0) [] []
 rcases cn h with ⟨aK,aG,h⟩ | ⟨aK,aG,h⟩
 rotate_left
 ·obtain rfl:=si h
  exact dY (eY aA aD aE aB aC false) (qa 23 aG<|qa 17 aF<|q0) [] []
 obtain ⟨aN,aL,h⟩:=dQ h
 have aI:=oY n aB aC aA _ aL
 rcases cn h with ⟨aM,aH,h⟩ | ⟨aM,aH,h⟩
 ·obtain rfl:=si h
  exact dY (eY aA aD aE aB aC true) (qa 30 aH<|qa 29 aI<|qa 23 aG<|qa 17 aF<|q0) [] []
 obtain rfl:=si h
 exact dY (eY aA aD aE aB aC false) (qa 30 aH<|qa 29 aI<|qa 23 aG<|qa 17 aF<|q0) [] []
abbrev hp78 (aA : GPoint) (aD : Bool) (aE : Bool) (aB : GPoint) (aC : GPoint) : Heap:=[(.blk 2 [[(iv aA.X),(iv aA.Y)]]),(.blk 1 [[(bv aD)]]),(.blk 1 [[(bv (!aE))]]),(.blk 2 [[(iv aB.X),(iv aB.Y)]]),(.blk 2 [[(iv aC.X),(iv aC.Y)]])]
def xV (aA : GPoint) (aD : Bool) (aE : Bool) (aB : GPoint) (aC : GPoint) : St:=⟨sp 56 [(2,(.ptr 0 1 0 0)),(4,(.ptr 2 1 0 0)),(5,(.ptr 3 1 0 0)),(6,(.ptr 4 1 0 0))],[(.blk 2 [[(iv aA.X),(iv aA.Y)]]),(.blk 1 [[(bv aD)]]),(.blk 1 [[(bv aE)]]),(.blk 2 [[(iv aB.X),(iv aB.Y)]]),(.blk 2 [[(iv aC.X),(iv aC.Y)]])]⟩
def gB (aA : GPoint) (aD : Bool) (aE : Bool) (aB : GPoint) (aC : GPoint) (aF : Bool) : St:=⟨sp 56 [(4,(.ptr 2 1 0 0)),(34,(bv aF))],[(.blk 2 [[(iv aA.X),(iv aA.Y)]]),(.blk 1 [[(bv aD)]]),(.blk 1 [[(bv aE)]]),(.blk 2 [[(iv aB.X),(iv aB.Y)]]),(.blk 2 [[(iv aC.X),(iv aC.Y)]])]⟩
def iK (n : Nat) (aA : GPoint) (aE : Bool) (aF : Bool) (aB : GPoint) (aC : GPoint) : Option Bool:=(cnd (decide (aC.Y ≤ aA.Y)) (cnd (decide (aA.Y < aB.Y)) (bnd (rA n aB aC aA) fun aD=>(cnd (decide (aD < 0)) (some true) (some false))) (some false)) (some false))
theorem nX (n : Nat) (aA : GPoint) (aD : Bool) (aE : Bool) (aB : GPoint) (aC : GPoint) (r : Bool) (h : iK n aA aD aE aB aC=some r) : eT lv63 [] false 0 5 (evC PP (evF PP T n) n 0 bG5 (xV aA aD aE aB aC))=some (.normal,gB aA aD aE aB aC r):=by
 unfold iK at h
 rcases cn h with ⟨aJ,aF,h⟩ | ⟨aJ,aF,h⟩
 rotate_left
 ·obtain rfl:=si h
  exact dY (gB aA aD aE aB aC false) (qa 39 aF<|q0) [] []
 rcases cn h with ⟨aK,aG,h⟩ | ⟨aK,aG,h⟩
 rotate_left
 ·obtain rfl:=si h
  exact dY (gB aA aD aE aB aC false) (qa 45 aG<|qa 39 aF<|q0) [] []
 obtain ⟨aN,aL,h⟩:=dQ h
 have aI:=oY n aB aC aA _ aL
 rcases cn h with ⟨aM,aH,h⟩ | ⟨aM,aH,h⟩
 ·obtain rfl:=si h
  exact dY (gB aA aD aE aB aC true) (qa 52 aH<|qa 51 aI<|qa 45 aG<|qa 39 aF<|q0) [] []
 obtain rfl:=si h
 exact dY (gB aA aD aE aB aC false) (qa 52 aH<|qa 51 aI<|qa 45 aG<|qa 39 aF<|q0) [] []
abbrev hp80 (aA : GPoint) (aD : Bool) (aE : Bool) (aB : GPoint) (aC : GPoint) : Heap:=[(.blk 2 [[(iv aA.X),(iv aA.Y)]]),(.blk 1 [[(bv aD)]]),(.blk 1 [[(bv aE)]]),(.blk 2 [[(iv aB.X),(iv aB.Y)]]),(.blk 2 [[(iv aC.X),(iv aC.Y)]])]
def eU (n : Nat) (aB : (List (Int × (List GPoint)))) (aA : Int) (aG : (List Int)) (aH : Int) (aC : GPoint) : Nat→Bool→Bool→Int→Option (Bool × Bool)
 | 0,_,_,_=>none
 | m + 1,aF,aD,aE=>(cnd (decide (aE < (((Option.getD (mget aB (imax aA (IntKind.i64.wrap (0 - aA)))) []).length : Nat) : Int))) (bnd (idx (Option.getD (mget aB (imax aA (IntKind.i64.wrap (0 - aA)))) []) (IntKind.i64.wrap (aE - 1))) fun aI=>(bnd (idx (Option.getD (mget aB (imax aA (IntKind.i64.wrap (0 - aA)))) []) aE) fun aJ=>(bnd (prd n) fun aK=>(bnd (uU aK aI aJ aC) fun aL=>(cnd (aL) (eU n aB aA aG aH aC m true aD (IntKind.i64.wrap (aE + 1))) (bnd (iL aK aC aF aD aI aJ) fun aM=>(cnd (aM) (eU n aB aA aG aH aC m aF (!aD) (IntKind.i64.wrap (aE + 1))) (bnd (iK aK aC aF aD aI aJ) fun aN=>(cnd (aN) (eU n aB aA aG aH aC m aF (!aD) (IntKind.i64.wrap (aE + 1))) (eU n aB aA aG aH aC m aF aD (IntKind.i64.wrap (aE + 1)))))))))))) (some (aF,aD)))
theorem gY (n : Nat) (aG : (List (Int × (List GPoint)))) (aF : Int) (aH : (List Int)) (aI : Int) (aA : GPoint) : ∀ (m : Nat) (aC : Bool) (aB : Bool) (aJ : Int) (r : (Bool × Bool)),eU n aG aF aH aI aA m aC aB aJ=some r→eT lv60 [] true 0 3 (eG (eO (some lv61) true 0 3) (evC PP (evF PP T n) n 0 bE4) m (gM aG aF aH aI aA aC aB aJ))=some ((.exit 2),kE aG aF aH aI aA r.1 r.2)
 | 0,_,_,_,_,h=>by cases h
 | m + 1,aC,aB,aJ,r,h=>by
  rw [eU] at h
  have aN:=nP (P:=PP) (cf:=evF PP T n) (fl:=0) (H:=(hp75 aA aC aB)) (f:=false) (c:=dW) (l:=(Option.getD (mget aG (imax aF (IntKind.i64.wrap (0 - aF)))) []))
  rcases cn h with ⟨aZ,aK,h⟩ | ⟨aZ,aK,h⟩
  rotate_left
  ·obtain rfl:=si h
   exact eQ (some lv61) true (kE aG aF aH aI aA aC aB) (qa 25 aK<|qb 24 aN<|q0) [] [] (by exact (clo rfl (clo rfl (clo rfl rfl))))
  obtain ⟨aD,aa,h⟩:=dQ h
  have aP:=idxl (H:=(hp75 aA aC aB)) (f:=false) (c:=dW) aa (gW _)
  obtain ⟨aE,ab,h⟩:=dQ h
  have aQ:=idxl (H:=(hp75 aA aC aB)) (f:=false) (c:=dW) ab (gW _)
  obtain ⟨aL,ac,h⟩:=dQ h
  have aR:=pQ ac
  obtain ⟨al,aW,h⟩:=dQ h
  rcases cn h with ⟨aS,ad,h⟩ | ⟨aS,ad,h⟩
  ·have ae:=by have q:=gU aL aD aE aA _ aW; rw [aS] at q; exact q
   have af : evF PP T n 0 83 [(.agg [(iv aD.X),(iv aD.Y)]),(.agg [(iv aE.X),(iv aE.Y)]),(.ptr 0 1 0 0),(.ptr 1 1 0 0),(.ptr 2 1 0 0)] (hp75 aA aC aB)=some ((.tup []),(hp76 aA aB aD aE)):=by
    rw [aR]; exact iT F83 (qa 11 ae<|q0) [] [none]
   exact nx_q (gM aG aF aH aI aA true aB (IntKind.i64.wrap (aJ + 1))) (qc 38 af<|qa 36 aQ<|qa 32 aP<|qa 25 aK<|qb 24 aN<|q0) [] [] (iX _ _ _ _ _ _ _ _) (gY n aG aF aH aI aA m true aB (IntKind.i64.wrap (aJ + 1)) r h)
  have aT:=by have q:=gU aL aD aE aA _ aW; rw [aS] at q; exact q
  obtain ⟨am,aX,h⟩:=dQ h
  rcases cn h with ⟨aU,ag,h⟩ | ⟨aU,ag,h⟩
  ·have aM:=nY aL aA aC aB aD aE _ aX
   rw [aU] at aM
   have ah : evF PP T n 0 83 [(.agg [(iv aD.X),(iv aD.Y)]),(.agg [(iv aE.X),(iv aE.Y)]),(.ptr 0 1 0 0),(.ptr 1 1 0 0),(.ptr 2 1 0 0)] (hp75 aA aC aB)=some ((.tup []),(hp78 aA aC aB aD aE)):=by
    rw [aR]; exact iT F83 (qp aM<|qa 11 aT<|q0) [(.normal,eY aA aC aB aD aE true)] [none]
   exact nx_q (gM aG aF aH aI aA aC (!aB) (IntKind.i64.wrap (aJ + 1))) (qc 38 ah<|qa 36 aQ<|qa 32 aP<|qa 25 aK<|qb 24 aN<|q0) [] [] (iX _ _ _ _ _ _ _ _) (gY n aG aF aH aI aA m aC (!aB) (IntKind.i64.wrap (aJ + 1)) r h)
  have aM:=nY aL aA aC aB aD aE _ aX
  rw [aU] at aM
  obtain ⟨an,aY,h⟩:=dQ h
  rcases cn h with ⟨aV,ai,h⟩ | ⟨aV,ai,h⟩
  rotate_left
  ·have aO:=nX aL aA aC aB aD aE _ aY
   rw [aV] at aO
   have aj : evF PP T n 0 83 [(.agg [(iv aD.X),(iv aD.Y)]),(.agg [(iv aE.X),(iv aE.Y)]),(.ptr 0 1 0 0),(.ptr 1 1 0 0),(.ptr 2 1 0 0)] (hp75 aA aC aB)=some ((.tup []),(hp80 aA aC aB aD aE)):=by
    rw [aR]; exact iT F83 (qp aO<|qp aM<|qa 11 aT<|q0) [(.normal,eY aA aC aB aD aE false),(.normal,gB aA aC aB aD aE false)] []
   exact nx_q (gM aG aF aH aI aA aC aB (IntKind.i64.wrap (aJ + 1))) (qc 38 aj<|qa 36 aQ<|qa 32 aP<|qa 25 aK<|qb 24 aN<|q0) [] [] (iX _ _ _ _ _ _ _ _) (gY n aG aF aH aI aA m aC aB (IntKind.i64.wrap (aJ + 1)) r h)
  have aO:=nX aL aA aC aB aD aE _ aY
  rw [aV] at aO
  have ak : evF PP T n 0 83 [(.agg [(iv aD.X),(iv aD.Y)]),(.agg [(iv aE.X),(iv aE.Y)]),(.ptr 0 1 0 0),(.ptr 1 1 0 0),(.ptr 2 1 0 0)] (hp75 aA aC aB)=some ((.tup []),(hp78 aA aC aB aD aE)):=by
   rw [aR]; exact iT F83 (qp aO<|qp aM<|qa 11 aT<|q0) [(.normal,eY aA aC aB aD aE false),(.normal,gB aA aC aB aD aE true)] [none]
  exact nx_q (gM aG aF aH aI aA aC (!aB) (IntKind.i64.wrap (aJ + 1))) (qc 38 ak<|qa 36 aQ<|qa 32 aP<|qa 25 aK<|qb 24 aN<|q0) [] [] (iX _ _ _ _ _ _ _ _) (gY n aG aF aH aI aA m aC (!aB) (IntKind.i64.wrap (aJ + 1)) r h)
abbrev hp81 (aA : GPoint) (aB : (Bool × Bool)) : Heap:=[(.blk 2 [[(iv aA.X),(iv aA.Y)]]),(.blk 1 [[(bv aB.1)]]),(.blk 1 [[(bv aB.2)]])]
def vV (aC : (List (Int × (List GPoint)))) (aA : (List Int)) (aD : Int) (aB : GPoint) (aE : Bool) (aF : Bool) : St:=⟨sp 40 [(0,(.rmp (entL dX eX aC))),(2,(.fn 83 [(.ptr 0 1 0 0),(.ptr 1 1 0 0),(.ptr 2 1 0 0)])),(8,(.lit nilS)),(9,(iv 1)),(10,(.vw (List.map dS aA))),(11,(iv ((aA.length : Nat) : Int))),(12,(iv aD))],[(.blk 2 [[(iv aB.X),(iv aB.Y)]]),(.blk 1 [[(bv aE)]]),(.blk 1 [[(bv aF)]])]⟩
def jN (aC : (List (Int × (List GPoint)))) (aA : (List Int)) (aD : Int) (aB : GPoint) (aE : Bool) (aF : Bool) : St:=⟨sp 40 [(0,(.rmp (entL dX eX aC))),(2,(.fn 83 [(.ptr 0 1 0 0),(.ptr 1 1 0 0),(.ptr 2 1 0 0)])),(10,(.vw (List.map dS aA))),(11,(iv ((aA.length : Nat) : Int))),(12,(iv aD))],[(.blk 2 [[(iv aB.X),(iv aB.Y)]]),(.blk 1 [[(bv aE)]]),(.blk 1 [[(bv aF)]])]⟩
def iY (n : Nat) (aA : (List (Int × (List GPoint)))) (aB : (List Int)) (aC : Int) (aD : GPoint) (aE : Bool) (aF : Bool) : Nat→Option Unit
 | 0=>none
 | m + 1=>(some ())
theorem vG (n : Nat) (aA : (List (Int × (List GPoint)))) (aB : (List Int)) (aC : Int) (aD : GPoint) (aE : Bool) (aF : Bool) : ∀ (m : Nat) (r : Unit),iY n aA aB aC aD aE aF m=some r→eT lv60 [] true 0 3 (eG (eO (some lv61) true 0 3) (evC PP (evF PP T n) n 0 bE4) m (vV aA aB aC aD aE aF))=some ((.exit 2),jN aA aB aC aD aE aF)
 | 0,_,h=>by cases h
 | m + 1,r,h=>by
  rw [iY] at h
  obtain rfl:=si h
  exact eQ (some lv61) true (jN aA aB aC aD aE aF) q0 [] [] (by exact (clo rfl (clo rfl (clo rfl rfl))))
def gS (n : Nat) (aC : (List (Int × (List GPoint)))) (aA : (List Int)) (aD : GPoint) : Nat→Bool→Bool→Int→Option (Bool × Bool)
 | 0,_,_,_=>none
 | m + 1,aE,aF,aB=>(cnd (decide (aB < ((aA.length : Nat) : Int))) (bnd (idx aA aB) fun aG=>(cnd (Option.isSome (mget aC (imax aG (IntKind.i64.wrap (0 - aG))))) (bnd (eU n aC aG aA aB aD n aE aF 1) fun aH=>(gS n aC aA aD m aH.1 aH.2 (IntKind.i64.wrap (aB + 1)))) (bnd (iY n aC aA aB aD aE aF n) fun aI=>(gS n aC aA aD m aE aF (IntKind.i64.wrap (aB + 1)))))) (some (aE,aF)))
theorem kF (n : Nat) (aD : (List (Int × (List GPoint)))) (aE : (List Int)) (aA : GPoint) : ∀ (m : Nat) (aB : Bool) (aC : Bool) (aG : Int) (r : (Bool × Bool)),gS n aD aE aA m aB aC aG=some r→eT [] [] true 0 3 (eG (eO (some lv60) true 0 3) (evC PP (evF PP T n) n 0 bG4) m (iZ aD aE aA aB aC aG))=some ((.exit 0),kG aD aE aA r.1 r.2)
 | 0,_,_,_,_,h=>by cases h
 | m + 1,aB,aC,aG,r,h=>by
  rw [gS] at h
  rcases cn h with ⟨aM,aI,h⟩ | ⟨aM,aI,h⟩
  rotate_left
  ·obtain rfl:=si h
   exact eQ (some lv60) true (kG aD aE aA aB aC) (qa 13 aI<|q0) [] [] (by exact (clo rfl (clo rfl (clo rfl rfl))))
  obtain ⟨aF,aN,h⟩:=dQ h
  have aK:=idxv (H:=(hp75 aA aB aC)) (c:=dS) aN (iD _)
  have aL:=aKq (P:=PP) (cf:=evF PP T n) (fl:=0) (H:=(hp75 aA aB aC)) (a:=aF) (b:=(IntKind.i64.wrap (0 - aF)))
  rcases cn h with ⟨aJ,aO,h⟩ | ⟨aJ,aO,h⟩
  rotate_left
  ·have aP:=bDo (P:=PP) (cf:=evF PP T n) (fl:=0) (H:=(hp75 aA aB aC)) (kv:=dX) (va:=eX) (m:=aD) (k:=(imax aF (IntKind.i64.wrap (0 - aF)))) (x:=(iv (imax aF (IntKind.i64.wrap (0 - aF))))) lG (.lit nilS) rfl aJ
   have aQ : eS true 0 3 [(.blk 2 [[(iv aA.X),(iv aA.Y)]]),(.blk 1 [[(bv aB)]]),(.blk 1 [[(bv aC)]])]:=(by exact (clo rfl (clo rfl (clo rfl rfl))))
   obtain ⟨aX,aR,h⟩:=dQ h
   have aS:=vG n aD aE aG aA aB aC n _ aR
   exact nx_q (iZ aD aE aA aB aC (IntKind.i64.wrap (aG + 1))) (qp aS<|qp aQ<|qb 21 aP<|qb 20 aL<|qa 14 aK<|qa 13 aI<|q0) [((.exit 2),jN aD aE aG aA aB aC)] [] (oU _ _ _ _ _ _) (kF n aD aE aA m aB aC (IntKind.i64.wrap (aG + 1)) r h)
  have aT:=aWa (P:=PP) (cf:=evF PP T n) (fl:=0) (H:=(hp75 aA aB aC)) (kv:=dX) (va:=eX) (m:=aD) (k:=(imax aF (IntKind.i64.wrap (0 - aF)))) (x:=(iv (imax aF (IntKind.i64.wrap (0 - aF))))) lG [] (.lit nilS) rfl aJ
  have aU : eS true 0 3 [(.blk 2 [[(iv aA.X),(iv aA.Y)]]),(.blk 1 [[(bv aB)]]),(.blk 1 [[(bv aC)]])]:=(by exact (clo rfl (clo rfl (clo rfl rfl))))
  obtain ⟨aH,aV,h⟩:=dQ h
  have aW:=gY n aD aF aE aG aA n aB aC 1 _ aV
  exact nx_q (iZ aD aE aA aH.1 aH.2 (IntKind.i64.wrap (aG + 1))) (qp aW<|qp aU<|qb 21 aT<|qb 20 aL<|qa 14 aK<|qa 13 aI<|q0) [((.exit 2),kE aD aF aE aG aA aH.1 aH.2)] [] (oU _ _ _ _ _ _) (kF n aD aE aA m aH.1 aH.2 (IntKind.i64.wrap (aG + 1)) r h)
def kM : Nat→(List (Int × (List GPoint)))→(List Int)→GPoint→Option Bool
 | 0,_,_,_=>none
 | n + 1,aC,aD,aE=>(bnd (prd n) fun aA=>(bnd (gS aA aC aD aE aA false false 0) fun aB=>(cnd (aB.2) (some (!aB.1)) (some false))))
theorem kS (n : Nat) (aC : (List (Int × (List GPoint)))) (aB : (List Int)) (aA : GPoint) (r : Bool) (h : kM n aC aB aA=some r) : pv PP T n 60 [(.rmp (entL dX eX aC)),(.vw (List.map dS aB)),(.agg (dW aA))]=some (bv r):=by
 cases n with
 | zero=>cases h
 | succ n =>
  rw [kM] at h
  obtain ⟨aE,aH,h⟩:=dQ h
  have aI:=pQ aH
  have aJ:=iM (P:=PP) (cf:=evF PP T aE) (fl:=0) (H:=(hp74 aA)) (c:=dS) (l:=aB)
  have aK : eS true 0 3 [(.blk 2 [[(iv aA.X),(iv aA.Y)]]),(.blk 1 [[bf]]),(.blk 1 [[bf]])]:=(by exact (clo rfl (clo rfl (clo rfl rfl))))
  obtain ⟨aD,aL,h⟩:=dQ h
  have aM:=kF aE aC aB aA aE false false 0 _ aL
  have aG : evF PP T n 0 84 [(.rmp (entL dX eX aC)),(.vw (List.map dS aB)),(.fn 83 [(.ptr 0 1 0 0),(.ptr 1 1 0 0),(.ptr 2 1 0 0)])] (hp74 aA)=some ((.tup []),(hp81 aA aD)):=by
   rw [aI]; exact iT F84 (qp aM<|qp aK<|qb 11 aJ<|q0) [((.exit 0),kG aC aB aA aD.1 aD.2)] []
  rcases cn h with ⟨aF,aN,h⟩ | ⟨aF,aN,h⟩
  ·have aO:=bFx (P:=PP) (cf:=evF PP T n) (fl:=0) (H:=(hp81 aA aD)) (tm:=[(.rmp (entL dX eX aC)),(.vw (List.map dS aB)),(.agg [(iv aA.X),(iv aA.Y)]),V,V,(.ptr 0 1 0 0),bf,(.ptr 1 1 0 0),(.ptr 2 1 0 0),(.rmp (entL dX eX aC)),(.vw (List.map dS aB)),(.fn 83 [(.ptr 0 1 0 0),(.ptr 1 1 0 0),(.ptr 2 1 0 0)]),(.tup []),(bv aD.2),V,V,V,V]) (x:=.tmp 13) rfl aF
   obtain rfl:=si h
   exact pv_q F60 (qb 14 aO<|qc 12 aG<|q0) [] [none,none]
  have aP:=bFx (P:=PP) (cf:=evF PP T n) (fl:=0) (H:=(hp81 aA aD)) (tm:=[(.rmp (entL dX eX aC)),(.vw (List.map dS aB)),(.agg [(iv aA.X),(iv aA.Y)]),V,V,(.ptr 0 1 0 0),bf,(.ptr 1 1 0 0),(.ptr 2 1 0 0),(.rmp (entL dX eX aC)),(.vw (List.map dS aB)),(.fn 83 [(.ptr 0 1 0 0),(.ptr 1 1 0 0),(.ptr 2 1 0 0)]),(.tup []),(bv aD.2),V,V,V,V]) (x:=.tmp 13) rfl aF
  obtain rfl:=si h
  exact pv_q F60 (qb 14 aP<|qc 12 aG<|q0) [] [none,none]
def qG (aB : (List (Int × (List GPoint)))) (aC : (List GareaV)) (aA : GPoint) (aD : Int) (aE : Int) : St:=⟨sp 42 [(0,(.rmp (entL dX eX aB))),(1,(.vw (List.map vU aC))),(5,(.ptr 0 1 0 0)),(7,(iv aD)),(8,(iv aE))],[(.blk 2 [[(iv aA.X),(iv aA.Y)]])]⟩
def pB (aC : (List (Int × (List GPoint)))) (aD : (List GareaV)) (aA : GPoint) (aB : Int) : St:=⟨sp 42 [(7,(iv aB))],[(.blk 2 [[(iv aA.X),(iv aA.Y)]])]⟩
def aDh (aB : (List (Int × (List GPoint)))) (aC : (List GareaV)) (aD : Int) (aE : Int) (aA : GPoint) : St:=⟨sp 42 [(0,(.rmp (entL dX eX aB))),(1,(.vw (List.map vU aC))),(5,(.ptr 0 1 0 0)),(7,(iv aD)),(8,(iv aE))],[(.blk 2 [[(iv aA.X),(iv aA.Y)]])]⟩
def gP (aB : (List (Int × (List GPoint)))) (aC : (List GareaV)) (aD : Int) (aE : Int) (aA : GPoint) (aF : Bool) : St:=⟨sp 42 [(0,(.rmp (entL dX eX aB))),(1,(.vw (List.map vU aC))),(5,(.ptr 0 1 0 0)),(7,(iv aD)),(8,(iv aE)),(39,(bv aF))],[(.blk 2 [[(iv aA.X),(iv aA.Y)]])]⟩
def nQ (n : Nat) (aB : (List (Int × (List GPoint)))) (aA : (List GareaV)) (aC : Int) (aD : Int) (aE : GPoint) : Option Bool:=(cnd (aC == 0) (bnd (idx aA aD) fun aG=>(bnd (kM n aB aG.outer aE) fun aH=>(cnd (aH) (some true) (some false)))) (bnd (idx aA aD) fun aF=>(bnd (idx aA aC) fun aI=>(cnd (decide (aF.twice < aI.twice)) (bnd (kM n aB aF.outer aE) fun aJ=>(cnd (aJ) (some true) (some false))) (some false)))))
theorem vF (n : Nat) (aB : (List (Int × (List GPoint)))) (aC : (List GareaV)) (aD : Int) (aE : Int) (aA : GPoint) (r : Bool) (h : nQ n aB aC aD aE aA=some r) : eT lv66 lv18 false 0 1 (evC PP (evF PP T n) n 0 bH1 (aDh aB aC aD aE aA))=some (.normal,gP aB aC aD aE aA r):=by
 unfold nQ at h
 rcases cn h with ⟨aS,aF,h⟩ | ⟨aS,aF,h⟩
 ·obtain ⟨aL,aT,h⟩:=dQ h
  have aM:=idxv (H:=[(.blk 2 [[(iv aA.X),(iv aA.Y)]])]) (c:=vU) aT (aA9 _)
  obtain ⟨ac,aN,h⟩:=dQ h
  rcases cn h with ⟨aH,aU,h⟩ | ⟨aH,aU,h⟩
  ·have aV:=by have q:=kS n aB aL.outer aA _ aN; rw [aH] at q; exact q
   obtain rfl:=si h
   exact dY (gP aB aC aD aE aA true) (qa 38 aV<|qa 34 aM<|qa 16 aF<|q0) [] []
  have aW:=by have q:=kS n aB aL.outer aA _ aN; rw [aH] at q; exact q
  obtain rfl:=si h
  exact dY (gP aB aC aD aE aA false) (qa 38 aW<|qa 34 aM<|qa 16 aF<|q0) [] []
 obtain ⟨aO,aP,h⟩:=dQ h
 have aI:=idxv (H:=[(.blk 2 [[(iv aA.X),(iv aA.Y)]])]) (c:=vU) aP (aA9 _)
 obtain ⟨ad,aX,h⟩:=dQ h
 have aJ:=idxv (H:=[(.blk 2 [[(iv aA.X),(iv aA.Y)]])]) (c:=vU) aX (aA9 _)
 rcases cn h with ⟨aY,aG,h⟩ | ⟨aY,aG,h⟩
 rotate_left
 ·obtain rfl:=si h
  exact dY (gP aB aC aD aE aA false) (qa 28 aG<|qa 25 aJ<|qa 20 aI<|qa 16 aF<|q0) [] []
 have aQ:=idxv (H:=[(.blk 2 [[(iv aA.X),(iv aA.Y)]])]) (c:=vU) aP (aA9 _)
 obtain ⟨ae,aR,h⟩:=dQ h
 rcases cn h with ⟨aK,aZ,h⟩ | ⟨aK,aZ,h⟩
 ·have aa:=by have q:=kS n aB aO.outer aA _ aR; rw [aK] at q; exact q
  obtain rfl:=si h
  exact dY (gP aB aC aD aE aA true) (qa 38 aa<|qa 34 aQ<|qa 28 aG<|qa 25 aJ<|qa 20 aI<|qa 16 aF<|q0) [] []
 have ab:=by have q:=kS n aB aO.outer aA _ aR; rw [aK] at q; exact q
 obtain rfl:=si h
 exact dY (gP aB aC aD aE aA false) (qa 38 ab<|qa 34 aQ<|qa 28 aG<|qa 25 aJ<|qa 20 aI<|qa 16 aF<|q0) [] []
def jS (n : Nat) (aC : (List (Int × (List GPoint)))) (aB : (List GareaV)) (aD : GPoint) : Nat→Int→Int→Option Int
 | 0,_,_=>none
 | m + 1,aE,aA=>(cnd (decide (aA < ((aB.length : Nat) : Int))) (bnd (nQ n aC aB aE aA aD) fun aF=>(cnd (aF) (jS n aC aB aD m aA (IntKind.i64.wrap (aA + 1))) (jS n aC aB aD m aE (IntKind.i64.wrap (aA + 1))))) (some aE))
theorem pA (n : Nat) (aD : (List (Int × (List GPoint)))) (aB : (List GareaV)) (aA : GPoint) : ∀ (m : Nat) (aE : Int) (aC : Int) (r : Int),jS n aD aB aA m aE aC=some r→eT lv65 lv18 false 0 1 (eG (eO (some lv64) false 0 1) (evC PP (evF PP T n) n 0 bH2) m (qG aD aB aA aE aC))=some ((.exit 0),pB aD aB aA r)
 | 0,_,_,_,h=>by cases h
 | m + 1,aE,aC,r,h=>by
  rw [jS] at h
  have aH:=iM (P:=PP) (cf:=evF PP T n) (fl:=0) (H:=[(.blk 2 [[(iv aA.X),(iv aA.Y)]])]) (c:=vU) (l:=aB)
  rcases cn h with ⟨aK,aG,h⟩ | ⟨aK,aG,h⟩
  rotate_left
  ·obtain rfl:=si h
   exact eQ (some lv64) false (pB aD aB aA aE) (qa 12 aG<|qb 11 aH<|q0) [] [] trivial
  obtain ⟨aM,aJ,h⟩:=dQ h
  rcases cn h with ⟨aI,aL,h⟩ | ⟨aI,aL,h⟩
  ·have aF:=vF n aD aB aE aC aA _ aJ
   rw [aI] at aF
   exact nx_q (qG aD aB aA aC (IntKind.i64.wrap (aC + 1))) (qp aF<|qa 12 aG<|qb 11 aH<|q0) [(.normal,gP aD aB aE aC aA true)] [] trivial (pA n aD aB aA m aC (IntKind.i64.wrap (aC + 1)) r h)
  have aF:=vF n aD aB aE aC aA _ aJ
  rw [aI] at aF
  exact nx_q (qG aD aB aA aE (IntKind.i64.wrap (aC + 1))) (qp aF<|qa 12 aG<|qb 11 aH<|q0) [(.normal,gP aD aB aE aC aA false)] [] trivial (pA n aD aB aA m aE (IntKind.i64.wrap (aC + 1)) r h)
def nW : Nat→(List (Int × (List GPoint)))→(List GareaV)→GPoint→Option Int
 | 0,_,_,_=>none
 | n + 1,aA,aB,aC=>(bnd (jS n aA aB aC n 0 1) fun aD=>(some aD))
theorem zA (n : Nat) (aB : (List (Int × (List GPoint)))) (aC : (List GareaV)) (aA : GPoint) (r : Int) (h : nW n aB aC aA=some r) : pv PP T n 39 [(.rmp (entL dX eX aB)),(.vw (List.map vU aC)),(.agg (dW aA))]=some (iv r):=by
 cases n with
 | zero=>cases h
 | succ n =>
  rw [nW] at h
  have aD : eS false 0 1 [(.blk 2 [[(iv aA.X),(iv aA.Y)]])]:=trivial
  obtain ⟨aE,aF,h⟩:=dQ h
  have aG:=pA n aB aC aA n 0 1 _ aF
  obtain rfl:=si h
  exact pv_q F39 (qp aG<|qp aD<|q0) [((.exit 0),pB aB aC aA aE)] []
def tZ (aB : Int) (aA : GPlan) (aC : Int) (aD : Int) : St:=⟨sp 28 [(1,(iv aB)),(4,(iv aD)),(8,(.vw (List.map dR aA.Arcs))),(9,(iv ((aA.Arcs.length : Nat) : Int))),(10,(iv aC))],[(.blk 3 [[(.vw (List.map dP aA.Nodes)),(.vw (List.map dR aA.Arcs)),(.vw (List.map dS aA.Faces))]])]⟩
theorem aC8 (aA : Int) (aB : GPlan) (aC : Int) (aD : Int) : eS true 0 1 (tZ aA aB aC aD).heap:=(by exact (clo rfl rfl))
def xC (aC : Int) (aA : GPlan) (aB : Int) : St:=⟨sp 28 [(4,(iv aB))],[(.blk 3 [[(.vw (List.map dP aA.Nodes)),(.vw (List.map dR aA.Arcs)),(.vw (List.map dS aA.Faces))]])]⟩
def aJg (aB : Int) (aC : Int) (aA : GPlan) (aD : Int) (aE : GArc) : St:=⟨sp 28 [(1,(iv aB)),(4,(iv aC)),(6,(.ptr 1 1 0 0)),(8,(.vw (List.map dR aA.Arcs))),(9,(iv ((aA.Arcs.length : Nat) : Int))),(10,(iv aD))],[(.blk 3 [[(.vw (List.map dP aA.Nodes)),(.vw (List.map dR aA.Arcs)),(.vw (List.map dS aA.Faces))]]),(.blk 6 [(dR aE)])]⟩
def oQ (aB : Int) (aF : Int) (aA : GPlan) (aC : Int) (aD : GArc) (aE : Int) : St:=⟨sp 28 [(1,(iv aB)),(4,(iv aE)),(6,(.ptr 1 1 0 0)),(8,(.vw (List.map dR aA.Arcs))),(9,(iv ((aA.Arcs.length : Nat) : Int))),(10,(iv aC))],[(.blk 3 [[(.vw (List.map dP aA.Nodes)),(.vw (List.map dR aA.Arcs)),(.vw (List.map dS aA.Faces))]]),(.blk 6 [(dR aD)])]⟩
def aBk (n : Nat) (aB : Int) (aA : Int) (aD : GPlan) (aE : Int) (aC : GArc) : Option Int:=(cnd (aC.From == aB) (some (IntKind.i64.wrap (aA + 1))) (some aA))
theorem aH0 (n : Nat) (aB : Int) (aA : Int) (aC : GPlan) (aD : Int) (aE : GArc) (r : Int) (h : aBk n aB aA aC aD aE=some r) : eT lv68 lv4 false 0 2 (evC PP (evF PP T n) n 0 bHz (aJg aB aA aC aD aE))=some (.normal,oQ aB aA aC aD aE r):=by
 unfold aBk at h
 rcases cn h with ⟨aG,aF,h⟩ | ⟨aG,aF,h⟩
 rotate_left
 ·obtain rfl:=si h
  exact dY (oQ aB aA aC aD aE aA) (qa 17 aF<|q0) [] []
 obtain rfl:=si h
 exact dY (oQ aB aA aC aD aE (IntKind.i64.wrap (aA + 1))) (qa 17 aF<|q0) [] []
def pY (n : Nat) (aC : Int) (aA : GPlan) : Nat→Int→Int→Option Int
 | 0,_,_=>none
 | m + 1,aB,aD=>(cnd (decide (aB < ((aA.Arcs.length : Nat) : Int))) (bnd (idx aA.Arcs aB) fun aE=>(bnd (aBk n aC aD aA aB aE) fun aF=>(cnd (aE.To == aC) (pY n aC aA m (IntKind.i64.wrap (aB + 1)) (IntKind.i64.wrap (aF + 1))) (pY n aC aA m (IntKind.i64.wrap (aB + 1)) aF)))) (some aD))
theorem xB (n : Nat) (aB : Int) (aA : GPlan) : ∀ (m : Nat) (aC : Int) (aD : Int) (r : Int),pY n aB aA m aC aD=some r→eT lv4 lv4 true 0 1 (eG (eO (some lv67) true 0 1) (evC PP (evF PP T n) n 0 bH0) m (tZ aB aA aC aD))=some ((.exit 0),xC aB aA r)
 | 0,_,_,_,h=>by cases h
 | m + 1,aC,aD,r,h=>by
  rw [pY] at h
  rcases cn h with ⟨aK,aF,h⟩ | ⟨aK,aF,h⟩
  rotate_left
  ·obtain rfl:=si h
   exact eQ (some lv67) true (xC aB aA aD) (qa 11 aF<|q0) [] [] (by exact (clo rfl rfl))
  obtain ⟨aG,aL,h⟩:=dQ h
  have aI:=idxv (H:=(hp0 aA)) (c:=dR) aL (lY _)
  obtain ⟨aE,aM,h⟩:=dQ h
  have aJ:=aH0 n aB aD aA aC aG _ aM
  rcases cn h with ⟨aN,aH,h⟩ | ⟨aN,aH,h⟩
  rotate_left
  ·exact nx_q (tZ aB aA (IntKind.i64.wrap (aC + 1)) aE) (qa 23 aH<|qp aJ<|qa 12 aI<|qa 11 aF<|q0) [(.normal,oQ aB aD aA aC aG aE)] [none] (aC8 _ _ _ _) (xB n aB aA m (IntKind.i64.wrap (aC + 1)) aE r h)
  exact nx_q (tZ aB aA (IntKind.i64.wrap (aC + 1)) (IntKind.i64.wrap (aE + 1))) (qa 23 aH<|qp aJ<|qa 12 aI<|qa 11 aF<|q0) [(.normal,oQ aB aD aA aC aG aE)] [none] (aC8 _ _ _ _) (xB n aB aA m (IntKind.i64.wrap (aC + 1)) (IntKind.i64.wrap (aE + 1)) r h)
def xD : Nat→GPlan→Int→Option Int
 | 0,_,_=>none
 | n + 1,aA,aB=>(bnd (pY n aB aA n 0 0) fun aC=>(some aC))
theorem aFg (n : Nat) (aA : GPlan) (aB : Int) (r : Int) (h : xD n aA aB=some r) : pv PP T n 40 [(kU aA),(iv aB)]=some (iv r):=by
 cases n with
 | zero=>cases h
 | succ n =>
  rw [xD] at h
  have aC:=iM (P:=PP) (cf:=evF PP T n) (fl:=0) (H:=(hp0 aA)) (c:=dR) (l:=aA.Arcs)
  have aD : eS true 0 1 [(.blk 3 [[(.vw (List.map dP aA.Nodes)),(.vw (List.map dR aA.Arcs)),(.vw (List.map dS aA.Faces))]])]:=(by exact (clo rfl rfl))
  obtain ⟨aE,aF,h⟩:=dQ h
  have aG:=xB n aB aA n 0 0 _ aF
  obtain rfl:=si h
  exact pv_q F40 (qp aG<|qp aD<|qb 9 aC<|q0) [((.exit 0),xC aB aA aE)] []
def aBt : Nat→GPlan→Int→Option Int
 | 0,_,_=>none
 | n + 1,aC,aB=>(bnd (aBs n aC aB) fun aA=>(cnd (aA.2) (cnd (decide (aB > 0)) (some aA.1.Left) (some aA.1.Right)) (some 0)))
theorem aDo (n : Nat) (aA : GPlan) (aB : Int) (r : Int) (h : aBt n aA aB=some r) : pv PP T n 41 [(kU aA),(iv aB)]=some (iv r):=by
 cases n with
 | zero=>cases h
 | succ n =>
  rw [aBt] at h
  obtain ⟨aJ,aE,h⟩:=dQ h
  rcases cn h with ⟨aC,aG,h⟩ | ⟨aC,aG,h⟩
  rotate_left
  ·have aH:=by have q:=zL n aA aB _ aE; rw [aC] at q; exact q
   obtain rfl:=si h
   exact pv_q F41 (qa 10 aH<|q0) [] [none]
  have aF:=by have q:=zL n aA aB _ aE; rw [aC] at q; exact q
  rcases cn h with ⟨aI,aD,h⟩ | ⟨aI,aD,h⟩
  ·obtain rfl:=si h
   exact pv_q F41 (qa 18 aD<|qa 10 aF<|q0) [] [none]
  obtain rfl:=si h
  exact pv_q F41 (qa 18 aD<|qa 10 aF<|q0) [] [none]
abbrev hp82 (aA : Garea) : Heap:=[(.blk 4 [(gO aA)]),(.blk 1 (List.map eR [])),(.blk 1 [[(.sl false (List.map dS aA.outer))]])]
abbrev hp83 (aA : Garea) (aB : (List (List Int))) : Heap:=[(.blk 4 [(gO aA)]),(.blk 1 (List.map eR [])),(.blk 1 (List.map eR aB))]
def mV : Nat→Garea→Option (List (List Int))
 | 0,_=>none
 | n + 1,aA=>(bnd (app [aA.outer] aA.inner) fun aB=>(some aB))
theorem xX (n : Nat) (aB : Garea) (r : (List (List Int))) (h : mV n aB=some r) : pv PP T n 42 [(.agg (gO aB))]=some (.sl false (List.map eR r)):=by
 cases n with
 | zero=>cases h
 | succ n =>
  rw [mV] at h
  obtain ⟨aA,aC,h⟩:=dQ h
  have aD:=yN (fl:=0) (H:=(hp82 aB)) (id:=2) (s:=1) (bytes:=24) (c:=eR) (l:=[aB.outer]) aC rfl pZ (by omega) (by omega) (by omega)
  obtain rfl:=si h
  refine aFd (iT F42 (qc 8 aD<|q0) [] [] (r:=(.ms 2 aA.length 0 aA.length)) (H':=(hp83 aB aA))) ?_
  show (jX (hp83 aB aA) 0 (.ms 2 aA.length 0 aA.length))=_
  rw [aAx (H:=(hp83 aB aA)) (id:=2) (s:=1) (c:=eR) (l:=aA) rfl (aGg _ _ _)]
  first | done | rfl
abbrev hp84 (aA : GPlan) : Heap:=[(.blk 3 [[(.vw (List.map dP aA.Nodes)),(.vw (List.map dR aA.Arcs)),(.vw (List.map dS aA.Faces))]]),(.blk 1 (List.map dS [])),(.mp (entL dX gN ([] : List (Int × Bool))))]
def arV (a : Garea) : GareaV:=⟨a.twice,a.outer,!a.inner.isEmpty,!a.alone.isEmpty⟩
def dv1 (n : Nat) (p : GPlan) : List (List Int)→List Garea→List (List Int)→Option (List Garea × List (List Int))
 | [],l,q=>some (l,q)
 | c :: cs,l,q=>bnd (aEl n p c) fun t=>cnd (decide (t > 0)) (bnd (grd (!c.isEmpty)) fun _=>dv1 n p cs (l++[⟨t,c,[],[]⟩]) q) (dv1 n p cs l (q++[c]))
def dv2 (n : Nat) (m : List (Int × List GPoint)) : List (List Int)→List Garea→Option (List Garea)
 | [],l=>some l
 | c :: cs,l=>bnd (idx c 0) fun d=>bnd (mget m (imax d (IntKind.i64.wrap (0 - d)))) fun w=>bnd (idx w 0) fun at_=>bnd (nW n m (l.map arV) at_) fun i=>bnd (idx l i) fun a =>
  dv2 n m cs (l.set i.toNat ⟨a.twice,a.outer,a.inner++[c],a.alone⟩)
def dv3 (n : Nat) (p : GPlan) (m : List (Int × List GPoint)) : List GNode→List Garea→Option (List Garea)
 | [],l=>some l
 | x :: xs,l=>bnd (xD n p x.ID) fun d=>cnd (d == 0)
  (bnd (nW n m (l.map arV) x.At) fun i=>bnd (idx l i) fun a=>dv3 n p m xs (l.set i.toNat ⟨a.twice,a.outer,a.inner,a.alone++[x.ID]⟩))
  (dv3 n p m xs l)
def zN : Nat→GPlan→List (List Int)→List (Int × List GPoint)→Option (List Garea)
 | 0,_,_,_=>none
 | n + 1,p,cs,m=>bnd (grd (decide (cs.length < n∧p.Nodes.length < n∧cs.length ≤ 100000∧p.Nodes.length ≤ 100000))) fun _=>bnd (dv1 n p cs [⟨0,[],[],[]⟩] []) fun q=>bnd (dv2 n m q.2 q.1) fun l=>dv3 n p m p.Nodes l
def ouC : List Int→AV
 | []=>.lit nilS
 | x :: l=>.sl false ((x :: l).map dS)
theorem bDy : ∀ l,toP (ouC l)=.sl false (l.map dS)
 | []=>rfl
 | _ :: _=>rfl
theorem aZ6 (H : Heap) (n d : Nat) : ∀ l,lD H n d (ouC l)=.sl false (l.map dS)
 | []=>by cases d <;> rfl
 | _ :: _=>by cases d <;> rfl
def ar0 (a : Garea) : List AV:=[iv a.twice,ouC a.outer,.lit nilS,.lit nilS]
theorem bE1 : ∀ a,(ar0 a).length=4:=fun _=>rfl
theorem aY4 (n : Nat) : ∀ x,(ar0 x).map (aA7 n)=ar0 x:=by rintro ⟨t,o,i,a⟩; cases o <;> rfl
abbrev dvP (p : GPlan) : AObj:=.blk 3 [[.vw (p.Nodes.map dP),.vw (p.Arcs.map dR),.vw (p.Faces.map dS)]]
abbrev dvH0 (p : GPlan) (l : List Garea) (q : List (List Int)) : Heap:=[dvP p,.blk 4 (l.map ar0),.blk 1 (q.map eR)]
def dvS0 (p : GPlan) (cs : List (List Int)) (m : List (Int × List GPoint)) (l : List Garea) (q : List (List Int)) (i : Int) : St:=⟨sp 110 [(2,.rmp (entL dX eX m)),(3,.ptr 0 1 0 0),(7,.ms 1 l.length 0 l.length),(8,.ms 2 q.length 0 q.length),(21,.vw (cs.map eR)),(22,iv (cs.length : Nat)),(23,iv i)],dvH0 p l q⟩
def dvE0 (p : GPlan) (m : List (Int × List GPoint)) (l : List Garea) (q : List (List Int)) : St:=⟨sp 110 [(2,.rmp (entL dX eX m)),(3,.ptr 0 1 0 0),(7,.ms 1 l.length 0 l.length),(8,.ms 2 q.length 0 q.length)],dvH0 p l q⟩
abbrev dvX0 : List Bool:=[false,false,true,true,false,false,false,true,true]
abbrev dvX1 : List Bool:=[false,false,true,true,false,false,false,true]
abbrev dvR : List Bool:=[false,false,false,false,false,false,true]
abbrev dvV0 : List Bool:=[false,false,true,true,false,false,false,true,true,false,false,false,false,false,false,false,false,false,false,false,false,true,true,true]
theorem bA4 (p : GPlan) (l : List Garea) (q : List (List Int)) : eS true 0 3 (dvH0 p l q):=clo rfl (clo (hU (aY4 3)) (clo (hU (rC 3)) rfl))
theorem aLk {α : Type} {l r : List α} {i : Nat} {x : α} (h : l.drop i=x :: r) : l[i]? = some x∧l.drop (i + 1)=r∧i < l.length:=by
 have h1 : (l.drop i)[0]? = some x:=by rw [h]; rfl
 rw [List.getElem?_drop,Nat.add_zero] at h1
 refine ⟨h1,?_,(List.getElem?_eq_some_iff.1 h1).1⟩
 have : l.drop (i + 1)=(l.drop i).drop 1:=by rw [List.drop_drop]
 rw [this,h]; rfl
theorem eW {i : Nat} (h : i < 1000000) : IntKind.i64.wrap ((i : Int) + 1)=((i + 1 : Nat) : Int):=by rw [i64_in _ (by omega)]; push_cast; rfl
theorem bEq (n : Nat) (p : GPlan) (cs : List (List Int)) (m : List (Int × List GPoint)) (hb : cs.length ≤ 100000) : ∀ (todo : List (List Int)) (k i : Nat) (l : List Garea) (q : List (List Int)) (r : List Garea × List (List Int)),cs.drop i=todo→todo.length < k→dv1 n p todo l q=some r→l.length + todo.length ≤ 200000→q.length + todo.length ≤ 200000 →
  eT dvX0 dvR true 0 3 (eG (eO (some dvV0) true 0 3) (evC PP (evF PP T n) n 0 bIe) k (dvS0 p cs m l q (i : Nat)))=some (.exit 0,dvE0 p m r.1 r.2)
 | todo,0,_,_,_,_,_,h,_,_,_=>by omega
 | [],k + 1,i,l,q,r,hd,_,h,_,_=>by
  have hi : cs.length ≤ i:=by
   have:=congrArg List.length hd
   rw [List.length_drop,List.length_nil] at this; omega
  cases h
  have b1 : decide (((i : Nat) : Int) < ((cs.length : Nat) : Int))=false:=decide_eq_false (by omega)
  exact eQ (some dvV0) true (dvE0 p m l q) (qa 24 (yX b1)<|q0) [] [] (bA4 p l q)
 | c :: todo,k + 1,i,l,q,r,hd,hk,h,hl,hq=>by
  obtain ⟨h1,h2,h3⟩:=aLk hd
  simp only [List.length_cons] at hk hl hq
  have b1 : decide (((i : Nat) : Int) < ((cs.length : Nat) : Int))=true:=decide_eq_true (by omega)
  have e1 : idx cs ((i : Nat) : Int)=some c:=by rw [nM]; exact h1
  have aC:=idxv (H:=dvH0 p l q) (c:=eR) e1 (pZ _)
  simp only [dv1] at h
  obtain ⟨t,e2,h⟩:=dQ h
  have aD:=aM6 n p c _ e2
  rcases cn h with ⟨aE,aA,h⟩ | ⟨aE,aA,h⟩
  ·obtain ⟨_,aB,h⟩:=dQ h
   have aB:=aEw aB
   have ih:=bEq n p cs m hb todo k (i + 1) (l++[⟨t,c,[],[]⟩]) q r h2 (by omega) h (by simp; omega) (by omega)
   have ea : app l [(⟨t,c,[],[]⟩ : Garea)]=some (l++[⟨t,c,[],[]⟩]):=aM2 (by simp; omega)
   have aF:=yN (fl:=0) (H:=[dvP p,.blk 4 (l.map ar0),.blk 1 (q.map eR),.blk 4 [ar0 ⟨t,c,[],[]⟩]]) (id:=1) (s:=4) (bytes:=80) (c:=ar0) (l:=l) ea rfl bE1 (by omega) (by omega) (by omega)
   rw [← eW (by omega)] at ih
   cases c with
   | nil=>cases aB
   | cons z c =>
   exact nx_q (dvS0 p cs m (l++[⟨t,z :: c,[],[]⟩]) q (IntKind.i64.wrap ((i : Int) + 1))) (qc 37 aF<|qa 31 aA<|qa 29 aD<|qa 25 aC<|qa 24 (yX b1)<|q0) [] [] (bA4 _ _ _) ih
  ·have ih:=bEq n p cs m hb todo k (i + 1) l (q++[c]) r h2 (by omega) h (by omega) (by simp; omega)
   have ea : app q [c]=some (q++[c]):=aM2 (by simp; omega)
   have aG:=yN (fl:=0) (H:=dvH0 p l q) (id:=2) (s:=1) (bytes:=24) (c:=eR) (l:=q) ea rfl pZ (by omega) (by omega) (by omega)
   rw [← eW (by omega)] at ih
   exact nx_q (dvS0 p cs m l (q++[c]) (IntKind.i64.wrap ((i : Int) + 1))) (qc 41 aG<|qa 31 aA<|qa 29 aD<|qa 25 aC<|qa 24 (yX b1)<|q0) [] [] (bA4 _ _ _) ih
structure RR where
 a : Garea
 x : AV
 y : AV
def cRR (r : RR) : List AV:=[iv r.a.twice,ouC r.a.outer,r.x,r.y]
theorem aY0 : ∀ r,(cRR r).length=4:=fun _=>rfl
def CellOf {α : Type} (c : α→List AV) (H : Heap) (x : AV) (es : List α) : Prop:=(x=.lit nilS∧es=[]) ∨ ∃ k,x=.ms k es.length 0 es.length∧es ≠ []∧3 ≤ k∧H[k]? = some (.blk 1 (es.map c))
def idC : AV→Option Nat
 | .ms k _ _ _=>some k
 | _=>none
def sel (r : RR) (u : Bool) : AV:=match u with
 | true=>r.y
 | false=>r.x
structure DI (H : Heap) (w : List RR) : Prop where
 cx : ∀ (i : Nat) (r : RR),w[i]? = some r→CellOf eR H r.x r.a.inner
 cy : ∀ (i : Nat) (r : RR),w[i]? = some r→CellOf dS H r.y r.a.alone
 ne : ∀ (i j : Nat) (r s : RR) (u v : Bool) (k : Nat),w[i]? = some r→w[j]? = some s→idC (sel r u)=some k→idC (sel s v)=some k→i=j∧u=v
theorem CellOf.id {α : Type} {c : α→List AV} {H : Heap} {x : AV} {es : List α} {k : Nat} (h : CellOf c H x es) (hk : idC x=some k) : 3 ≤ k∧H[k]? = some (.blk 1 (es.map c)):=by
 rcases h with ⟨rfl,_⟩ | ⟨k',rfl,_,h3,hh⟩
 ·cases hk
 ·simp only [idC,Option.some.injEq] at hk; subst hk; exact ⟨h3,hh⟩
theorem CellOf.mono {α : Type} {c : α→List AV} {H H' : Heap} {x : AV} {es : List α} (h : CellOf c H x es) (hk : ∀ k,idC x=some k→H'[k]? = H[k]?) : CellOf c H' x es:=by
 rcases h with ⟨rfl,h⟩ | ⟨k',rfl,hn,h3,hh⟩
 ·exact .inl ⟨rfl,h⟩
 ·exact .inr ⟨k',rfl,hn,h3,by rw [hk k' rfl]; exact hh⟩
theorem CellOf.toP {α : Type} {c : α→List AV} {H : Heap} {x : AV} {es : List α} (h : CellOf c H x es) : toP x=hole (!es.isEmpty):=by
 rcases h with ⟨rfl,rfl⟩ | ⟨k',rfl,hn,h3,hh⟩
 ·rfl
 ·cases es with
  | nil=>exact absurd rfl hn
  | cons a r=>rfl
theorem CellOf.shut {α : Type} {c : α→List AV} {H : Heap} {x : AV} {es : List α} {d : Nat} (h : CellOf c H x es) (hc : ∀ d e,(c e).map (lD H 0 d)=c e) : lD H 0 (d + 1) x=.sl false (es.map c):=by
 rcases h with ⟨rfl,rfl⟩ | ⟨k',rfl,hn,h3,hh⟩
 ·rfl
 ·simp only [lD,Nat.zero_le,if_true,rd,hh,List.length_map,List.drop_zero]
  rw [List.take_of_length_le (by simp),List.map_map]
  exact congrArg _ (List.map_congr_left fun e _=>hc d e)
theorem CellOf.grow {α : Type} {c : α→List AV} {H : Heap} {x : AV} {es : List α} {bytes : Nat} {e : α} (h : CellOf c H x es) (hc : ∀ x,(c x).length=1) (hb : bytes ≤ 100000) (hl : es.length ≤ 200000) (h3 : 3 ≤ H.length) :
  ∃ k H',iE 0 H 1 bytes x ([e].map c)=some (.ms k (es++[e]).length 0 (es++[e]).length,H')∧3 ≤ k∧H'[k]? = some (.blk 1 ((es++[e]).map c))∧(∀ j,j ≠ k→H'[j]? = H[j]?)∧(idC x=some k ∨ H[k]? = none)∧H.length ≤ H'.length:=by
 have ea : app es [e]=some (es++[e]):=aM2 (by simp; omega)
 rcases h with ⟨rfl,rfl⟩ | ⟨k',rfl,hn,hk,hh⟩
 ·refine ⟨H.length,H++[.blk 1 ([e].map c)],?_,h3,?_,?_,.inr (List.getElem?_eq_none (Nat.le_refl _)),by simp⟩
  ·exact bGe (l':=[e]) (m:=[e]) ea rfl hc (by omega) hb (.inl rfl)
  ·rw [List.getElem?_append_right (Nat.le_refl _),Nat.sub_self]; rfl
  ·intro j hj
   rcases Nat.lt_or_ge j H.length with h | h
   ·rw [List.getElem?_append_left h]
   ·rw [List.getElem?_eq_none h,List.getElem?_eq_none (by simp; omega)]
 ·have hlt : k' < H.length:=(List.getElem?_eq_some_iff.1 hh).1
  refine ⟨k',H.set k' (.blk 1 ((es++[e]).map c)),yN ea hh hc (by omega) hb (by omega),hk,?_,?_,.inl rfl,by simp⟩
  ·rw [List.getElem?_set_self hlt]
  ·intro j hj; rw [List.getElem?_set_ne (Ne.symm hj)]
theorem DI.upd {H H' H2 : Heap} {w : List RR} {i : Nat} {r r' : RR} {k : Nat} {u : Bool} (hI : DI H w) (hi : w[i]? = some r) (hk : 3 ≤ k) (hne : ∀ j,j ≠ k→H'[j]? = H[j]?) (hold : idC (sel r u)=some k ∨ H[k]? = none)
  (h2 : ∀ j,j ≠ 1→H2[j]? = H'[j]?) (hx : CellOf eR H2 r'.x r'.a.inner ∨ (r'.x=r.x∧r'.a.inner=r.a.inner∧u=true)) (hy : CellOf dS H2 r'.y r'.a.alone ∨ (r'.y=r.y∧r'.a.alone=r.a.alone∧u=false))
  (hu : idC (sel r' u)=some k) (hv : sel r' (!u)=sel r (!u)) : DI H2 (w.set i r'):=by
 have hlt:=(List.getElem?_eq_some_iff.1 hi).1
 have g : ∀ (j : Nat) (s : RR),(w.set i r')[j]? = some s→(j=i∧s=r') ∨ (j ≠ i∧w[j]? = some s):=by
  intro j s h
  by_cases hj : j=i
  ·subst hj; rw [List.getElem?_set_self hlt] at h; cases h; exact .inl ⟨rfl,rfl⟩
  ·rw [List.getElem?_set_ne (Ne.symm hj)] at h; exact .inr ⟨hj,h⟩
 have old : ∀ (j : Nat) (s : RR) (v : Bool) (q : Nat),w[j]? = some s→idC (sel s v)=some q→3 ≤ q∧∃ o,H[q]? = some o:=by
  intro j s v q hj hq
  cases v with
  | false=>have:=(hI.cx j s hj).id hq; exact ⟨this.1,_,this.2⟩
  | true=>have:=(hI.cy j s hj).id hq; exact ⟨this.1,_,this.2⟩
 have sep : ∀ (j : Nat) (s : RR) (v : Bool),w[j]? = some s→idC (sel s v)=some k→j=i∧v=u:=by
  intro j s v hj hq
  rcases hold with h | h
  ·exact hI.ne j i s r v u k hj hi hq h
  ·obtain ⟨_,o,ho⟩:=old j s v k hj hq
   rw [h] at ho; cases ho
 have keep : ∀ (j : Nat) (s : RR) (v : Bool) (q : Nat),w[j]? = some s→idC (sel s v)=some q→¬ (j=i∧v=u)→H2[q]? = H[q]?:=by
  intro j s v q hj hq hn
  have:=(old j s v q hj hq).1
  rw [h2 q (by omega),hne q (fun e=>hn (sep j s v hj (e ▸ hq)))]
 refine ⟨?_,?_,?_⟩
 ·intro j s hs
  rcases g j s hs with ⟨rfl,rfl⟩ | ⟨hj,hs⟩
  ·rcases hx with h | ⟨h1,h3,h4⟩
   ·exact h
   ·rw [h1,h3]
    exact (hI.cx _ r hi).mono fun q hq=>keep _ r false q hi hq (by rw [h4]; simp)
  ·exact (hI.cx j s hs).mono fun q hq=>keep j s false q hs hq (fun e=>hj e.1)
 ·intro j s hs
  rcases g j s hs with ⟨rfl,rfl⟩ | ⟨hj,hs⟩
  ·rcases hy with h | ⟨h1,h3,h4⟩
   ·exact h
   ·rw [h1,h3]
    exact (hI.cy _ r hi).mono fun q hq=>keep _ r true q hi hq (by rw [h4]; simp)
  ·exact (hI.cy j s hs).mono fun q hq=>keep j s true q hs hq (fun e=>hj e.1)
 ·have new : ∀ v q,idC (sel r' v)=some q→(v=u∧q=k) ∨ (v=!u∧idC (sel r (!u))=some q):=by
   intro v q h
   by_cases hvu : v=u
   ·subst hvu; rw [hu] at h; cases h; exact .inl ⟨rfl,rfl⟩
   ·have : v=!u:=by cases v <;> cases u <;> simp_all
    subst this; rw [hv] at h; exact .inr ⟨rfl,h⟩
  have fresh : ∀ (j : Nat) (s : RR) (v : Bool),w[j]? = some s→idC (sel s v)=some k→j=i∧v=u:=sep
  intro j1 j2 s1 s2 v1 v2 q e1 e2 q1 q2
  rcases g j1 s1 e1 with ⟨rfl,rfl⟩ | ⟨n1,f1⟩
  ·rcases g j2 s2 e2 with ⟨rfl,rfl⟩ | ⟨n2,f2⟩
   ·rcases new v1 q q1 with ⟨rfl,rfl⟩ | ⟨rfl,o1⟩
    ·rcases new v2 q q2 with ⟨rfl,_⟩ | ⟨rfl,o2⟩
     ·exact ⟨rfl,rfl⟩
     ·have:=(sep _ r (!v1) hi o2).2; cases v1 <;> cases this
    ·rcases new v2 q q2 with ⟨rfl,rfl⟩ | ⟨rfl,o2⟩
     ·have:=(sep _ r (!v2) hi o1).2; cases v2 <;> cases this
     ·exact ⟨rfl,rfl⟩
   ·rcases new v1 q q1 with ⟨rfl,rfl⟩ | ⟨rfl,o1⟩
    ·exact absurd (sep _ s2 v2 f2 q2).1 n2
    ·exact absurd (hI.ne _ _ r s2 (!u) v2 q hi f2 o1 q2).1 (Ne.symm n2)
  ·rcases g j2 s2 e2 with ⟨rfl,rfl⟩ | ⟨n2,f2⟩
   ·rcases new v2 q q2 with ⟨rfl,rfl⟩ | ⟨rfl,o2⟩
    ·exact absurd (sep _ s1 v1 f1 q1).1 n1
    ·exact absurd (hI.ne _ _ s1 r v1 (!u) q f1 hi q1 o2).1 n1
   ·exact hI.ne j1 j2 s1 s2 v1 v2 q f1 f2 q1 q2
theorem DI.view {H : Heap} {w : List RR} (hI : DI H w) (h1 : H[1]? = some (.blk 4 (w.map cRR))) : aLw H (.ms 1 w.length 0 w.length)=.vw (((w.map RR.a).map arV).map vU):=by
 simp only [aLw,rd,h1,List.length_map,if_true,List.drop_zero]
 rw [List.take_of_length_le (by simp),List.map_map,List.map_map,List.map_map]
 refine congrArg _ (List.map_congr_left fun r hr=>?_)
 obtain ⟨i,hi⟩:=List.mem_iff_getElem?.1 hr
 have a1:=(hI.cx i r hi).toP
 have a2:=(hI.cy i r hi).toP
 show [iv r.a.twice,toP (ouC r.a.outer),toP r.x,toP r.y]=_
 rw [a1,a2,bDy]; rfl
structure DJ (p : GPlan) (H : Heap) (w : List RR) : Prop where
 i : DI H w
 h0 : H[0]? = some (dvP p)
 h1 : H[1]? = some (.blk 4 (w.map cRR))
 hl : w.length ≤ 200000
 h3 : 3 ≤ H.length
theorem aTn {w : List RR} {i : Int} {a : Garea} (h : idx (w.map RR.a) i=some a) : ∃ r,idx w i=some r∧r.a=a:=by
 obtain ⟨h0,h1,h2⟩:=aCs h
 rw [List.getElem?_map,Option.map_eq_some_iff] at h1
 obtain ⟨r,h1,h3⟩:=h1
 exact ⟨r,by unfold idx; rw [if_pos h0]; exact h1,h3⟩
theorem aCt {α : Type} {l : List α} {i : Int} {x : α} (h : idx l i=some x) : idxK l l.length i=some x:=by
 obtain ⟨h0,h1,h2⟩:=aCs h
 unfold idxK; rw [if_pos ⟨h0,h2⟩]; exact h1
def dvS1 (q : List (List Int)) (m : List (Int × List GPoint)) (w : List RR) (i : Int) (H : Heap) : St:=⟨sp 110 [(2,.rmp (entL dX eX m)),(3,.ptr 0 1 0 0),(7,.ms 1 w.length 0 w.length),(43,.ms 2 q.length 0 q.length),(44,iv (q.length : Nat)),(45,iv i)],H⟩
def dvE1 (m : List (Int × List GPoint)) (w : List RR) (H : Heap) : St:=⟨sp 110 [(2,.rmp (entL dX eX m)),(3,.ptr 0 1 0 0),(7,.ms 1 w.length 0 w.length)],H⟩
abbrev dvV1 : List Bool:=[false,false,true,true,false,false,false,true,false,false,false,false,false,false,false,false,false,false,false,false,false,false,false,false,false,false,false,false,false,false,false,false,false,false,false,false,false,false,false,false,false,false,false,true,true,true]
def upR (u : Bool) (r : RR) (a' : Garea) (v : AV) : RR:=match u with
 | true=>⟨a',r.x,v⟩
 | false=>⟨a',v,r.y⟩
def offC (u : Bool) : Nat:=match u with
 | true=>3
 | false=>2
theorem aYk {p : GPlan} {H : Heap} {w : List RR} {b : Nat} {i : Int} {r : RR} {n : Nat} (hJ : DJ p H w) (hi : idx w i=some r) {α : Type} {c : α→List AV} {bytes : Nat} {e : α} {es : List α} (u : Bool) (hc : ∀ x,(c x).length=1) (hby : bytes ≤ 100000)
  (hes : es.length ≤ b) (hb : b ≤ 200000) (hC : CellOf c H (sel r u) es) {a' : Garea} (ha : a'.twice=r.a.twice∧a'.outer=r.a.outer)
  (hx : (u=false∧∀ H2 x,CellOf c H2 x (es++[e])→CellOf eR H2 x a'.inner) ∨ (u=true∧a'.inner=r.a.inner))
  (hy : (u=true∧∀ H2 x,CellOf c H2 x (es++[e])→CellOf dS H2 x a'.alone) ∨ (u=false∧a'.alone=r.a.alone)) :
  ∃ v H' H2,iE 0 H 1 bytes (sel r u) ([e].map c)=some (v,H')∧H'[1]? = some (.blk 4 (w.map cRR)) ∧
   evOp PP (evF PP T n) 0 (.store 1 (.tmp 0) (.tmp 1)) [.ptr 1 w.length (0 + i.toNat) (offC u),v] H'=some (.lit gD,H2)∧DJ p H2 (w.set i.toNat (upR u r a' v))∧(∀ j,j ≠ 1→j < 3→H2[j]? = H[j]?):=by
 obtain ⟨hi0,hi1,hi2⟩:=aCs hi
 have h1l : 1 < H.length:=(List.getElem?_eq_some_iff.1 hJ.h1).1
 obtain ⟨k,H',happ,hk3,hHk,hHo,hold,hlen⟩:=hC.grow (e:=e) (bytes:=bytes) hc hby (by omega) hJ.h3
 have e1 : H'[1]? = some (.blk 4 (w.map cRR)):=by rw [hHo 1 (by omega)]; exact hJ.h1
 have hst : evOp PP (evF PP T n) 0 (.store 1 (.tmp 0) (.tmp 1)) [.ptr 1 w.length (0 + i.toNat) (offC u),.ms k (es++[e]).length 0 (es++[e]).length] H'=some (.lit gD,H'.set 1 (.blk 4 ((w.set i.toNat (upR u r a' (.ms k (es++[e]).length 0 (es++[e]).length))).map cRR))):=by
  refine bIs (aCt hi) e1 (by omega) (cs:=[.ms k (es++[e]).length 0 (es++[e]).length]) rfl ?_ ?_ rfl
  ·cases u with
   | true=>show [iv r.a.twice,ouC r.a.outer,r.x,_]=[iv a'.twice,ouC a'.outer,r.x,_]; rw [ha.1,ha.2]; rfl
   | false=>show [iv r.a.twice,ouC r.a.outer,_,r.y]=[iv a'.twice,ouC a'.outer,_,r.y]; rw [ha.1,ha.2]; rfl
  ·cases u <;> exact ⟨rfl,by simp [cRR,offC]⟩
 have hl1 : 1 < H'.length:=by omega
 have g2 : ∀ j,j ≠ 1→(H'.set 1 (.blk 4 ((w.set i.toNat (upR u r a' (.ms k (es++[e]).length 0 (es++[e]).length))).map cRR)))[j]? = H'[j]?:=fun j hj=>List.getElem?_set_ne (Ne.symm hj)
 have hnew : CellOf c (H'.set 1 (.blk 4 ((w.set i.toNat (upR u r a' (.ms k (es++[e]).length 0 (es++[e]).length))).map cRR))) (.ms k (es++[e]).length 0 (es++[e]).length) (es++[e]):=.inr ⟨k,rfl,by simp,hk3,by rw [g2 k (by omega)]; exact hHk⟩
 refine ⟨_,H',_,happ,e1,hst,⟨?_,?_,?_,?_,?_⟩,fun j hj hj3=>by rw [g2 j hj,hHo j (by omega)]⟩
 ·refine hJ.i.upd (u:=u) (r:=r) hi1 hk3 hHo hold g2 ?_ ?_ ?_ ?_
  ·rcases hx with ⟨hu,h⟩ | ⟨hu,h⟩
   ·subst hu; exact .inl (h _ _ hnew)
   ·subst hu; exact .inr ⟨rfl,h,rfl⟩
  ·rcases hy with ⟨hu,h⟩ | ⟨hu,h⟩
   ·subst hu; exact .inl (h _ _ hnew)
   ·subst hu; exact .inr ⟨rfl,h,rfl⟩
  ·cases u <;> rfl
  ·cases u <;> rfl
 ·rw [g2 0 (by omega),hHo 0 (by omega)]; exact hJ.h0
 ·rw [List.getElem?_set_self hl1]
 ·rw [List.length_set]; exact hJ.hl
 ·rw [List.length_set]; have:=hJ.h3; omega
theorem aSx {w : List RR} {i : Nat} {r' : RR} : (w.set i r').map RR.a=(w.map RR.a).set i r'.a:=by rw [List.map_set]
theorem aZj (u : Bool) (r : RR) (a' : Garea) (v : AV) : (upR u r a' v).a=a':=by cases u <;> rfl
theorem bB3 {w : List RR} {i : Int} {r' : RR} {b : Nat} (hs : ∀ (j : Nat) (s : RR),w[j]? = some s→s.a.inner.length + s.a.alone.length ≤ b) (hr : r'.a.inner.length + r'.a.alone.length ≤ b + 1) :
  ∀ (j : Nat) (s : RR),(w.set i.toNat r')[j]? = some s→s.a.inner.length + s.a.alone.length ≤ b + 1:=by
 intro j s h
 rw [List.getElem?_set] at h
 split at h
 ·split at h
  ·cases h; exact hr
  ·cases h
 ·exact Nat.le_succ_of_le (hs j s h)
theorem bI7 (n : Nat) (q : List (List Int)) (m : List (Int × List GPoint)) (N k i : Nat) {H H' H2 : Heap} {w w2 : List RR} {c : List Int} {d : Int} {pts : List GPoint} {at_ : GPoint} {ix : Int} {ro : RR} {v : AV} {X : Option (AExit × St)}
  (hi : i < 1000000) (b1 : decide (((i : Nat) : Int) < ((q.length : Nat) : Int))=true) (e1 : idx q ((i : Nat) : Int)=some c) (h2 : H[2]? = some (.blk 1 (q.map eR))) (aE : idx c 0=some d) (aB : mget m (imax d (IntKind.i64.wrap (0 - d)))=some pts) (aF : idx pts 0=some at_)
  (aG : pvc (evF PP T n) 39 ([AV.rmp (entL dX eX m),.ms 1 w.length 0 w.length,.agg (dW at_)].map (nO H))=some (iv ix)) (aA : idx w ix=some ro) (h1 : H[1]? = some (.blk 4 (w.map cRR)))
  (happ : iE 0 H 1 24 ro.x ([c].map eR)=some (v,H')) (hH1 : H'[1]? = some (.blk 4 (w.map cRR))) (hst : evOp PP (evF PP T n) 0 (.store 1 (.tmp 0) (.tmp 1)) [.ptr 1 w.length (0 + ix.toNat) 2,v] H'=some (.lit gD,H2)) (hw : w2.length=w.length)
  (ih : eT dvX1 dvR false 0 N (eG (eO (some dvV1) false 0 N) (evC PP (evF PP T n) n 0 bBg) k (dvS1 q m w2 ((i + 1 : Nat) : Int) H2))=X) :
  eT dvX1 dvR false 0 N (eG (eO (some dvV1) false 0 N) (evC PP (evF PP T n) n 0 bBg) (k + 1) (dvS1 q m w (i : Nat) H))=X:=by
 have aH:=aPp (aCt e1) h2
 have aI:=bAr (P:=PP) (cf:=evF PP T n) (fl:=0) (off:=0) (n:=1) (agg:=false) (v:=.sl false (c.map dS)) (aCt e1) h2 (by simp [pZ]) rfl
 have aC:=idxl (f:=false) (H:=H) (c:=dS) aE (iD _)
 have aJ:=aKq (P:=PP) (cf:=evF PP T n) (fl:=0) (H:=H) (a:=d) (b:=(IntKind.i64.wrap (0 - d)))
 have aD:=aWa (P:=PP) (cf:=evF PP T n) (fl:=0) (H:=H) (kv:=dX) (va:=eX) (m:=m) (k:=(imax d (IntKind.i64.wrap (0 - d)))) (x:=(iv (imax d (IntKind.i64.wrap (0 - d))))) lG [] (.lit nilS) rfl (by rw [aB]; rfl)
 rw [aB] at aD
 have aK:=idxl (f:=false) (H:=H) (c:=dW) aF (gW _)
 have aL:=aPp (aCt aA) h1
 have aM:=bAr (P:=PP) (cf:=evF PP T n) (fl:=0) (off:=2) (n:=1) (agg:=false) (v:=ro.x) (aCt aA) h1 (by simp [aY0]) rfl
 have aN:=aPp (aCt aA) hH1
 rw [← eW hi] at ih
 unfold dvS1 at ih
 rw [hw] at ih
 exact nx_q (dvS1 q m w (IntKind.i64.wrap ((i : Int) + 1)) H2) (qp hst<|qa 75 aN<|qc 74 happ<|qb 71 aM<|qa 69 aL<|qa 64 aG<|qa 62 aK<|qb 58 aD<|qb 57 aJ<|qa 54 aC<|qa 51 aC<|qb 48 aI<|qa 47 aH<|qa 46 (yX b1)<|q0) [] [some H2] trivial ih
theorem bF7 (n : Nat) (p : GPlan) (q : List (List Int)) (m : List (Int × List GPoint)) (N : Nat) (hb : q.length ≤ 100000) : ∀ (todo : List (List Int)) (k i : Nat) (w : List RR) (H : Heap) (r : List Garea),q.drop i=todo→todo.length < k→DJ p H w→i ≤ q.length→H[2]? = some (.blk 1 (q.map eR)) →
  (∀ (j : Nat) (s : RR),w[j]? = some s→s.a.inner.length + s.a.alone.length ≤ i)→dv2 n m todo (w.map RR.a)=some r →
  ∃ w' H',w'.map RR.a=r∧DJ p H' w'∧(∀ (j : Nat) (s : RR),w'[j]? = some s→s.a.inner.length + s.a.alone.length ≤ 100000) ∧
  eT dvX1 dvR false 0 N (eG (eO (some dvV1) false 0 N) (evC PP (evF PP T n) n 0 bBg) k (dvS1 q m w (i : Nat) H))=some (.exit 2,dvE1 m w' H')
 | todo,0,_,_,_,_,_,h,_,_,_,_,_=>by omega
 | [],k + 1,i,w,H,r,hd,_,hJ,hi0,h2,hs,h=>by
  have hi : q.length ≤ i:=by
   have:=congrArg List.length hd
   rw [List.length_drop,List.length_nil] at this; omega
  cases h
  have b1 : decide (((i : Nat) : Int) < ((q.length : Nat) : Int))=false:=decide_eq_false (by omega)
  exact ⟨w,H,rfl,hJ,fun j s hj=>Nat.le_trans (hs j s hj) (by omega),eQ (some dvV1) false (dvE1 m w H) (qa 46 (yX b1)<|q0) [] [] trivial⟩
 | c :: todo,k + 1,i,w,H,r,hd,hk,hJ,hi0,h2,hs,h=>by
  obtain ⟨h1,hd2,h3⟩:=aLk hd
  simp only [List.length_cons] at hk
  have b1 : decide (((i : Nat) : Int) < ((q.length : Nat) : Int))=true:=decide_eq_true (by omega)
  have e1 : idx q ((i : Nat) : Int)=some c:=by rw [nM]; exact h1
  simp only [dv2] at h
  obtain ⟨d,aB,h⟩:=dQ h
  obtain ⟨pts,aC,h⟩:=dQ h
  obtain ⟨at_,aD,h⟩:=dQ h
  obtain ⟨ix,aE,h⟩:=dQ h
  obtain ⟨a,aF,h⟩:=dQ h
  obtain ⟨ro,aA,rfl⟩:=aTn aF
  have hro : w[ix.toNat]? = some ro:=(aCs aA).2.1
  have hbo:=hs _ _ hro
  obtain ⟨v,H',H2,happ,hH1,hst,hJ2,hkeep⟩:=aYk (n:=n) (bytes:=24) (e:=c) (es:=ro.a.inner) (b:=200000) (a':=⟨ro.a.twice,ro.a.outer,ro.a.inner++[c],ro.a.alone⟩) hJ aA false pZ (by omega) (by omega) (by omega) (hJ.i.cx _ _ hro) ⟨rfl,rfl⟩ (.inl ⟨rfl,fun _ _ h=>h⟩) (.inr ⟨rfl,rfl⟩)
  have ih:=bF7 n p q m N hb todo k (i + 1) (w.set ix.toNat (upR false ro ⟨ro.a.twice,ro.a.outer,ro.a.inner++[c],ro.a.alone⟩ v)) H2 r hd2 (by omega) hJ2 (by omega) (by rw [hkeep 2 (by omega) (by omega)]; exact h2)
   (bB3 hs (by rw [aZj]; simp; omega)) (by rw [aSx,aZj]; exact h)
  obtain ⟨w',H3,i1,i2,i3,ih⟩:=ih
  refine ⟨w',H3,i1,i2,i3,?_⟩
  have aG : pvc (evF PP T n) 39 ([AV.rmp (entL dX eX m),.ms 1 w.length 0 w.length,.agg (dW at_)].map (nO H))=some (iv ix):=vwB (vwl rfl (vwl (hJ.i.view hJ.h1) rfl)) (zA n m ((w.map RR.a).map arV) at_ _ aE)
  exact bI7 n q m N k i (by omega) b1 e1 h2 aB aC aD aG aA hJ.h1 happ hH1 hst (by rw [List.length_set]) ih
theorem DJ.more {p : GPlan} {H : Heap} {w : List RR} (h : DJ p H w) (o : AObj) : DJ p (H++[o]) w:=by
 have g : ∀ (k : Nat) (x : AObj),H[k]? = some x→(H++[o])[k]? = some x:=by
  intro k x hk
  rw [List.getElem?_append_left (List.getElem?_eq_some_iff.1 hk).1]; exact hk
 have gc : ∀ {α : Type} {c : α→List AV} {x : AV} {es : List α},CellOf c H x es→CellOf c (H++[o]) x es:=by
  intro α c x es hC
  rcases hC with h | ⟨k,h1,h2,h3,h4⟩
  ·exact .inl h
  ·exact .inr ⟨k,h1,h2,h3,g k _ h4⟩
 exact ⟨⟨fun i r hr=>gc (h.i.cx i r hr),fun i r hr=>gc (h.i.cy i r hr),h.i.ne⟩,g 0 _ h.h0,g 1 _ h.h1,h.hl,by have:=h.h3; simp; omega⟩
def dvS2 (p : GPlan) (m : List (Int × List GPoint)) (w : List RR) (i : Int) (H : Heap) : St:=⟨sp 110 [(2,.rmp (entL dX eX m)),(3,.ptr 0 1 0 0),(7,.ms 1 w.length 0 w.length),(79,.vw (p.Nodes.map dP)),(80,iv (p.Nodes.length : Nat)),(81,iv i)],H⟩
def dvE2 (w : List RR) (H : Heap) : St:=⟨sp 110 [(7,.ms 1 w.length 0 w.length)],H⟩
abbrev dvX2 : List Bool:=[false,false,false,false,false,false,false,true]
abbrev dvV2 : List Bool:=[false,false,true,true,false,false,false,true,false,false,false,false,false,false,false,false,false,false,false,false,false,false,false,false,false,false,false,false,false,false,false,false,false,false,false,false,false,false,false,false,false,false,false,false,false,false,false,false,false,false,false,false,false,false,false,false,false,false,false,false,false,false,false,false,false,false,false,false,false,false,false,false,false,false,false,false,false,false,false,true,true,true]
abbrev dvHN (H : Heap) (x : GNode) : Heap:=H++[.blk 3 [dP x]]
theorem aT4 {n : Nat} (H : Heap) (x : GNode) : evOp PP (evF PP T n) 0 (.store 3 (.tmp 0) (.tmp 1)) [.ptr H.length 1 0 0,.agg (dP x)] (H++[.blk 3 [[iv 0,iv 0,iv 0]]])=some (.lit gD,dvHN H x):=by
 have e1 : (H++[AObj.blk 3 [[iv 0,iv 0,iv 0]]])[H.length]? = some (.blk 3 [[iv 0,iv 0,iv 0]]):=by rw [List.getElem?_append_right (Nat.le_refl _),Nat.sub_self]; rfl
 have e2 : (H++[AObj.blk 3 [[iv 0,iv 0,iv 0]]]).set H.length (.blk 3 [dP x])=dvHN H x:=by rw [List.set_append_right _ _ (Nat.le_refl _),Nat.sub_self]; rfl
 have e3 : evOp PP (evF PP T n) 0 (.store 3 (.tmp 0) (.tmp 1)) [.ptr H.length 1 0 0,.agg (dP x)] (H++[.blk 3 [[iv 0,iv 0,iv 0]]])=some (.lit gD,(H++[AObj.blk 3 [[iv 0,iv 0,iv 0]]]).set H.length (.blk 3 [dP x])):=by
  simp only [evOp,dU,List.getElem?_cons_zero,List.getElem?_cons_succ,cellsOf,aDs,e1]
  rfl
 rw [e3,e2]
theorem bEo {n : Nat} (H : Heap) (x : GNode) (agg : Bool) (off k : Nat) (v : AV) (ho : off + k ≤ 3) (hv : (if agg then some (AV.agg (((dP x).drop off).take k)) else match ((dP x).drop off).take k with | [y]=>some y | _=>none)=some v) :
  evOp PP (evF PP T n) 0 (.load agg k (.tmp 0)) [.ptr H.length 1 0 off] (dvHN H x)=some (v,dvHN H x):=by
 have e1 : (dvHN H x)[H.length]? = some (.blk 3 ([x].map dP)):=by rw [List.getElem?_append_right (Nat.le_refl _),Nat.sub_self]; rfl
 exact bAr (l:=[x]) (x:=x) (i:=0) (k:=1) (c:=dP) rfl e1 (by simp [jQ]; exact ho) hv
theorem bF6 {n : Nat} {p : GPlan} {H : Heap} (h : H[0]? = some (dvP p)) : evOp PP (evF PP T n) 0 (.load true 3 (.tmp 0)) [.ptr 0 1 0 0] H=some (kU p,H):=by
 simp only [evOp,dU,List.getElem?_cons_zero,uT,h]
 rfl
theorem bI6 (n : Nat) (p : GPlan) (m : List (Int × List GPoint)) (N k i : Nat) {H H' H2 : Heap} {w w2 : List RR} {x : GNode} {ix d : Int} {ro : RR} {v : AV} {X : Option (AExit × St)}
  (hi : i < 1000000) (b1 : decide (((i : Nat) : Int) < ((p.Nodes.length : Nat) : Int))=true) (e1 : idx p.Nodes ((i : Nat) : Int)=some x) (h0 : (dvHN H x)[0]? = some (dvP p)) (aC : xD n p x.ID=some d) (b2 : (d == 0)=true)
  (aD : pvc (evF PP T n) 39 ([AV.rmp (entL dX eX m),.ms 1 w.length 0 w.length,.agg (dW x.At)].map (nO (dvHN H x)))=some (iv ix)) (aA : idx w ix=some ro) (h1 : (dvHN H x)[1]? = some (.blk 4 (w.map cRR)))
  (happ : iE 0 (dvHN H x) 1 8 ro.y ([x.ID].map dS)=some (v,H')) (hH1 : H'[1]? = some (.blk 4 (w.map cRR))) (hst : evOp PP (evF PP T n) 0 (.store 1 (.tmp 0) (.tmp 1)) [.ptr 1 w.length (0 + ix.toNat) 3,v] H'=some (.lit gD,H2)) (hw : w2.length=w.length)
  (ih : eT dvX2 dvR false 0 N (eG (eO (some dvV2) false 0 N) (evC PP (evF PP T n) n 0 aVp) k (dvS2 p m w2 ((i + 1 : Nat) : Int) H2))=X) :
  eT dvX2 dvR false 0 N (eG (eO (some dvV2) false 0 N) (evC PP (evF PP T n) n 0 aVp) (k + 1) (dvS2 p m w (i : Nat) H))=X:=by
 have aE:=idxv (H:=H) (c:=dP) e1 (jQ _)
 have gs:=aT4 (n:=n) H x
 have aF:=bF6 (n:=n) h0
 have aB:=bEo (n:=n) H x false 0 1 (iv x.ID) (by omega) rfl
 have aG:=aFg n p x.ID _ aC
 have aH:=bEo (n:=n) H x true 1 2 (.agg (dW x.At)) (by omega) rfl
 have aI:=aPp (aCt aA) h1
 have aJ:=bAr (P:=PP) (cf:=evF PP T n) (fl:=0) (off:=3) (n:=1) (agg:=false) (v:=ro.y) (aCt aA) h1 (by simp [aY0]) rfl
 have aK:=aPp (aCt aA) hH1
 rw [← eW hi] at ih
 unfold dvS2 at ih
 rw [hw] at ih
 exact nx_q (dvS2 p m w (IntKind.i64.wrap ((i : Int) + 1)) H2) (qp hst<|qa 106 aK<|qc 105 happ<|qb 103 aB<|qb 101 aJ<|qa 99 aI<|qa 94 aD<|qb 93 aH<|qa 89 (yX b2)<|qa 88 aG<|qb 87 aB<|qb 85 aF<|qp gs<|qa 83 aE<|qa 82 (yX b1)<|q0) [] [some (dvHN H x),some H2] trivial ih
theorem bI5 (n : Nat) (p : GPlan) (m : List (Int × List GPoint)) (N k i : Nat) {H : Heap} {w : List RR} {x : GNode} {d : Int} {X : Option (AExit × St)}
  (hi : i < 1000000) (b1 : decide (((i : Nat) : Int) < ((p.Nodes.length : Nat) : Int))=true) (e1 : idx p.Nodes ((i : Nat) : Int)=some x) (h0 : (dvHN H x)[0]? = some (dvP p)) (aA : xD n p x.ID=some d) (b2 : (d == 0)=false)
  (ih : eT dvX2 dvR false 0 N (eG (eO (some dvV2) false 0 N) (evC PP (evF PP T n) n 0 aVp) k (dvS2 p m w ((i + 1 : Nat) : Int) (dvHN H x)))=X) :
  eT dvX2 dvR false 0 N (eG (eO (some dvV2) false 0 N) (evC PP (evF PP T n) n 0 aVp) (k + 1) (dvS2 p m w (i : Nat) H))=X:=by
 have aB:=idxv (H:=H) (c:=dP) e1 (jQ _)
 have gs:=aT4 (n:=n) H x
 have aC:=bF6 (n:=n) h0
 have aD:=bEo (n:=n) H x false 0 1 (iv x.ID) (by omega) rfl
 have aE:=aFg n p x.ID _ aA
 rw [← eW hi] at ih
 exact nx_q (dvS2 p m w (IntKind.i64.wrap ((i : Int) + 1)) (dvHN H x)) (qa 89 (yX b2)<|qa 88 aE<|qb 87 aD<|qb 85 aC<|qp gs<|qa 83 aB<|qa 82 (yX b1)<|q0) [] [some (dvHN H x)] trivial ih
theorem bEp (n : Nat) (p : GPlan) (m : List (Int × List GPoint)) (N : Nat) (hb : p.Nodes.length ≤ 100000) : ∀ (todo : List GNode) (k i : Nat) (w : List RR) (H : Heap) (r : List Garea),p.Nodes.drop i=todo→todo.length < k→DJ p H w→i ≤ p.Nodes.length →
  (∀ (j : Nat) (s : RR),w[j]? = some s→s.a.inner.length + s.a.alone.length ≤ 100000 + i)→dv3 n p m todo (w.map RR.a)=some r →
  ∃ w' H',w'.map RR.a=r∧DJ p H' w' ∧
  eT dvX2 dvR false 0 N (eG (eO (some dvV2) false 0 N) (evC PP (evF PP T n) n 0 aVp) k (dvS2 p m w (i : Nat) H))=some (.exit 4,dvE2 w' H')
 | todo,0,_,_,_,_,_,h,_,_,_,_=>by omega
 | [],k + 1,i,w,H,r,hd,_,hJ,hi0,hs,h=>by
  have hi : p.Nodes.length ≤ i:=by
   have:=congrArg List.length hd
   rw [List.length_drop,List.length_nil] at this; omega
  cases h
  have b1 : decide (((i : Nat) : Int) < ((p.Nodes.length : Nat) : Int))=false:=decide_eq_false (by omega)
  exact ⟨w,H,rfl,hJ,eQ (some dvV2) false (dvE2 w H) (qa 82 (yX b1)<|q0) [] [] trivial⟩
 | x :: todo,k + 1,i,w,H,r,hd,hk,hJ,hi0,hs,h=>by
  obtain ⟨h1,hd2,h3⟩:=aLk hd
  simp only [List.length_cons] at hk
  have b1 : decide (((i : Nat) : Int) < ((p.Nodes.length : Nat) : Int))=true:=decide_eq_true (by omega)
  have e1 : idx p.Nodes ((i : Nat) : Int)=some x:=by rw [nM]; exact h1
  have hJn:=hJ.more (.blk 3 [dP x])
  simp only [dv3] at h
  obtain ⟨d,aB,h⟩:=dQ h
  rcases cn h with ⟨b2,_,h⟩ | ⟨b2,_,h⟩
  ·obtain ⟨ix,aC,h⟩:=dQ h
   obtain ⟨a,aD,h⟩:=dQ h
   obtain ⟨ro,aA,rfl⟩:=aTn aD
   have hro : w[ix.toNat]? = some ro:=(aCs aA).2.1
   have hbo:=hs _ _ hro
   obtain ⟨v,H',H2,happ,hH1,hst,hJ2,hkeep⟩:=aYk (n:=n) (bytes:=8) (e:=x.ID) (es:=ro.a.alone) (b:=200000) (a':=⟨ro.a.twice,ro.a.outer,ro.a.inner,ro.a.alone++[x.ID]⟩) hJn aA true iD (by omega) (by omega) (by omega) (hJn.i.cy _ _ hro) ⟨rfl,rfl⟩ (.inr ⟨rfl,rfl⟩) (.inl ⟨rfl,fun _ _ h=>h⟩)
   obtain ⟨w',H3,i1,i2,ih⟩:=bEp n p m N hb todo k (i + 1) (w.set ix.toNat (upR true ro ⟨ro.a.twice,ro.a.outer,ro.a.inner,ro.a.alone++[x.ID]⟩ v)) H2 r hd2 (by omega) hJ2 (by omega)
    (bB3 (b:=100000 + i) hs (by rw [aZj]; simp; omega)) (by rw [aSx,aZj]; exact h)
   have aE : pvc (evF PP T n) 39 ([AV.rmp (entL dX eX m),.ms 1 w.length 0 w.length,.agg (dW x.At)].map (nO (dvHN H x)))=some (iv ix):=vwB (vwl rfl (vwl (hJn.i.view hJn.h1) rfl)) (zA n m ((w.map RR.a).map arV) x.At _ aC)
   exact ⟨w',H3,i1,i2,bI6 n p m N k i (by omega) b1 e1 hJn.h0 aB b2 aE aA hJn.h1 happ hH1 hst (by rw [List.length_set]) ih⟩
  ·obtain ⟨w',H3,i1,i2,ih⟩:=bEp n p m N hb todo k (i + 1) w _ r hd2 (by omega) hJn (by omega) (fun j s hj=>Nat.le_succ_of_le (hs j s hj)) h
   exact ⟨w',H3,i1,i2,bI5 n p m N k i (by omega) b1 e1 hJn.h0 aB b2 ih⟩
theorem DI.shut {H : Heap} {w : List RR} (hI : DI H w) (h1 : H[1]? = some (.blk 4 (w.map cRR))) : jX H 0 (.ms 1 w.length 0 w.length)=.sl false ((w.map RR.a).map gO):=by
 show lD H 0 6 (.ms 1 w.length 0 w.length)=_
 simp only [lD,Nat.zero_le,if_true,rd,h1,List.length_map,List.drop_zero]
 rw [List.take_of_length_le (by simp),List.map_map,List.map_map]
 refine congrArg _ (List.map_congr_left fun r hr=>?_)
 obtain ⟨i,hi⟩:=List.mem_iff_getElem?.1 hr
 have a1:=(hI.cx i r hi).shut (d:=4) (fun d e=>aGg H 0 d e)
 have a2:=(hI.cy i r hi).shut (d:=4) (fun d e=>zV H 0 d e)
 show [iv r.a.twice,lD H 0 5 (ouC r.a.outer),lD H 0 5 r.x,lD H 0 5 r.y]=_
 rw [a1,a2,aZ6]; rfl
def mkRR (a : Garea) : RR:=⟨a,.lit nilS,.lit nilS⟩
theorem aSk (n : Nat) (p : GPlan) : ∀ (cs : List (List Int)) (l : List Garea) (q : List (List Int)) (r : List Garea × List (List Int)),dv1 n p cs l q=some r→(∀ a ∈ l,a.inner=[]∧a.alone=[])→(∀ a ∈ r.1,a.inner=[]∧a.alone=[])∧r.1.length ≤ l.length + cs.length∧r.2.length ≤ q.length + cs.length
 | [],l,q,r,h,hl=>by cases h; exact ⟨hl,by simp,by simp⟩
 | c :: cs,l,q,r,h,hl=>by
  simp only [dv1] at h
  obtain ⟨t,_,h⟩:=dQ h
  rcases cn h with ⟨_,_,h⟩ | ⟨_,_,h⟩
  ·obtain ⟨_,_,h⟩:=dQ h
   obtain ⟨g1,g2,g3⟩:=aSk n p cs _ _ r h (by
    intro a ha
    rcases List.mem_append.1 ha with ha | ha
    ·exact hl a ha
    ·rw [List.mem_singleton.1 ha]; exact ⟨rfl,rfl⟩)
   simp only [List.length_append,List.length_cons,List.length_nil] at g2 ⊢
   exact ⟨g1,by omega,by omega⟩
  ·obtain ⟨g1,g2,g3⟩:=aSk n p cs _ _ r h hl
   simp only [List.length_append,List.length_cons,List.length_nil] at g3 ⊢
   exact ⟨g1,by omega,by omega⟩
theorem aI3 (n : Nat) (p : GPlan) (cs : List (List Int)) (m : List (Int × List GPoint)) (r : List Garea) (h : zN n p cs m=some r) : pv PP T n 27 [(kU p),(.vw (List.map eR cs)),(.rmp (entL dX eX m))]=some (.sl false (List.map gO r)):=by
 cases n with
 | zero=>cases h
 | succ n =>
  rw [zN] at h
  obtain ⟨_,eg,h⟩:=dQ h
  obtain ⟨hg1,hg2,hg3,hg4⟩:=of_decide_eq_true (aEw eg)
  obtain ⟨lq,e1,h⟩:=dQ h
  obtain ⟨l2,e2,h⟩:=dQ h
  obtain ⟨hn,hlen,hql⟩:=aSk n p cs _ _ _ e1 (by intro a ha; rw [List.mem_singleton.1 ha]; exact ⟨rfl,rfl⟩)
  simp only [List.length_cons,List.length_nil] at hlen hql
  have k0:=bEq n p cs m hg3 cs n 0 [⟨0,[],[],[]⟩] [] lq rfl hg1 e1 (by simp; omega) (by simp; omega)
  have hw : (lq.1.map mkRR).map RR.a=lq.1:=by rw [List.map_map]; exact List.map_id _
  have hwc : (lq.1.map mkRR).map cRR=lq.1.map ar0:=by rw [List.map_map]; rfl
  have hJ : DJ p (dvH0 p lq.1 lq.2) (lq.1.map mkRR):=by
   have hc : ∀ (i : Nat) (s : RR),(lq.1.map mkRR)[i]? = some s→s.x=.lit nilS∧s.y=.lit nilS∧s.a.inner=[]∧s.a.alone=[]:=by
    intro i s hs
    rw [List.getElem?_map,Option.map_eq_some_iff] at hs
    obtain ⟨a,ha,rfl⟩:=hs
    exact ⟨rfl,rfl,hn a (List.mem_of_getElem? ha)⟩
   refine ⟨⟨fun i s hs=>.inl ⟨(hc i s hs).1,(hc i s hs).2.2.1⟩,fun i s hs=>.inl ⟨(hc i s hs).2.1,(hc i s hs).2.2.2⟩,?_⟩,rfl,by rw [hwc]; rfl,by simp; omega,by simp⟩
   intro i j s t u v k hs _ hk _
   cases u with
   | true=>simp only [sel,(hc i s hs).2.1,idC] at hk; cases hk
   | false=>simp only [sel,(hc i s hs).1,idC] at hk; cases hk
  have hs0 : ∀ (j : Nat) (s : RR),(lq.1.map mkRR)[j]? = some s→s.a.inner.length + s.a.alone.length ≤ 0:=by
   intro j s hs
   rw [List.getElem?_map,Option.map_eq_some_iff] at hs
   obtain ⟨a,ha,rfl⟩:=hs
   obtain ⟨h1,h2⟩:=hn a (List.mem_of_getElem? ha)
   simp [mkRR,h1,h2]
  obtain ⟨w1,H1,j1,hJ1,hs1,k1⟩:=bF7 n p lq.2 m 3 (by omega) lq.2 n 0 (lq.1.map mkRR) (dvH0 p lq.1 lq.2) l2 rfl (by omega) hJ (by omega) rfl hs0 (by rw [hw]; exact e2)
  obtain ⟨w2,H2,j2,hJ2,k2⟩:=bEp n p m H1.length hg4 p.Nodes n 0 w1 H1 r rfl hg2 hJ1 (by omega) (fun j s hs=>hs1 j s hs) (by rw [j1]; exact h)
  have aA:=iM (P:=PP) (cf:=evF PP T n) (fl:=0) (H:=dvH0 p [⟨0,[],[],[]⟩] []) (c:=eR) (l:=cs)
  have aB : evOp PP (evF PP T n) 0 (.load false 1 (.tmp 0)) [.ptr 0 1 0 0] H1=some (.vw (p.Nodes.map dP),H1):=by
   simp only [evOp,dU,List.getElem?_cons_zero,uT,hJ1.h0]
   rfl
  have aC:=iM (P:=PP) (cf:=evF PP T n) (fl:=0) (H:=H1) (c:=dP) (l:=p.Nodes)
  have hl1 : (lq.1.map mkRR).length=lq.1.length:=List.length_map _
  unfold dvS1 at k1
  rw [hl1] at k1
  refine aFd (iT F27 (qp k2<|qp trivial<|qb 80 aC<|qb 79 aB<|qp k1<|qp trivial<|qp k0<|qp (bA4 p [⟨0,[],[],[]⟩] [])<|qb 22 aA<|q0) [(.exit 0,dvE0 p m lq.1 lq.2),(.exit 2,dvE1 m w1 H1),(.exit 4,dvE2 w2 H2)] [] (r:=.ms 1 w2.length 0 w2.length) (H':=H2)) ?_
  show jX H2 0 (.ms 1 w2.length 0 w2.length)=_
  rw [hJ2.i.shut hJ2.h1,j2]
def rE (aC : (List Garea)) (aA : GPlan) (aB : (List Int)) (aD : (List (Int × Bool))) (aE : Int) : St:=⟨sp 71 [(2,(.ptr 0 1 0 0)),(4,(.ms 1 aB.length 0 aB.length)),(6,(.mp 2)),(15,(.vw (List.map gO aC))),(16,(iv ((aC.length : Nat) : Int))),(17,(iv aE))],[(.blk 3 [[(.vw (List.map dP aA.Nodes)),(.vw (List.map dR aA.Arcs)),(.vw (List.map dS aA.Faces))]]),(.blk 1 (List.map dS aB)),(.mp (entL dX gN aD))]⟩
theorem aB1 (aA : (List Garea)) (aB : GPlan) (aC : (List Int)) (aD : (List (Int × Bool))) (aE : Int) : eS true 0 3 (rE aA aB aC aD aE).heap:=(by exact (clo rfl (clo (hU (gJ 3)) (clo (kA (kv:=dX) (va:=gN) fun _=>rfl) rfl))))
def mU (aH : (List Garea)) (aA : GPlan) (aB : Int) (aC : (List Int)) (aD : (List (List Int))) (aE : (List Int)) (aF : (List Int)) (aG : (List (Int × Bool))) : St:=⟨sp 71 [(4,(.sl false [])),(5,bf)],[(.blk 3 [[(.vw (List.map dP aA.Nodes)),(.vw (List.map dR aA.Arcs)),(.vw (List.map dS aA.Faces))]]),(.blk 1 (List.map dS aF)),(.mp (entL dX gN aG)),(.blk 4 [[(iv aB),(.sl false (List.map dS aC)),(.sl false (List.map eR aD)),(.sl false (List.map dS aE))]])]⟩
def qL (aD : (List Garea)) (aA : GPlan) (aB : (List Int)) (aC : (List (Int × Bool))) : St:=⟨sp 71 [(2,(.ptr 0 1 0 0)),(4,(.ms 1 aB.length 0 aB.length)),(6,(.mp 2))],[(.blk 3 [[(.vw (List.map dP aA.Nodes)),(.vw (List.map dR aA.Arcs)),(.vw (List.map dS aA.Faces))]]),(.blk 1 (List.map dS aB)),(.mp (entL dX gN aC))]⟩
abbrev hp85 (aA : GPlan) (aB : (List Int)) (aC : (List (Int × Bool))) : Heap:=[(.blk 3 [[(.vw (List.map dP aA.Nodes)),(.vw (List.map dR aA.Arcs)),(.vw (List.map dS aA.Faces))]]),(.blk 1 (List.map dS aB)),(.mp (entL dX gN aC))]
abbrev hp86 (aA : GPlan) (aB : (List Int)) (aC : (List (Int × Bool))) (aD : Garea) : Heap:=[(.blk 3 [[(.vw (List.map dP aA.Nodes)),(.vw (List.map dR aA.Arcs)),(.vw (List.map dS aA.Faces))]]),(.blk 1 (List.map dS aB)),(.mp (entL dX gN aC)),(.blk 4 [(gO aD)])]
def aHq (aA : (List Int)) (aD : Int) (aC : (List Garea)) (aE : Int) (aB : GPlan) (aF : (List (Int × Bool))) (aG : Garea) : St:=⟨sp 71 [(2,(.ptr 0 1 0 0)),(4,(.ms 1 aA.length 0 aA.length)),(6,(.mp 2)),(8,(.ptr 3 1 0 0)),(9,(iv aD)),(15,(.vw (List.map gO aC))),(16,(iv ((aC.length : Nat) : Int))),(17,(iv aE))],[(.blk 3 [[(.vw (List.map dP aB.Nodes)),(.vw (List.map dR aB.Arcs)),(.vw (List.map dS aB.Faces))]]),(.blk 1 (List.map dS aA)),(.mp (entL dX gN aF)),(.blk 4 [(gO aG)])]⟩
def jO (aA : (List Int)) (aD : Int) (aC : (List Garea)) (aE : Int) (aB : GPlan) (aF : (List (Int × Bool))) (aG : Garea) (aH : Bool) : St:=⟨sp 71 [(2,(.ptr 0 1 0 0)),(4,(.ms 1 aA.length 0 aA.length)),(6,(.mp 2)),(8,(.ptr 3 1 0 0)),(9,(iv aD)),(15,(.vw (List.map gO aC))),(16,(iv ((aC.length : Nat) : Int))),(17,(iv aE)),(36,(bv aH))],[(.blk 3 [[(.vw (List.map dP aB.Nodes)),(.vw (List.map dR aB.Arcs)),(.vw (List.map dS aB.Faces))]]),(.blk 1 (List.map dS aA)),(.mp (entL dX gN aF)),(.blk 4 [(gO aG)])]⟩
def vH (n : Nat) (aC : (List Int)) (aA : Int) (aD : (List Garea)) (aE : Int) (aF : GPlan) (aB : (List (Int × Bool))) (aG : Garea) : Option Bool:=(cnd (aA == 0) (some true) (cnd ((Option.getD (mget aB aA) false)) (some true) (some false)))
theorem aAy (n : Nat) (aC : (List Int)) (aA : Int) (aF : (List Garea)) (aG : Int) (aD : GPlan) (aB : (List (Int × Bool))) (aE : Garea) (r : Bool) (h : vH n aC aA aF aG aD aB aE=some r) : eT lv71 lv15 false 0 4 (evC PP (evF PP T n) n 0 bIc (aHq aC aA aF aG aD aB aE))=some (.normal,jO aC aA aF aG aD aB aE r):=by
 unfold vH at h
 rcases cn h with ⟨aJ,aH,h⟩ | ⟨aJ,aH,h⟩
 ·obtain rfl:=si h
  exact dY (jO aC aA aF aG aD aB aE true) (qa 31 aH<|q0) [] []
 rcases cn h with ⟨aI,aK,h⟩ | ⟨aI,aK,h⟩
 ·have aL:=by have q:=xF (P:=PP) (cf:=evF PP T n) (fl:=0) (H:=(hp86 aD aC aB aE)) (id:=2) (kv:=dX) (va:=gN) (m:=aB) (k:=aA) (x:=(iv aA)) lG false rfl rfl; simp only [aI,gN] at q; exact q
  obtain rfl:=si h
  exact dY (jO aC aA aF aG aD aB aE true) (qb 35 aL<|qa 31 aH<|q0) [] []
 have aM:=by have q:=xF (P:=PP) (cf:=evF PP T n) (fl:=0) (H:=(hp86 aD aC aB aE)) (id:=2) (kv:=dX) (va:=gN) (m:=aB) (k:=aA) (x:=(iv aA)) lG false rfl rfl; simp only [aI,gN] at q; exact q
 obtain rfl:=si h
 exact dY (jO aC aA aF aG aD aB aE false) (qb 35 aM<|qa 31 aH<|q0) [] []
abbrev hp87 (aA : GPlan) (aB : (List Int)) (aC : (List (Int × Bool))) (aD : Int) (aE : Garea) : Heap:=[(.blk 3 [[(.vw (List.map dP aA.Nodes)),(.vw (List.map dR aA.Arcs)),(.vw (List.map dS aA.Faces))]]),(.blk 1 (List.map dS aB)),(.mp (entL dX gN (mput aC aD true))),(.blk 4 [(gO aE)])]
def aB0 (aA : (List Int)) (aC : Int) (aD : (List Garea)) (aF : Int) (aE : (List (List Int))) (aB : GPlan) (aG : (List (Int × Bool))) (aH : Garea) (aI : Int) : St:=⟨sp 71 [(2,(.ptr 0 1 0 0)),(4,(.ms 1 aA.length 0 aA.length)),(6,(.mp 2)),(9,(iv aC)),(15,(.vw (List.map gO aD))),(16,(iv ((aD.length : Nat) : Int))),(17,(iv aF)),(40,(.sl false (List.map eR aE))),(41,(iv ((aE.length : Nat) : Int))),(42,(iv aI))],[(.blk 3 [[(.vw (List.map dP aB.Nodes)),(.vw (List.map dR aB.Arcs)),(.vw (List.map dS aB.Faces))]]),(.blk 1 (List.map dS aA)),(.mp (entL dX gN (mput aG aC true))),(.blk 4 [(gO aH)])]⟩
def vN (aB : (List Int)) (aC : Int) (aF : (List Garea)) (aG : Int) (aH : (List (List Int))) (aA : GPlan) (aD : (List (Int × Bool))) (aE : Garea) : St:=⟨sp 71 [(4,(.sl false [])),(5,bf)],[(.blk 3 [[(.vw (List.map dP aA.Nodes)),(.vw (List.map dR aA.Arcs)),(.vw (List.map dS aA.Faces))]]),(.blk 1 (List.map dS aB)),(.mp (entL dX gN (mput aD aC true))),(.blk 4 [(gO aE)])]⟩
def vM (aA : (List Int)) (aC : Int) (aD : (List Garea)) (aE : Int) (aH : (List (List Int))) (aB : GPlan) (aF : (List (Int × Bool))) (aG : Garea) : St:=⟨sp 71 [(2,(.ptr 0 1 0 0)),(4,(.ms 1 aA.length 0 aA.length)),(6,(.mp 2)),(9,(iv aC)),(15,(.vw (List.map gO aD))),(16,(iv ((aD.length : Nat) : Int))),(17,(iv aE))],[(.blk 3 [[(.vw (List.map dP aB.Nodes)),(.vw (List.map dR aB.Arcs)),(.vw (List.map dS aB.Faces))]]),(.blk 1 (List.map dS aA)),(.mp (entL dX gN (mput aF aC true))),(.blk 4 [(gO aG)])]⟩
def aBz (aA : (List Int)) (aC : Int) (aD : (List Garea)) (aG : Int) (aE : (List (List Int))) (aH : Int) (aF : (List Int)) (aB : GPlan) (aI : (List (Int × Bool))) (aJ : Garea) (aK : Int) : St:=⟨sp 71 [(2,(.ptr 0 1 0 0)),(4,(.ms 1 aA.length 0 aA.length)),(6,(.mp 2)),(9,(iv aC)),(15,(.vw (List.map gO aD))),(16,(iv ((aD.length : Nat) : Int))),(17,(iv aG)),(40,(.sl false (List.map eR aE))),(41,(iv ((aE.length : Nat) : Int))),(42,(iv aH)),(46,(.sl false (List.map dS aF))),(47,(iv ((aF.length : Nat) : Int))),(48,(iv aK))],[(.blk 3 [[(.vw (List.map dP aB.Nodes)),(.vw (List.map dR aB.Arcs)),(.vw (List.map dS aB.Faces))]]),(.blk 1 (List.map dS aA)),(.mp (entL dX gN (mput aI aC true))),(.blk 4 [(gO aJ)])]⟩
def vK (aB : (List Int)) (aC : Int) (aF : (List Garea)) (aG : Int) (aH : (List (List Int))) (aI : Int) (aJ : (List Int)) (aA : GPlan) (aD : (List (Int × Bool))) (aE : Garea) : St:=⟨sp 71 [(4,(.sl false [])),(5,bf)],[(.blk 3 [[(.vw (List.map dP aA.Nodes)),(.vw (List.map dR aA.Arcs)),(.vw (List.map dS aA.Faces))]]),(.blk 1 (List.map dS aB)),(.mp (entL dX gN (mput aD aC true))),(.blk 4 [(gO aE)])]⟩
def vJ (aA : (List Int)) (aC : Int) (aD : (List Garea)) (aF : Int) (aE : (List (List Int))) (aG : Int) (aJ : (List Int)) (aB : GPlan) (aH : (List (Int × Bool))) (aI : Garea) : St:=⟨sp 71 [(2,(.ptr 0 1 0 0)),(4,(.ms 1 aA.length 0 aA.length)),(6,(.mp 2)),(9,(iv aC)),(15,(.vw (List.map gO aD))),(16,(iv ((aD.length : Nat) : Int))),(17,(iv aF)),(40,(.sl false (List.map eR aE))),(41,(iv ((aE.length : Nat) : Int))),(42,(iv aG))],[(.blk 3 [[(.vw (List.map dP aB.Nodes)),(.vw (List.map dR aB.Arcs)),(.vw (List.map dS aB.Faces))]]),(.blk 1 (List.map dS aA)),(.mp (entL dX gN (mput aH aC true))),(.blk 4 [(gO aI)])]⟩
def qQ (n : Nat) (aE : (List Int)) (aC : Int) (aF : (List Garea)) (aG : Int) (aH : (List (List Int))) (aI : Int) (aA : (List Int)) (aD : GPlan) (aJ : (List (Int × Bool))) (aK : Garea) : Nat→Int→Option (Unit ⊕ Unit)
 | 0,_=>none
 | m + 1,aB=>(cnd (decide (aB < ((aA.length : Nat) : Int))) (bnd (idx aA aB) fun aL=>(bnd (aBt n aD aL) fun aM=>(cnd (aM != aC) (some (Sum.inl ())) (qQ n aE aC aF aG aH aI aA aD aJ aK m (IntKind.i64.wrap (aB + 1)))))) (some (Sum.inr ())))
theorem vI (n : Nat) (aB : (List Int)) (aC : Int) (aF : (List Garea)) (aG : Int) (aH : (List (List Int))) (aI : Int) (aJ : (List Int)) (aA : GPlan) (aD : (List (Int × Bool))) (aE : Garea) : ∀ (m : Nat) (aK : Int) (r : (Unit ⊕ Unit)),qQ n aB aC aF aG aH aI aJ aA aD aE m aK=some r→eT lv72 lv15 false 0 4 (eG (eO (some lv74) false 0 4) (evC PP (evF PP T n) n 0 bE8) m (aBz aB aC aF aG aH aI aJ aA aD aE aK))=(match r with | (.inl r)=>some (.ret,vK aB aC aF aG aH aI aJ aA aD aE) | (.inr r)=>some ((.exit 4),vJ aB aC aF aG aH aI aJ aA aD aE))
 | 0,_,_,h=>by cases h
 | m + 1,aK,r,h=>by
  rw [qQ] at h
  rcases cn h with ⟨aP,aL,h⟩ | ⟨aP,aL,h⟩
  rotate_left
  ·obtain rfl:=si h
   exact eQ (some lv74) false (vJ aB aC aF aG aH aI aJ aA aD aE) (qa 49 aL<|q0) [] [] trivial
  obtain ⟨aQ,aR,h⟩:=dQ h
  have aN:=idxl (H:=(hp87 aA aB aD aC aE)) (f:=false) (c:=dS) aR (iD _)
  obtain ⟨aU,aS,h⟩:=dQ h
  have aO:=aDo n aA aQ _ aS
  rcases cn h with ⟨aT,aM,h⟩ | ⟨aT,aM,h⟩
  ·obtain rfl:=si h
   exact eQ (some lv74) false (vK aB aC aF aG aH aI aJ aA aD aE) (qa 56 aM<|qa 54 aO<|qa 50 aN<|qa 49 aL<|q0) [] [] trivial
  exact nx_q (aBz aB aC aF aG aH aI aJ aA aD aE (IntKind.i64.wrap (aK + 1))) (qa 56 aM<|qa 54 aO<|qa 50 aN<|qa 49 aL<|q0) [] [] trivial (vI n aB aC aF aG aH aI aJ aA aD aE m (IntKind.i64.wrap (aK + 1)) r h)
def qR (n : Nat) (aC : (List Int)) (aD : Int) (aE : (List Garea)) (aF : Int) (aA : (List (List Int))) (aG : GPlan) (aH : (List (Int × Bool))) (aI : Garea) : Nat→Int→Option (Unit ⊕ Unit)
 | 0,_=>none
 | m + 1,aB=>(cnd (decide (aB < ((aA.length : Nat) : Int))) (bnd (idx aA aB) fun aJ=>(bnd2 (qQ n aC aD aE aF aA aB aJ aG aH aI n 0) (fun aK=>(some (Sum.inl ()))) (fun aL=>(qR n aC aD aE aF aA aG aH aI m (IntKind.i64.wrap (aB + 1)))))) (some (Sum.inr ())))
theorem vL (n : Nat) (aB : (List Int)) (aC : Int) (aF : (List Garea)) (aG : Int) (aH : (List (List Int))) (aA : GPlan) (aD : (List (Int × Bool))) (aE : Garea) : ∀ (m : Nat) (aI : Int) (r : (Unit ⊕ Unit)),qR n aB aC aF aG aH aA aD aE m aI=some r→eT lv73 lv15 false 0 4 (eG (eO (some lv72) false 0 4) (evC PP (evF PP T n) n 0 bE9) m (aB0 aB aC aF aG aH aA aD aE aI))=(match r with | (.inl r)=>some (.ret,vN aB aC aF aG aH aA aD aE) | (.inr r)=>some ((.exit 2),vM aB aC aF aG aH aA aD aE))
 | 0,_,_,h=>by cases h
 | m + 1,aI,r,h=>by
  rw [qR] at h
  rcases cn h with ⟨aQ,aK,h⟩ | ⟨aQ,aK,h⟩
  rotate_left
  ·obtain rfl:=si h
   exact eQ (some lv72) false (vM aB aC aF aG aH aA aD aE) (qa 43 aK<|q0) [] [] trivial
  obtain ⟨aJ,aR,h⟩:=dQ h
  have aN:=idxl (H:=(hp87 aA aB aD aC aE)) (f:=false) (c:=eR) aR (pZ _)
  have aO:=nP (P:=PP) (cf:=evF PP T n) (fl:=0) (H:=(hp87 aA aB aD aC aE)) (f:=false) (c:=dS) (l:=aJ)
  have aP : eS false 0 4 [(.blk 3 [[(.vw (List.map dP aA.Nodes)),(.vw (List.map dR aA.Arcs)),(.vw (List.map dS aA.Faces))]]),(.blk 1 (List.map dS aB)),(.mp (entL dX gN (mput aD aC true))),(.blk 4 [(gO aE)])]:=trivial
  rcases gF h with ⟨aS,aL,h⟩ | ⟨aT,aL,h⟩
  ·have aM:=vI n aB aC aF aG aH aI aJ aA aD aE n 0 _ aL
   obtain rfl:=si h
   exact eQ (some lv72) false (vN aB aC aF aG aH aA aD aE) (qp aM<|qp aP<|qb 47 aO<|qa 44 aN<|qa 43 aK<|q0) [(.ret,vK aB aC aF aG aH aI aJ aA aD aE)] [] trivial
  have aM:=vI n aB aC aF aG aH aI aJ aA aD aE n 0 _ aL
  exact nx_q (aB0 aB aC aF aG aH aA aD aE (IntKind.i64.wrap (aI + 1))) (qp aM<|qp aP<|qb 47 aO<|qa 44 aN<|qa 43 aK<|q0) [((.exit 4),vJ aB aC aF aG aH aI aJ aA aD aE)] [] trivial (vL n aB aC aF aG aH aA aD aE m (IntKind.i64.wrap (aI + 1)) r h)
def aAa (aA : (List Int)) (aC : (List Garea)) (aE : Int) (aD : (List (List Int))) (aB : GPlan) (aF : (List (Int × Bool))) (aG : Garea) (aH : Int) : St:=⟨sp 71 [(2,(.ptr 0 1 0 0)),(4,(.ms 1 aA.length 0 aA.length)),(6,(.mp 2)),(9,(iv 0)),(15,(.vw (List.map gO aC))),(16,(iv ((aC.length : Nat) : Int))),(17,(iv aE)),(40,(.sl false (List.map eR aD))),(41,(iv ((aD.length : Nat) : Int))),(42,(iv aH))],[(.blk 3 [[(.vw (List.map dP aB.Nodes)),(.vw (List.map dR aB.Arcs)),(.vw (List.map dS aB.Faces))]]),(.blk 1 (List.map dS aA)),(.mp (entL dX gN aF)),(.blk 4 [(gO aG)])]⟩
def sF (aB : (List Int)) (aE : (List Garea)) (aF : Int) (aG : (List (List Int))) (aA : GPlan) (aC : (List (Int × Bool))) (aD : Garea) : St:=⟨sp 71 [(4,(.sl false [])),(5,bf)],[(.blk 3 [[(.vw (List.map dP aA.Nodes)),(.vw (List.map dR aA.Arcs)),(.vw (List.map dS aA.Faces))]]),(.blk 1 (List.map dS aB)),(.mp (entL dX gN aC)),(.blk 4 [(gO aD)])]⟩
def sE (aA : (List Int)) (aC : (List Garea)) (aD : Int) (aG : (List (List Int))) (aB : GPlan) (aE : (List (Int × Bool))) (aF : Garea) : St:=⟨sp 71 [(2,(.ptr 0 1 0 0)),(4,(.ms 1 aA.length 0 aA.length)),(6,(.mp 2)),(9,(iv 0)),(15,(.vw (List.map gO aC))),(16,(iv ((aC.length : Nat) : Int))),(17,(iv aD))],[(.blk 3 [[(.vw (List.map dP aB.Nodes)),(.vw (List.map dR aB.Arcs)),(.vw (List.map dS aB.Faces))]]),(.blk 1 (List.map dS aA)),(.mp (entL dX gN aE)),(.blk 4 [(gO aF)])]⟩
def zZ (aA : (List Int)) (aC : (List Garea)) (aF : Int) (aD : (List (List Int))) (aG : Int) (aE : (List Int)) (aB : GPlan) (aH : (List (Int × Bool))) (aI : Garea) (aJ : Int) : St:=⟨sp 71 [(2,(.ptr 0 1 0 0)),(4,(.ms 1 aA.length 0 aA.length)),(6,(.mp 2)),(9,(iv 0)),(15,(.vw (List.map gO aC))),(16,(iv ((aC.length : Nat) : Int))),(17,(iv aF)),(40,(.sl false (List.map eR aD))),(41,(iv ((aD.length : Nat) : Int))),(42,(iv aG)),(46,(.sl false (List.map dS aE))),(47,(iv ((aE.length : Nat) : Int))),(48,(iv aJ))],[(.blk 3 [[(.vw (List.map dP aB.Nodes)),(.vw (List.map dR aB.Arcs)),(.vw (List.map dS aB.Faces))]]),(.blk 1 (List.map dS aA)),(.mp (entL dX gN aH)),(.blk 4 [(gO aI)])]⟩
def sC (aB : (List Int)) (aE : (List Garea)) (aF : Int) (aG : (List (List Int))) (aH : Int) (aI : (List Int)) (aA : GPlan) (aC : (List (Int × Bool))) (aD : Garea) : St:=⟨sp 71 [(4,(.sl false [])),(5,bf)],[(.blk 3 [[(.vw (List.map dP aA.Nodes)),(.vw (List.map dR aA.Arcs)),(.vw (List.map dS aA.Faces))]]),(.blk 1 (List.map dS aB)),(.mp (entL dX gN aC)),(.blk 4 [(gO aD)])]⟩
def sB (aA : (List Int)) (aC : (List Garea)) (aE : Int) (aD : (List (List Int))) (aF : Int) (aI : (List Int)) (aB : GPlan) (aG : (List (Int × Bool))) (aH : Garea) : St:=⟨sp 71 [(2,(.ptr 0 1 0 0)),(4,(.ms 1 aA.length 0 aA.length)),(6,(.mp 2)),(9,(iv 0)),(15,(.vw (List.map gO aC))),(16,(iv ((aC.length : Nat) : Int))),(17,(iv aE)),(40,(.sl false (List.map eR aD))),(41,(iv ((aD.length : Nat) : Int))),(42,(iv aF))],[(.blk 3 [[(.vw (List.map dP aB.Nodes)),(.vw (List.map dR aB.Arcs)),(.vw (List.map dS aB.Faces))]]),(.blk 1 (List.map dS aA)),(.mp (entL dX gN aG)),(.blk 4 [(gO aH)])]⟩
def nZ (n : Nat) (aD : (List Int)) (aE : (List Garea)) (aF : Int) (aG : (List (List Int))) (aH : Int) (aA : (List Int)) (aC : GPlan) (aI : (List (Int × Bool))) (aJ : Garea) : Nat→Int→Option (Unit ⊕ Unit)
 | 0,_=>none
 | m + 1,aB=>(cnd (decide (aB < ((aA.length : Nat) : Int))) (bnd (idx aA aB) fun aK=>(bnd (aBt n aC aK) fun aL=>(cnd (aL != 0) (some (Sum.inl ())) (nZ n aD aE aF aG aH aA aC aI aJ m (IntKind.i64.wrap (aB + 1)))))) (some (Sum.inr ())))
theorem sA (n : Nat) (aB : (List Int)) (aE : (List Garea)) (aF : Int) (aG : (List (List Int))) (aH : Int) (aI : (List Int)) (aA : GPlan) (aC : (List (Int × Bool))) (aD : Garea) : ∀ (m : Nat) (aJ : Int) (r : (Unit ⊕ Unit)),nZ n aB aE aF aG aH aI aA aC aD m aJ=some r→eT lv72 lv15 false 0 4 (eG (eO (some lv74) false 0 4) (evC PP (evF PP T n) n 0 bE8) m (zZ aB aE aF aG aH aI aA aC aD aJ))=(match r with | (.inl r)=>some (.ret,sC aB aE aF aG aH aI aA aC aD) | (.inr r)=>some ((.exit 4),sB aB aE aF aG aH aI aA aC aD))
 | 0,_,_,h=>by cases h
 | m + 1,aJ,r,h=>by
  rw [nZ] at h
  rcases cn h with ⟨aO,aK,h⟩ | ⟨aO,aK,h⟩
  rotate_left
  ·obtain rfl:=si h
   exact eQ (some lv74) false (sB aB aE aF aG aH aI aA aC aD) (qa 49 aK<|q0) [] [] trivial
  obtain ⟨aP,aQ,h⟩:=dQ h
  have aM:=idxl (H:=(hp86 aA aB aC aD)) (f:=false) (c:=dS) aQ (iD _)
  obtain ⟨aT,aR,h⟩:=dQ h
  have aN:=aDo n aA aP _ aR
  rcases cn h with ⟨aS,aL,h⟩ | ⟨aS,aL,h⟩
  ·obtain rfl:=si h
   exact eQ (some lv74) false (sC aB aE aF aG aH aI aA aC aD) (qa 56 aL<|qa 54 aN<|qa 50 aM<|qa 49 aK<|q0) [] [] trivial
  exact nx_q (zZ aB aE aF aG aH aI aA aC aD (IntKind.i64.wrap (aJ + 1))) (qa 56 aL<|qa 54 aN<|qa 50 aM<|qa 49 aK<|q0) [] [] trivial (sA n aB aE aF aG aH aI aA aC aD m (IntKind.i64.wrap (aJ + 1)) r h)
def oA (n : Nat) (aC : (List Int)) (aD : (List Garea)) (aE : Int) (aA : (List (List Int))) (aF : GPlan) (aG : (List (Int × Bool))) (aH : Garea) : Nat→Int→Option (Unit ⊕ Unit)
 | 0,_=>none
 | m + 1,aB=>(cnd (decide (aB < ((aA.length : Nat) : Int))) (bnd (idx aA aB) fun aI=>(bnd2 (nZ n aC aD aE aA aB aI aF aG aH n 0) (fun aJ=>(some (Sum.inl ()))) (fun aK=>(oA n aC aD aE aA aF aG aH m (IntKind.i64.wrap (aB + 1)))))) (some (Sum.inr ())))
theorem sD (n : Nat) (aB : (List Int)) (aE : (List Garea)) (aF : Int) (aG : (List (List Int))) (aA : GPlan) (aC : (List (Int × Bool))) (aD : Garea) : ∀ (m : Nat) (aH : Int) (r : (Unit ⊕ Unit)),oA n aB aE aF aG aA aC aD m aH=some r→eT lv73 lv15 false 0 4 (eG (eO (some lv72) false 0 4) (evC PP (evF PP T n) n 0 bE9) m (aAa aB aE aF aG aA aC aD aH))=(match r with | (.inl r)=>some (.ret,sF aB aE aF aG aA aC aD) | (.inr r)=>some ((.exit 2),sE aB aE aF aG aA aC aD))
 | 0,_,_,h=>by cases h
 | m + 1,aH,r,h=>by
  rw [oA] at h
  rcases cn h with ⟨aP,aJ,h⟩ | ⟨aP,aJ,h⟩
  rotate_left
  ·obtain rfl:=si h
   exact eQ (some lv72) false (sE aB aE aF aG aA aC aD) (qa 43 aJ<|q0) [] [] trivial
  obtain ⟨aI,aQ,h⟩:=dQ h
  have aM:=idxl (H:=(hp86 aA aB aC aD)) (f:=false) (c:=eR) aQ (pZ _)
  have aN:=nP (P:=PP) (cf:=evF PP T n) (fl:=0) (H:=(hp86 aA aB aC aD)) (f:=false) (c:=dS) (l:=aI)
  have aO : eS false 0 4 [(.blk 3 [[(.vw (List.map dP aA.Nodes)),(.vw (List.map dR aA.Arcs)),(.vw (List.map dS aA.Faces))]]),(.blk 1 (List.map dS aB)),(.mp (entL dX gN aC)),(.blk 4 [(gO aD)])]:=trivial
  rcases gF h with ⟨aR,aK,h⟩ | ⟨aS,aK,h⟩
  ·have aL:=sA n aB aE aF aG aH aI aA aC aD n 0 _ aK
   obtain rfl:=si h
   exact eQ (some lv72) false (sF aB aE aF aG aA aC aD) (qp aL<|qp aO<|qb 47 aN<|qa 44 aM<|qa 43 aJ<|q0) [(.ret,sC aB aE aF aG aH aI aA aC aD)] [] trivial
  have aL:=sA n aB aE aF aG aH aI aA aC aD n 0 _ aK
  exact nx_q (aAa aB aE aF aG aA aC aD (IntKind.i64.wrap (aH + 1))) (qp aL<|qp aO<|qb 47 aN<|qa 44 aM<|qa 43 aJ<|q0) [((.exit 4),sB aB aE aF aG aH aI aA aC aD)] [] trivial (sD n aB aE aF aG aA aC aD m (IntKind.i64.wrap (aH + 1)) r h)
def oD (n : Nat) (aE : (List Garea)) (aF : GPlan) : Nat→(List Int)→(List (Int × Bool))→Int→Option ((Int × (List Int) × (List (List Int)) × (List Int) × (List Int) × (List (Int × Bool))) ⊕ ((List Int) × (List (Int × Bool))))
 | 0,_,_,_=>none
 | m + 1,aB,aC,aD=>(cnd (decide (aD < ((aE.length : Nat) : Int))) (bnd (idx aE aD) fun aA=>(cnd (decide (aD > 0)) (bnd (idx aA.outer 0) fun aH=>(bnd (aBt n aF aH) fun aG=>(bnd (vH n aB aG aE aD aF aC aA) fun aI=>(cnd (aI) (some (Sum.inl (aA.twice,aA.outer,aA.inner,aA.alone,aB,aC))) (bnd (mV n aA) fun aJ=>(bnd2 (qR n aB aG aE aD aJ aF aC aA n 0) (fun aN=>(some (Sum.inl (aA.twice,aA.outer,aA.inner,aA.alone,aB,(mput aC aG true))))) (fun aO=>(bnd (app aB [aG]) fun aK=>(oD n aE aF m aK (mput aC aG true) (IntKind.i64.wrap (aD + 1))))))))))) (bnd (mV n aA) fun aL=>(bnd2 (oA n aB aE aD aL aF aC aA n 0) (fun aP=>(some (Sum.inl (aA.twice,aA.outer,aA.inner,aA.alone,aB,aC)))) (fun aQ=>(bnd (app aB [0]) fun aM=>(oD n aE aF m aM aC (IntKind.i64.wrap (aD + 1))))))))) (some (Sum.inr (aB,aC))))
theorem qK (n : Nat) (aE : (List Garea)) (aA : GPlan) : ∀ (m : Nat) (aD : (List Int)) (aC : (List (Int × Bool))) (aF : Int) (r : ((Int × (List Int) × (List (List Int)) × (List Int) × (List Int) × (List (Int × Bool))) ⊕ ((List Int) × (List (Int × Bool))))),oD n aE aA m aD aC aF=some r→eT lv70 lv15 true 0 3 (eG (eO (some lv69) true 0 3) (evC PP (evF PP T n) n 0 bId) m (rE aE aA aD aC aF))=(match r with | (.inl r)=>some (.ret,mU aE aA r.1 r.2.1 r.2.2.1 r.2.2.2.1 r.2.2.2.2.1 r.2.2.2.2.2) | (.inr r)=>some ((.exit 0),qL aE aA r.1 r.2))
 | 0,_,_,_,_,h=>by cases h
 | m + 1,aD,aC,aF,r,h=>by
  rw [oD] at h
  rcases cn h with ⟨ae,aH,h⟩ | ⟨ae,aH,h⟩
  rotate_left
  ·obtain rfl:=si h
   exact eQ (some lv69) true (qL aE aA aD aC) (qa 18 aH<|q0) [] [] (by exact (clo rfl (clo (hU (gJ 3)) (clo (kA (kv:=dX) (va:=gN) fun _=>rfl) rfl))))
  obtain ⟨aB,af,h⟩:=dQ h
  have aK:=idxv (H:=(hp85 aA aD aC)) (c:=gO) af (aLo _)
  rcases cn h with ⟨ag,aI,h⟩ | ⟨ag,aI,h⟩
  rotate_left
  ·obtain ⟨aL,ah,h⟩:=dQ h
   have aU:=xX n aB _ ah
   have aV:=nP (P:=PP) (cf:=evF PP T n) (fl:=0) (H:=(hp86 aA aD aC aB)) (f:=false) (c:=eR) (l:=aL)
   have aW : eS false 0 4 [(.blk 3 [[(.vw (List.map dP aA.Nodes)),(.vw (List.map dR aA.Arcs)),(.vw (List.map dS aA.Faces))]]),(.blk 1 (List.map dS aD)),(.mp (entL dX gN aC)),(.blk 4 [(gO aB)])]:=trivial
   rcases gF h with ⟨ar,aN,h⟩ | ⟨au,aN,h⟩
   ·have aO:=sD n aD aE aF aL aA aC aB n 0 _ aN
    obtain rfl:=si h
    exact eQ (some lv69) true (mU aE aA aB.twice aB.outer aB.inner aB.alone aD aC) (qp aO<|qp aW<|qb 41 aV<|qa 40 aU<|qa 23 aI<|qa 20 aK<|qa 18 aH<|q0) [(.ret,sF aD aE aF aL aA aC aB)] [none] trivial
   have aO:=sD n aD aE aF aL aA aC aB n 0 _ aN
   obtain ⟨aX,ai,h⟩:=dQ h
   have aj:=yN (fl:=0) (H:=(hp86 aA aD aC aB)) (id:=1) (s:=1) (bytes:=8) (c:=dS) (l:=aD) ai rfl iD (by omega) (by omega) (by omega)
   exact nx_q (rE aE aA aX aC (IntKind.i64.wrap (aF + 1))) (qc 62 aj<|qp aO<|qp aW<|qb 41 aV<|qa 40 aU<|qa 23 aI<|qa 20 aK<|qa 18 aH<|q0) [((.exit 2),sE aD aE aF aL aA aC aB)] [none] (aB1 _ _ _ _ _) (qK n aE aA m aX aC (IntKind.i64.wrap (aF + 1)) r h)
  obtain ⟨ak,al,h⟩:=dQ h
  have aP:=idxl (H:=(hp86 aA aD aC aB)) (f:=false) (c:=dS) al (iD _)
  obtain ⟨aG,am,h⟩:=dQ h
  have aQ:=aDo n aA ak _ am
  obtain ⟨av,aY,h⟩:=dQ h
  rcases cn h with ⟨aR,an,h⟩ | ⟨aR,an,h⟩
  ·have aJ:=aAy n aD aG aE aF aA aC aB _ aY
   rw [aR] at aJ
   obtain rfl:=si h
   exact eQ (some lv69) true (mU aE aA aB.twice aB.outer aB.inner aB.alone aD aC) (qp aJ<|qa 29 aQ<|qa 27 aP<|qa 23 aI<|qa 20 aK<|qa 18 aH<|q0) [(.normal,jO aD aG aE aF aA aC aB true)] [none] trivial
  have aJ:=aAy n aD aG aE aF aA aC aB _ aY
  rw [aR] at aJ
  have aZ:=aIl (P:=PP) (cf:=evF PP T n) (fl:=0) (H:=(hp86 aA aD aC aB)) (id:=2) (kv:=dX) (va:=gN) (m:=aC) (k:=aG) (x:=(iv aG)) lG true rfl (by omega) rfl
  obtain ⟨aM,ao,h⟩:=dQ h
  have aa:=xX n aB _ ao
  have ab:=nP (P:=PP) (cf:=evF PP T n) (fl:=0) (H:=(hp87 aA aD aC aG aB)) (f:=false) (c:=eR) (l:=aM)
  have ac : eS false 0 4 [(.blk 3 [[(.vw (List.map dP aA.Nodes)),(.vw (List.map dR aA.Arcs)),(.vw (List.map dS aA.Faces))]]),(.blk 1 (List.map dS aD)),(.mp (entL dX gN (mput aC aG true))),(.blk 4 [(gO aB)])]:=trivial
  rcases gF h with ⟨aw,aS,h⟩ | ⟨ax,aS,h⟩
  ·have aT:=vL n aD aG aE aF aM aA aC aB n 0 _ aS
   obtain rfl:=si h
   exact eQ (some lv69) true (mU aE aA aB.twice aB.outer aB.inner aB.alone aD (mput aC aG true)) (qp aT<|qp ac<|qb 41 ab<|qa 40 aa<|qp aZ<|qp aJ<|qa 29 aQ<|qa 27 aP<|qa 23 aI<|qa 20 aK<|qa 18 aH<|q0) [(.normal,jO aD aG aE aF aA aC aB false),(.ret,vN aD aG aE aF aM aA aC aB)] [none,some (hp87 aA aD aC aG aB)] trivial
  have aT:=vL n aD aG aE aF aM aA aC aB n 0 _ aS
  obtain ⟨ad,ap,h⟩:=dQ h
  have aq:=yN (fl:=0) (H:=(hp87 aA aD aC aG aB)) (id:=1) (s:=1) (bytes:=8) (c:=dS) (l:=aD) ap rfl iD (by omega) (by omega) (by omega)
  exact nx_q (rE aE aA ad (mput aC aG true) (IntKind.i64.wrap (aF + 1))) (qc 62 aq<|qp aT<|qp ac<|qb 41 ab<|qa 40 aa<|qp aZ<|qp aJ<|qa 29 aQ<|qa 27 aP<|qa 23 aI<|qa 20 aK<|qa 18 aH<|q0) [(.normal,jO aD aG aE aF aA aC aB false),((.exit 2),vM aD aG aE aF aM aA aC aB)] [none,some (hp87 aA aD aC aG aB)] (aB1 _ _ _ _ _) (qK n aE aA m ad (mput aC aG true) (IntKind.i64.wrap (aF + 1)) r h)
abbrev hp89 (aA : GPlan) (aB : ((List Int) × (List (Int × Bool)))) : Heap:=[(.blk 3 [[(.vw (List.map dP aA.Nodes)),(.vw (List.map dR aA.Arcs)),(.vw (List.map dS aA.Faces))]]),(.blk 1 (List.map dS aB.1)),(.mp (entL dX gN aB.2))]
def aAz : Nat→GPlan→(List Garea)→Option ((List Int) × Bool)
 | 0,_,_=>none
 | n + 1,aB,aC=>(bnd2 (oD n aC aB n [] ([] : List (Int × Bool)) 0) (fun aD=>(some ([],false))) (fun aA=>(cnd (((aA.2.length : Nat) : Int) == ((aB.Faces.length : Nat) : Int)) (some (aA.1,true)) (some (aA.1,false)))))
theorem aDx (n : Nat) (aB : GPlan) (aC : (List Garea)) (r : ((List Int) × Bool)) (h : aAz n aB aC=some r) : pv PP T n 28 [(kU aB),(.vw (List.map gO aC))]=some (.tup [(.sl false (List.map dS r.1)),(bv r.2)]):=by
 cases n with
 | zero=>cases h
 | succ n =>
  rw [aAz] at h
  have aF:=iM (P:=PP) (cf:=evF PP T n) (fl:=0) (H:=(hp84 aB)) (c:=gO) (l:=aC)
  have aG : eS true 0 3 [(.blk 3 [[(.vw (List.map dP aB.Nodes)),(.vw (List.map dR aB.Arcs)),(.vw (List.map dS aB.Faces))]]),(.blk 1 (List.map dS [])),(.mp (entL dX gN ([] : List (Int × Bool))))]:=(by exact (clo rfl (clo (hU (gJ 3)) (clo (kA (kv:=dX) (va:=gN) fun _=>rfl) rfl))))
  rcases gF h with ⟨aD,aH,h⟩ | ⟨aA,aH,h⟩
  ·have aE:=qK n aC aB n [] ([] : List (Int × Bool)) 0 _ aH
   obtain rfl:=si h
   exact pv_q F28 (qp aE<|qp aG<|qb 16 aF<|q0) [(.ret,mU aC aB aD.1 aD.2.1 aD.2.2.1 aD.2.2.2.1 aD.2.2.2.2.1 aD.2.2.2.2.2)] []
  have aE:=qK n aC aB n [] ([] : List (Int × Bool)) 0 _ aH
  have aJ:=bEc (P:=PP) (cf:=evF PP T n) (fl:=0) (H:=(hp89 aB aA)) (id:=2) (kv:=dX) (va:=gN) (m:=aA.2) rfl
  have aK:=iM (P:=PP) (cf:=evF PP T n) (fl:=0) (H:=(hp89 aB aA)) (c:=dS) (l:=aB.Faces)
  rcases cn h with ⟨aL,aI,h⟩ | ⟨aL,aI,h⟩
  ·obtain rfl:=si h
   refine aFd (iT F28 (qa 70 aI<|qb 69 aK<|qb 66 aJ<|qp aE<|qp aG<|qb 16 aF<|q0) [((.exit 0),qL aC aB aA.1 aA.2)] [] (r:=(.tup [(.ms 1 aA.1.length 0 aA.1.length),bt])) (H':=(hp89 aB aA))) ?_
   show (AV.tup [(jX (hp89 aB aA) 0 (.ms 1 aA.1.length 0 aA.1.length)),(jX (hp89 aB aA) 0 bt)])=_
   rw [aAx (H:=(hp89 aB aA)) (id:=1) (s:=1) (c:=dS) (l:=aA.1) rfl (zV _ _ _)]
   first | done | rfl
  obtain rfl:=si h
  refine aFd (iT F28 (qa 70 aI<|qb 69 aK<|qb 66 aJ<|qp aE<|qp aG<|qb 16 aF<|q0) [((.exit 0),qL aC aB aA.1 aA.2)] [] (r:=(.tup [(.ms 1 aA.1.length 0 aA.1.length),bf])) (H':=(hp89 aB aA))) ?_
  show (AV.tup [(jX (hp89 aB aA) 0 (.ms 1 aA.1.length 0 aA.1.length)),(jX (hp89 aB aA) 0 bf)])=_
  rw [aAx (H:=(hp89 aB aA)) (id:=1) (s:=1) (c:=dS) (l:=aA.1) rfl (zV _ _ _)]
  first | done | rfl
def zX : Nat→GPlan→Option ((List Garea) × (List Int) × Unit × Int)
 | 0,_=>none
 | n + 1,aA=>(bnd (aCg n aA) fun aB=>(cnd (aB.2 != 0) (some ([],[],(),aB.2)) (bnd (xK n aA) fun aE=>(bnd (zN n aA aB.1 aE) fun aC=>(bnd (aAz n aA aC) fun aD=>(cnd (aD.2) (some (aC,aD.1,(),0)) (some ([],[],(),12))))))))
end Go.Proofs.YtapabkfjeiknbaaGreat.Av
