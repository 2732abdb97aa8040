/- A part of the proof of a law of the chapter warp: an evaluator of the program, proved sound, and what it says. -/
import Derived.Test.YtapabkfjeiknbaaGreatWeTl0
set_option linter.unusedVariables false
set_option linter.unusedSimpArgs false
namespace Go.Proofs.YtapabkfjeiknbaaGreat.Av
open Go
theorem aPw (n : Nat) (aA : GPoint) (aC : GPoint) (aB : GPoint) (aD : GPoint) (r : Int) (h : aG2 n aA aC aB aD=some r) : pv PP T n 89 [(.agg (dW aA)),(.agg (dW aC)),(.agg (dW aB)),(.agg (dW aD))]=some (iv r):=by
 cases n with
 | zero=>cases h
 | succ n =>
  rw [aG2] at h
  obtain ⟨al,aQ,h⟩:=dQ h
  rcases cn h with ⟨aI,aX,h⟩ | ⟨aI,aX,h⟩
  rotate_left
  ·have aY:=by have q:=oW n [aA,aC,aB,aD] _ aQ; rw [aI] at q; exact q
   obtain rfl:=si h
   exact pv_q F89 (qa 15 aY<|q0) [] []
  have aE:=by have q:=oW n [aA,aC,aB,aD] _ aQ; rw [aI] at q; exact q
  rcases cn h with ⟨aJ,aZ,h⟩ | ⟨aJ,aZ,h⟩
  ·have aR:=jC (cf:=evF PP T n) (fl:=0) (H:=(hp23 aA aC aB aD)) (a:=aA) (b:=aC) aJ
   obtain ⟨am,aS,h⟩:=dQ h
   rcases cn h with ⟨aK,aa,h⟩ | ⟨aK,aa,h⟩
   ·have ab:=by have q:=gU n aB aD aA _ aS; rw [aK] at q; exact q
    obtain rfl:=si h
    exact pv_q F89 (qa 46 ab<|qb 42 aR<|qa 15 aE<|q0) [] []
   have ac:=by have q:=gU n aB aD aA _ aS; rw [aK] at q; exact q
   obtain rfl:=si h
   exact pv_q F89 (qa 46 ac<|qb 42 aR<|qa 15 aE<|q0) [] []
  have aG:=jC (cf:=evF PP T n) (fl:=0) (H:=(hp23 aA aC aB aD)) (a:=aA) (b:=aC) aJ
  rcases cn h with ⟨aL,ad,h⟩ | ⟨aL,ad,h⟩
  ·have aT:=jC (cf:=evF PP T n) (fl:=0) (H:=(hp23 aA aC aB aD)) (a:=aB) (b:=aD) aL
   obtain ⟨an,aU,h⟩:=dQ h
   rcases cn h with ⟨aM,ae,h⟩ | ⟨aM,ae,h⟩
   ·have af:=by have q:=gU n aA aC aB _ aU; rw [aM] at q; exact q
    obtain rfl:=si h
    exact pv_q F89 (qa 54 af<|qb 50 aT<|qb 42 aG<|qa 15 aE<|q0) [] []
   have ag:=by have q:=gU n aA aC aB _ aU; rw [aM] at q; exact q
   obtain rfl:=si h
   exact pv_q F89 (qa 54 ag<|qb 50 aT<|qb 42 aG<|qa 15 aE<|q0) [] []
  have aN:=jC (cf:=evF PP T n) (fl:=0) (H:=(hp23 aA aC aB aD)) (a:=aB) (b:=aD) aL
  obtain ⟨ao,aV,h⟩:=dQ h
  rcases cn h with ⟨aO,ah,h⟩ | ⟨aO,ah,h⟩
  ·have aF:=aD8 n aA aC aB aD _ aV
   rw [aO] at aF
   obtain ⟨ap,ai,h⟩:=dQ h
   have aj:=aL2 n aA aC aB aD _ ai
   obtain rfl:=si h
   exact pv_q F89 (qa 72 aj<|qp aF<|qb 50 aN<|qb 42 aG<|qa 15 aE<|q0) [(.normal,mF aA aC aB aD true)] []
  have aF:=aD8 n aA aC aB aD _ aV
  rw [aO] at aF
  obtain ⟨aq,aW,h⟩:=dQ h
  rcases cn h with ⟨aP,ak,h⟩ | ⟨aP,ak,h⟩
  ·have aH:=aD7 n aA aC aB aD _ aW
   rw [aP] at aH
   obtain rfl:=si h
   exact pv_q F89 (qp aH<|qp aF<|qb 50 aN<|qb 42 aG<|qa 15 aE<|q0) [(.normal,mF aA aC aB aD false),(.normal,oT aA aC aB aD true)] []
  have aH:=aD7 n aA aC aB aD _ aW
  rw [aP] at aH
  obtain rfl:=si h
  exact pv_q F89 (qp aH<|qp aF<|qb 50 aN<|qb 42 aG<|qa 15 aE<|q0) [(.normal,mF aA aC aB aD false),(.normal,oT aA aC aB aD false)] []
def mX : Nat→Gsegment→Option Bool
 | 0,_=>none
 | n + 1,aA=>(cnd (aA.at_ == 0) (some true) (some false))
theorem mW (n : Nat) (aB : Gsegment) (r : Bool) (h : mX n aB=some r) : pv PP T n 78 [(.agg (dV aB))]=some (bv r):=by
 cases n with
 | zero=>cases h
 | succ n =>
  rw [mX] at h
  rcases cn h with ⟨aC,aA,h⟩ | ⟨aC,aA,h⟩
  ·obtain rfl:=si h
   exact pv_q F78 (qa 5 aA<|q0) [] []
  obtain rfl:=si h
  exact pv_q F78 (qa 5 aA<|q0) [] []
abbrev hp24 (aA : Gsegment) : Heap:=[(.blk 2 [[(.sptr (eA aA.line)),(iv aA.at_)]])]
def lQ : Nat→Gsegment→Option Bool
 | 0,_=>none
 | n + 1,aA=>(cnd (aA.at_ == (IntKind.i64.wrap (((aA.line.path.length : Nat) : Int) - 2))) (some true) (some false))
theorem jT (n : Nat) (aA : Gsegment) (r : Bool) (h : lQ n aA=some r) : pv PP T n 79 [(.agg (dV aA))]=some (bv r):=by
 cases n with
 | zero=>cases h
 | succ n =>
  rw [lQ] at h
  have aC:=nP (P:=PP) (cf:=evF PP T n) (fl:=0) (H:=(hp24 aA)) (f:=false) (c:=dW) (l:=aA.line.path)
  rcases cn h with ⟨aD,aB,h⟩ | ⟨aD,aB,h⟩
  ·obtain rfl:=si h
   exact pv_q F79 (qa 12 aB<|qb 10 aC<|q0) [] []
  obtain rfl:=si h
  exact pv_q F79 (qa 12 aB<|qb 10 aC<|q0) [] []
abbrev hp26 (aA : GPlan) (aB : ((List Gsegment) × Bool)) : Heap:=[(.blk 3 [[(.vw (List.map dP aA.Nodes)),(.vw (List.map dR aA.Arcs)),(.vw (List.map dS aA.Faces))]]),(.blk 2 (List.map dV aB.1))]
abbrev hp27 (aA : GPlan) (aB : ((List Gsegment) × Bool)) : Heap:=[(.blk 3 [[(.vw (List.map dP aA.Nodes)),(.vw (List.map dR aA.Arcs)),(.vw (List.map dS aA.Faces))]]),(.blk 2 (List.map dV aB.1)),(.mp (entL dX eB ([] : List (Int × GPoint))))]
def yS (aB : ((List Gsegment) × Bool)) (aA : GPlan) (aC : (List (Int × GPoint))) (aD : Int) : St:=⟨sp 117 [(1,(.ptr 0 1 0 0)),(3,(.ms 1 aB.1.length 0 aB.1.length)),(5,(.mp 2)),(25,(.vw (List.map dP aA.Nodes))),(26,(iv ((aA.Nodes.length : Nat) : Int))),(27,(iv aD))],[(.blk 3 [[(.vw (List.map dP aA.Nodes)),(.vw (List.map dR aA.Arcs)),(.vw (List.map dS aA.Faces))]]),(.blk 2 (List.map dV aB.1)),(.mp (entL dX eB aC))]⟩
theorem aI7 (aA : ((List Gsegment) × Bool)) (aB : GPlan) (aC : (List (Int × GPoint))) (aD : Int) : eS true 0 3 (yS aA aB aC aD).heap:=(by exact (clo rfl (clo (hU (eI 3)) (clo (kA (kv:=dX) (va:=eB) fun _=>rfl) rfl))))
def oI (aA : ((List Gsegment) × Bool)) (aB : GPlan) (aC : (List (Int × GPoint))) : St:=⟨sp 117 [(1,(.ptr 0 1 0 0)),(3,(.ms 1 aA.1.length 0 aA.1.length)),(5,(.mp 2))],[(.blk 3 [[(.vw (List.map dP aB.Nodes)),(.vw (List.map dR aB.Arcs)),(.vw (List.map dS aB.Faces))]]),(.blk 2 (List.map dV aA.1)),(.mp (entL dX eB aC))]⟩
abbrev hp28 (aA : GPlan) (aB : ((List Gsegment) × Bool)) (aC : (List (Int × GPoint))) : Heap:=[(.blk 3 [[(.vw (List.map dP aA.Nodes)),(.vw (List.map dR aA.Arcs)),(.vw (List.map dS aA.Faces))]]),(.blk 2 (List.map dV aB.1)),(.mp (entL dX eB aC))]
abbrev hp29 (aA : GPlan) (aB : ((List Gsegment) × Bool)) (aC : (List (Int × GPoint))) (aD : GNode) : Heap:=[(.blk 3 [[(.vw (List.map dP aA.Nodes)),(.vw (List.map dR aA.Arcs)),(.vw (List.map dS aA.Faces))]]),(.blk 2 (List.map dV aB.1)),(.mp (entL dX eB aC)),(.blk 3 [(dP aD)])]
abbrev hp30 (aA : GPlan) (aC : ((List Gsegment) × Bool)) (aD : (List (Int × GPoint))) (aB : GNode) : Heap:=[(.blk 3 [[(.vw (List.map dP aA.Nodes)),(.vw (List.map dR aA.Arcs)),(.vw (List.map dS aA.Faces))]]),(.blk 2 (List.map dV aC.1)),(.mp (entL dX eB (mput aD aB.ID aB.At))),(.blk 3 [(dP aB)])]
def tD (n : Nat) (aE : ((List Gsegment) × Bool)) (aA : GPlan) : Nat→(List (Int × GPoint))→Int→Option (List (Int × GPoint))
 | 0,_,_=>none
 | m + 1,aC,aB=>(cnd (decide (aB < ((aA.Nodes.length : Nat) : Int))) (bnd (idx aA.Nodes aB) fun aD=>(tD n aE aA m (mput aC aD.ID aD.At) (IntKind.i64.wrap (aB + 1)))) (some aC))
theorem aB5 (n : Nat) (aB : ((List Gsegment) × Bool)) (aC : GPlan) : ∀ (m : Nat) (aA : (List (Int × GPoint))) (aE : Int) (r : (List (Int × GPoint))),tD n aB aC m aA aE=some r→eT lv37 [false,false,true] true 0 3 (eG (eO (some lv36) true 0 3) (evC PP (evF PP T n) n 0 bHo) m (yS aB aC aA aE))=some ((.exit 0),oI aB aC r)
 | 0,_,_,_,h=>by cases h
 | m + 1,aA,aE,r,h=>by
  rw [tD] at h
  rcases cn h with ⟨aG,aF,h⟩ | ⟨aG,aF,h⟩
  rotate_left
  ·obtain rfl:=si h
   exact eQ (some lv36) true (oI aB aC aA) (qa 28 aF<|q0) [] [] (by exact (clo rfl (clo (hU (eI 3)) (clo (kA (kv:=dX) (va:=eB) fun _=>rfl) rfl))))
  obtain ⟨aD,aH,h⟩:=dQ h
  have aI:=idxv (H:=(hp28 aC aB aA)) (c:=dP) aH (jQ _)
  have aJ:=aIl (P:=PP) (cf:=evF PP T n) (fl:=0) (H:=(hp29 aC aB aA aD)) (id:=2) (kv:=dX) (va:=eB) (m:=aA) (k:=aD.ID) (x:=(iv aD.ID)) lG aD.At rfl (by omega) rfl
  exact nx_q (yS aB aC (mput aA aD.ID aD.At) (IntKind.i64.wrap (aE + 1))) (qp aJ<|qa 29 aI<|qa 28 aF<|q0) [] [none,some (hp30 aC aB aA aD)] (aI7 _ _ _ _) (aB5 n aB aC m (mput aA aD.ID aD.At) (IntKind.i64.wrap (aE + 1)) r h)
abbrev hp32 (aA : GPlan) (aB : (List Gsegment)) (aC : (List (Int × GPoint))) : Heap:=[(.blk 3 [[(.vw (List.map dP aA.Nodes)),(.vw (List.map dR aA.Arcs)),(.vw (List.map dS aA.Faces))]]),(.blk 2 (List.map dV aB)),(.mp (entL dX eB aC))]
abbrev hp33 (aA : GPlan) (aB : (List Gsegment)) (aC : (List (Int × GPoint))) : Heap:=[(.blk 3 [[(.vw (List.map dP aA.Nodes)),(.vw (List.map dR aA.Arcs)),(.vw (List.map dS aA.Faces))]]),(.blk 2 (List.map dV aB++[List.replicate 2 AV.undef])),(.mp (entL dX eB aC))]
def yR (aA : (List Gsegment)) (aB : GPlan) (aC : (List (Int × GPoint))) (aD : Int) : St:=⟨sp 117 [(1,(.ptr 0 1 0 0)),(3,(.sl false (List.map dV aA))),(5,(.mp 2)),(39,(.sl false (List.map dV aA))),(40,(iv ((aA.length : Nat) : Int))),(41,(iv aD))],[(.blk 3 [[(.vw (List.map dP aB.Nodes)),(.vw (List.map dR aB.Arcs)),(.vw (List.map dS aB.Faces))]]),(.blk 2 (List.map dV aA++[List.replicate 2 AV.undef])),(.mp (entL dX eB aC))]⟩
theorem aI6 (aA : (List Gsegment)) (aB : GPlan) (aC : (List (Int × GPoint))) (aD : Int) : eS true 0 3 (yR aA aB aC aD).heap:=(by exact (clo rfl (clo (lH (eI 3)) (clo (kA (kv:=dX) (va:=eB) fun _=>rfl) rfl))))
def wO (aB : (List Gsegment)) (aA : GPlan) (aC : (List (Int × GPoint))) (aD : Gline) (aE : Int) (aF : Int) (aG : Int) (aH : Int) (aI : Int) (aJ : Int) (aK : Int) (aL : Int) : St:=⟨sp 117 [(2,bf)],[(.blk 3 [[(.vw (List.map dP aA.Nodes)),(.vw (List.map dR aA.Arcs)),(.vw (List.map dS aA.Faces))]]),(.blk 2 (List.map dV aB++[List.replicate 2 AV.undef])),(.mp (entL dX eB aC)),(.blk 2 [[(.sptr (eA aD)),(iv aE)]]),(.blk 3 [[(iv aF),(iv aG),(iv aH)]]),(.blk 2 [[(iv aI),(iv aJ)]]),(.blk 2 [[(iv aK),(iv aL)]])]⟩
def wN (aB : (List Gsegment)) (aA : GPlan) (aC : (List (Int × GPoint))) (aD : Int) (aE : Int) (aF : Gline) (aG : Int) (aH : Gline) (aI : Int) (aJ : Gline) (aK : Int) (aL : Gline) (aM : Int) (aN : Int) (aO : Int) (aP : Int) (aQ : Int) (aR : Int) (aS : Int) : St:=⟨sp 117 [(2,bf)],[(.blk 3 [[(.vw (List.map dP aA.Nodes)),(.vw (List.map dR aA.Arcs)),(.vw (List.map dS aA.Faces))]]),(.blk 2 (List.map dV aB++[List.replicate 2 AV.undef])),(.mp (entL dX eB aC)),(.blk 2 [[(.sptr (eA aF)),(iv aG)]]),(.blk 2 [[(.sptr (eA aH)),(iv aI)]]),(.blk 2 [[(.sptr (eA aJ)),(iv aK)]]),(.blk 2 [[(.sptr (eA aL)),(iv aM)]]),(.blk 2 [[(iv aN),(iv aO)]]),(.blk 2 [[(iv aP),(iv aQ)]]),(.blk 2 [[(iv aR),(iv aS)]]),(.blk 2 [[(iv aD),(iv aE)]])]⟩
def wM (aB : (List Gsegment)) (aA : GPlan) (aC : (List (Int × GPoint))) : St:=⟨sp 117 [],[(.blk 3 [[(.vw (List.map dP aA.Nodes)),(.vw (List.map dR aA.Arcs)),(.vw (List.map dS aA.Faces))]]),(.blk 2 (List.map dV aB++[List.replicate 2 AV.undef])),(.mp (entL dX eB aC))]⟩
abbrev hp34 (aA : GPlan) (aC : (List Gsegment)) (aD : (List (Int × GPoint))) (aB : Gsegment) : Heap:=[(.blk 3 [[(.vw (List.map dP aA.Nodes)),(.vw (List.map dR aA.Arcs)),(.vw (List.map dS aA.Faces))]]),(.blk 2 (List.map dV aC++[List.replicate 2 AV.undef])),(.mp (entL dX eB aD)),(.blk 2 [[(.sptr (eA aB.line)),(iv aB.at_)]])]
def mP (aA : (List Gsegment)) (aE : Int) (aC : (List Gsegment)) (aB : GPlan) (aF : (List (Int × GPoint))) (aD : Gsegment) (aG : Int) : St:=⟨sp 117 [(1,(.ptr 0 1 0 0)),(3,(.sl false (List.map dV aA))),(5,(.mp 2)),(9,(.ptr 3 1 0 0)),(39,(.sl false (List.map dV aA))),(40,(iv ((aA.length : Nat) : Int))),(41,(iv aE)),(49,(.sl false (List.map dV aC))),(50,(iv ((aC.length : Nat) : Int))),(51,(iv aG))],[(.blk 3 [[(.vw (List.map dP aB.Nodes)),(.vw (List.map dR aB.Arcs)),(.vw (List.map dS aB.Faces))]]),(.blk 2 (List.map dV aA++[List.replicate 2 AV.undef])),(.mp (entL dX eB aF)),(.blk 2 [[(.sptr (eA aD.line)),(iv aD.at_)]])]⟩
theorem tV (aA : (List Gsegment)) (aB : Int) (aC : (List Gsegment)) (aD : GPlan) (aE : (List (Int × GPoint))) (aF : Gsegment) (aG : Int) : eS true 0 4 (mP aA aB aC aD aE aF aG).heap:=(by exact (clo rfl (clo (lH (eI 4)) (clo (kA (kv:=dX) (va:=eB) fun _=>rfl) (clo rfl rfl)))))
def oH (aA : (List Gsegment)) (aD : Int) (aF : (List Gsegment)) (aB : GPlan) (aE : (List (Int × GPoint))) (aC : Gsegment) : St:=⟨sp 117 [(1,(.ptr 0 1 0 0)),(3,(.sl false (List.map dV aA))),(5,(.mp 2)),(9,(.ptr 3 1 0 0)),(39,(.sl false (List.map dV aA))),(40,(iv ((aA.length : Nat) : Int))),(41,(iv aD))],[(.blk 3 [[(.vw (List.map dP aB.Nodes)),(.vw (List.map dR aB.Arcs)),(.vw (List.map dS aB.Faces))]]),(.blk 2 (List.map dV aA++[List.replicate 2 AV.undef])),(.mp (entL dX eB aE)),(.blk 2 [[(.sptr (eA aC.line)),(iv aC.at_)]])]⟩
def lS (aC : (List Gsegment)) (aS : Int) (aT : (List Gsegment)) (aA : GPlan) (aD : (List (Int × GPoint))) (aB : Gsegment) (aE : Int) (aF : Int) (aG : Gline) (aH : Int) (aI : Gline) (aJ : Int) (aK : Gline) (aL : Int) (aM : Int) (aN : Int) (aO : Int) (aP : Int) (aQ : Int) (aR : Int) : St:=⟨sp 117 [(2,bf)],[(.blk 3 [[(.vw (List.map dP aA.Nodes)),(.vw (List.map dR aA.Arcs)),(.vw (List.map dS aA.Faces))]]),(.blk 2 (List.map dV aC++[List.replicate 2 AV.undef])),(.mp (entL dX eB aD)),(.blk 2 [[(.sptr (eA aB.line)),(iv aB.at_)]]),(.blk 2 [[(.sptr (eA aG)),(iv aH)]]),(.blk 2 [[(.sptr (eA aI)),(iv aJ)]]),(.blk 2 [[(.sptr (eA aK)),(iv aL)]]),(.blk 2 [[(iv aM),(iv aN)]]),(.blk 2 [[(iv aO),(iv aP)]]),(.blk 2 [[(iv aQ),(iv aR)]]),(.blk 2 [[(iv aE),(iv aF)]])]⟩
abbrev hp35 (aA : GPlan) (aD : (List Gsegment)) (aE : (List (Int × GPoint))) (aB : Gsegment) (aC : Gsegment) : Heap:=[(.blk 3 [[(.vw (List.map dP aA.Nodes)),(.vw (List.map dR aA.Arcs)),(.vw (List.map dS aA.Faces))]]),(.blk 2 (List.map dV aD++[List.replicate 2 AV.undef])),(.mp (entL dX eB aE)),(.blk 2 [[(.sptr (eA aB.line)),(iv aB.at_)]]),(.blk 2 [[(.sptr (eA aC.line)),(iv aC.at_)]])]
def aE8 (aF : Int) (aE : GPlan) (aG : (List Gsegment)) (aH : (List (Int × GPoint))) (aA : Gsegment) (aB : Gsegment) (aC : (GPoint × GPoint)) (aD : (GPoint × GPoint)) : St:=⟨sp 137 [(3,(.ptr 5 1 0 0)),(4,(.ptr 6 1 0 0)),(11,(iv aF))],[(.blk 3 [[(.vw (List.map dP aE.Nodes)),(.vw (List.map dR aE.Arcs)),(.vw (List.map dS aE.Faces))]]),(.blk 2 (List.map dV aG++[List.replicate 2 AV.undef])),(.mp (entL dX eB aH)),(.blk 2 [[(.sptr (eA aA.line)),(iv aA.at_)]]),(.blk 2 [[(.sptr (eA aB.line)),(iv aB.at_)]]),(.blk 2 [[(.sptr (eA aA.line)),(iv aA.at_)]]),(.blk 2 [[(.sptr (eA aB.line)),(iv aB.at_)]]),(.blk 2 [[(iv aC.1.X),(iv aC.1.Y)]]),(.blk 2 [[(iv aC.2.X),(iv aC.2.Y)]]),(.blk 2 [[(iv aD.1.X),(iv aD.1.Y)]]),(.blk 2 [[(iv aD.2.X),(iv aD.2.Y)]])]⟩
def iP (aF : Int) (aC : GPlan) (aG : (List Gsegment)) (aH : (List (Int × GPoint))) (aD : Gsegment) (aE : Gsegment) (aA : (GPoint × GPoint)) (aB : (GPoint × GPoint)) (aI : Gline) (aJ : Int) (aK : Gline) (aL : Int) : St:=⟨sp 137 [(3,(.ptr 5 1 0 0)),(4,(.ptr 6 1 0 0)),(11,(iv aF))],[(.blk 3 [[(.vw (List.map dP aC.Nodes)),(.vw (List.map dR aC.Arcs)),(.vw (List.map dS aC.Faces))]]),(.blk 2 (List.map dV aG++[List.replicate 2 AV.undef])),(.mp (entL dX eB aH)),(.blk 2 [[(.sptr (eA aD.line)),(iv aD.at_)]]),(.blk 2 [[(.sptr (eA aE.line)),(iv aE.at_)]]),(.blk 2 [[(.sptr (eA aI)),(iv aJ)]]),(.blk 2 [[(.sptr (eA aK)),(iv aL)]]),(.blk 2 [[(iv aA.1.X),(iv aA.1.Y)]]),(.blk 2 [[(iv aA.2.X),(iv aA.2.Y)]]),(.blk 2 [[(iv aB.1.X),(iv aB.1.Y)]]),(.blk 2 [[(iv aB.2.X),(iv aB.2.Y)]])]⟩
def nC (n : Nat) (aC : Int) (aD : GPlan) (aE : (List Gsegment)) (aF : (List (Int × GPoint))) (aA : Gsegment) (aB : Gsegment) (aG : (GPoint × GPoint)) (aH : (GPoint × GPoint)) : Option (Gline × Int × Gline × Int):=(cnd (decide (aA.at_ > aB.at_)) (some (aB.line,aB.at_,aA.line,aA.at_)) (some (aA.line,aA.at_,aB.line,aB.at_)))
theorem aDy (n : Nat) (aC : Int) (aD : GPlan) (aE : (List Gsegment)) (aF : (List (Int × GPoint))) (aA : Gsegment) (aB : Gsegment) (aG : (GPoint × GPoint)) (aH : (GPoint × GPoint)) (r : (Gline × Int × Gline × Int)) (h : nC n aC aD aE aF aA aB aG aH=some r) : eT lv32 lv18 false 0 11 (evC PP (evF PP T n) n 0 bHb (aE8 aC aD aE aF aA aB aG aH))=some (.normal,iP aC aD aE aF aA aB aG aH r.1 r.2.1 r.2.2.1 r.2.2.2):=by
 unfold nC at h
 rcases cn h with ⟨aJ,aI,h⟩ | ⟨aJ,aI,h⟩
 rotate_left
 ·obtain rfl:=si h
  exact dY (iP aC aD aE aF aA aB aG aH aA.line aA.at_ aB.line aB.at_) (qa 47 aI<|q0) [] []
 obtain rfl:=si h
 exact dY (iP aC aD aE aF aA aB aG aH aB.line aB.at_ aA.line aA.at_) (qa 47 aI<|q0) [] [none,none]
def aE7 (aG : Int) (aD : GPlan) (aH : (List Gsegment)) (aI : (List (Int × GPoint))) (aE : Gsegment) (aF : Gsegment) (aA : (Gline × Int × Gline × Int)) (aB : (GPoint × GPoint)) (aC : (GPoint × GPoint)) : St:=⟨sp 137 [(3,(.ptr 5 1 0 0)),(4,(.ptr 6 1 0 0)),(11,(iv aG))],[(.blk 3 [[(.vw (List.map dP aD.Nodes)),(.vw (List.map dR aD.Arcs)),(.vw (List.map dS aD.Faces))]]),(.blk 2 (List.map dV aH++[List.replicate 2 AV.undef])),(.mp (entL dX eB aI)),(.blk 2 [[(.sptr (eA aE.line)),(iv aE.at_)]]),(.blk 2 [[(.sptr (eA aF.line)),(iv aF.at_)]]),(.blk 2 [[(.sptr (eA aA.1)),(iv aA.2.1)]]),(.blk 2 [[(.sptr (eA aA.2.2.1)),(iv aA.2.2.2)]]),(.blk 2 [[(iv aB.1.X),(iv aB.1.Y)]]),(.blk 2 [[(iv aB.2.X),(iv aB.2.Y)]]),(.blk 2 [[(iv aC.1.X),(iv aC.1.Y)]]),(.blk 2 [[(iv aC.2.X),(iv aC.2.Y)]])]⟩
def gK (aG : Int) (aD : GPlan) (aH : (List Gsegment)) (aI : (List (Int × GPoint))) (aE : Gsegment) (aF : Gsegment) (aA : (Gline × Int × Gline × Int)) (aB : (GPoint × GPoint)) (aC : (GPoint × GPoint)) (aJ : Bool) : St:=⟨sp 137 [(11,(iv aG)),(78,(bv aJ))],[(.blk 3 [[(.vw (List.map dP aD.Nodes)),(.vw (List.map dR aD.Arcs)),(.vw (List.map dS aD.Faces))]]),(.blk 2 (List.map dV aH++[List.replicate 2 AV.undef])),(.mp (entL dX eB aI)),(.blk 2 [[(.sptr (eA aE.line)),(iv aE.at_)]]),(.blk 2 [[(.sptr (eA aF.line)),(iv aF.at_)]]),(.blk 2 [[(.sptr (eA aA.1)),(iv aA.2.1)]]),(.blk 2 [[(.sptr (eA aA.2.2.1)),(iv aA.2.2.2)]]),(.blk 2 [[(iv aB.1.X),(iv aB.1.Y)]]),(.blk 2 [[(iv aB.2.X),(iv aB.2.Y)]]),(.blk 2 [[(iv aC.1.X),(iv aC.1.Y)]]),(.blk 2 [[(iv aC.2.X),(iv aC.2.Y)]])]⟩
def nB (n : Nat) (aD : Int) (aE : GPlan) (aF : (List Gsegment)) (aG : (List (Int × GPoint))) (aH : Gsegment) (aI : Gsegment) (aA : (Gline × Int × Gline × Int)) (aJ : (GPoint × GPoint)) (aK : (GPoint × GPoint)) : Option Bool:=(cnd ((IntKind.i64.wrap (aA.2.1 + 1)) == aA.2.2.2) (some true) (cnd (aA.1.Arc.From == aA.1.Arc.To) (bnd (mX n (Gsegment.mk aA.1 aA.2.1)) fun aB=>(cnd (aB) (bnd (lQ n (Gsegment.mk aA.2.2.1 aA.2.2.2)) fun aC=>(cnd (aC) (some true) (some false))) (some false))) (some false)))
theorem yA (n : Nat) (aB : Int) (aC : GPlan) (aD : (List Gsegment)) (aE : (List (Int × GPoint))) (aF : Gsegment) (aG : Gsegment) (aA : (Gline × Int × Gline × Int)) (aH : (GPoint × GPoint)) (aI : (GPoint × GPoint)) (r : Bool) (h : nB n aB aC aD aE aF aG aA aH aI=some r) : eT lv33 lv18 false 0 11 (evC PP (evF PP T n) n 0 bHa (aE7 aB aC aD aE aF aG aA aH aI))=some (.normal,gK aB aC aD aE aF aG aA aH aI r):=by
 unfold nB at h
 rcases cn h with ⟨aQ,aJ,h⟩ | ⟨aQ,aJ,h⟩
 ·obtain rfl:=si h
  exact dY (gK aB aC aD aE aF aG aA aH aI true) (qa 55 aJ<|q0) [] []
 rcases cn h with ⟨aR,aK,h⟩ | ⟨aR,aK,h⟩
 rotate_left
 ·obtain rfl:=si h
  exact dY (gK aB aC aD aE aF aG aA aH aI false) (qa 69 aK<|qa 55 aJ<|q0) [] []
 obtain ⟨aX,aN,h⟩:=dQ h
 rcases cn h with ⟨aL,aS,h⟩ | ⟨aL,aS,h⟩
 rotate_left
 ·have aT:=by have q:=mW n (Gsegment.mk aA.1 aA.2.1) _ aN; rw [aL] at q; exact q
  obtain rfl:=si h
  exact dY (gK aB aC aD aE aF aG aA aH aI false) (qa 72 aT<|qa 69 aK<|qa 55 aJ<|q0) [] []
 have aO:=by have q:=mW n (Gsegment.mk aA.1 aA.2.1) _ aN; rw [aL] at q; exact q
 obtain ⟨aY,aP,h⟩:=dQ h
 rcases cn h with ⟨aM,aU,h⟩ | ⟨aM,aU,h⟩
 ·have aV:=by have q:=jT n (Gsegment.mk aA.2.2.1 aA.2.2.2) _ aP; rw [aM] at q; exact q
  obtain rfl:=si h
  exact dY (gK aB aC aD aE aF aG aA aH aI true) (qa 76 aV<|qa 72 aO<|qa 69 aK<|qa 55 aJ<|q0) [] []
 have aW:=by have q:=jT n (Gsegment.mk aA.2.2.1 aA.2.2.2) _ aP; rw [aM] at q; exact q
 obtain rfl:=si h
 exact dY (gK aB aC aD aE aF aG aA aH aI false) (qa 76 aW<|qa 72 aO<|qa 69 aK<|qa 55 aJ<|q0) [] []
abbrev hp36 (aD : GPlan) (aG : (List Gsegment)) (aH : (List (Int × GPoint))) (aE : Gsegment) (aF : Gsegment) (aA : (Gline × Int × Gline × Int)) (aB : (GPoint × GPoint)) (aC : (GPoint × GPoint)) : Heap:=[(.blk 3 [[(.vw (List.map dP aD.Nodes)),(.vw (List.map dR aD.Arcs)),(.vw (List.map dS aD.Faces))]]),(.blk 2 (List.map dV aG++[List.replicate 2 AV.undef])),(.mp (entL dX eB aH)),(.blk 2 [[(.sptr (eA aE.line)),(iv aE.at_)]]),(.blk 2 [[(.sptr (eA aF.line)),(iv aF.at_)]]),(.blk 2 [[(.sptr (eA aA.1)),(iv aA.2.1)]]),(.blk 2 [[(.sptr (eA aA.2.2.1)),(iv aA.2.2.2)]]),(.blk 2 [[(iv aB.1.X),(iv aB.1.Y)]]),(.blk 2 [[(iv aB.2.X),(iv aB.2.Y)]]),(.blk 2 [[(iv aC.1.X),(iv aC.1.Y)]]),(.blk 2 [[(iv aC.2.X),(iv aC.2.Y)]])]
abbrev hp37 (aE : GPlan) (aF : (List Gsegment)) (aG : (List (Int × GPoint))) (aA : Gsegment) (aB : Gsegment) (aC : (GPoint × GPoint)) (aD : (GPoint × GPoint)) : Heap:=[(.blk 3 [[(.vw (List.map dP aE.Nodes)),(.vw (List.map dR aE.Arcs)),(.vw (List.map dS aE.Faces))]]),(.blk 2 (List.map dV aF++[List.replicate 2 AV.undef])),(.mp (entL dX eB aG)),(.blk 2 [[(.sptr (eA aA.line)),(iv aA.at_)]]),(.blk 2 [[(.sptr (eA aB.line)),(iv aB.at_)]]),(.blk 2 [[(.sptr (eA aA.line)),(iv aA.at_)]]),(.blk 2 [[(.sptr (eA aB.line)),(iv aB.at_)]]),(.blk 2 [[(iv aC.1.X),(iv aC.1.Y)]]),(.blk 2 [[(iv aC.2.X),(iv aC.2.Y)]]),(.blk 2 [[(iv aD.1.X),(iv aD.1.Y)]]),(.blk 2 [[(iv aD.2.X),(iv aD.2.Y)]])]
def nR (aA : Gsegment) (aE : GPlan) (aF : (List Gsegment)) (aG : (List (Int × GPoint))) (aB : Gsegment) (aC : (GPoint × GPoint)) (aD : (GPoint × GPoint)) : St:=⟨sp 137 [(2,(.mp 2)),(4,(.ptr 6 1 0 0)),(7,(.ptr 7 1 0 0)),(8,(.ptr 8 1 0 0)),(9,(.ptr 9 1 0 0)),(10,(.ptr 10 1 0 0)),(99,(.agg [(iv aA.line.Arc.From),(iv aA.line.Arc.To)])),(100,(iv 0))],[(.blk 3 [[(.vw (List.map dP aE.Nodes)),(.vw (List.map dR aE.Arcs)),(.vw (List.map dS aE.Faces))]]),(.blk 2 (List.map dV aF++[List.replicate 2 AV.undef])),(.mp (entL dX eB aG)),(.blk 2 [[(.sptr (eA aA.line)),(iv aA.at_)]]),(.blk 2 [[(.sptr (eA aB.line)),(iv aB.at_)]]),(.blk 2 [[(.sptr (eA aA.line)),(iv aA.at_)]]),(.blk 2 [[(.sptr (eA aB.line)),(iv aB.at_)]]),(.blk 2 [[(iv aC.1.X),(iv aC.1.Y)]]),(.blk 2 [[(iv aC.2.X),(iv aC.2.Y)]]),(.blk 2 [[(iv aD.1.X),(iv aD.1.Y)]]),(.blk 2 [[(iv aD.2.X),(iv aD.2.Y)]])]⟩
def mZ (aA : Gsegment) (aE : GPlan) (aF : (List Gsegment)) (aG : (List (Int × GPoint))) (aB : Gsegment) (aC : (GPoint × GPoint)) (aD : (GPoint × GPoint)) (aH : Int) (aI : Int) : St:=⟨sp 137 [(6,bt)],[(.blk 3 [[(.vw (List.map dP aE.Nodes)),(.vw (List.map dR aE.Arcs)),(.vw (List.map dS aE.Faces))]]),(.blk 2 (List.map dV aF++[List.replicate 2 AV.undef])),(.mp (entL dX eB aG)),(.blk 2 [[(.sptr (eA aA.line)),(iv aA.at_)]]),(.blk 2 [[(.sptr (eA aB.line)),(iv aB.at_)]]),(.blk 2 [[(.sptr (eA aA.line)),(iv aA.at_)]]),(.blk 2 [[(.sptr (eA aB.line)),(iv aB.at_)]]),(.blk 2 [[(iv aC.1.X),(iv aC.1.Y)]]),(.blk 2 [[(iv aC.2.X),(iv aC.2.Y)]]),(.blk 2 [[(iv aD.1.X),(iv aD.1.Y)]]),(.blk 2 [[(iv aD.2.X),(iv aD.2.Y)]]),(.blk 2 [[(iv aH),(iv aI)]])]⟩
def qS (aA : Gsegment) (aE : GPlan) (aF : (List Gsegment)) (aG : (List (Int × GPoint))) (aB : Gsegment) (aC : (GPoint × GPoint)) (aD : (GPoint × GPoint)) : St:=⟨sp 137 [],[(.blk 3 [[(.vw (List.map dP aE.Nodes)),(.vw (List.map dR aE.Arcs)),(.vw (List.map dS aE.Faces))]]),(.blk 2 (List.map dV aF++[List.replicate 2 AV.undef])),(.mp (entL dX eB aG)),(.blk 2 [[(.sptr (eA aA.line)),(iv aA.at_)]]),(.blk 2 [[(.sptr (eA aB.line)),(iv aB.at_)]]),(.blk 2 [[(.sptr (eA aA.line)),(iv aA.at_)]]),(.blk 2 [[(.sptr (eA aB.line)),(iv aB.at_)]]),(.blk 2 [[(iv aC.1.X),(iv aC.1.Y)]]),(.blk 2 [[(iv aC.2.X),(iv aC.2.Y)]]),(.blk 2 [[(iv aD.1.X),(iv aD.1.Y)]]),(.blk 2 [[(iv aD.2.X),(iv aD.2.Y)]])]⟩
def aE6 (aA : Gsegment) (aE : GPlan) (aG : (List Gsegment)) (aF : (List (Int × GPoint))) (aB : Gsegment) (aC : (GPoint × GPoint)) (aD : (GPoint × GPoint)) : St:=⟨sp 137 [(2,(.mp 2)),(4,(.ptr 6 1 0 0)),(7,(.ptr 7 1 0 0)),(8,(.ptr 8 1 0 0)),(9,(.ptr 9 1 0 0)),(10,(.ptr 10 1 0 0)),(13,(iv aA.line.Arc.From)),(14,(.ptr 11 1 0 0)),(99,(.agg [(iv aA.line.Arc.From),(iv aA.line.Arc.To)])),(100,(iv 0))],[(.blk 3 [[(.vw (List.map dP aE.Nodes)),(.vw (List.map dR aE.Arcs)),(.vw (List.map dS aE.Faces))]]),(.blk 2 (List.map dV aG++[List.replicate 2 AV.undef])),(.mp (entL dX eB aF)),(.blk 2 [[(.sptr (eA aA.line)),(iv aA.at_)]]),(.blk 2 [[(.sptr (eA aB.line)),(iv aB.at_)]]),(.blk 2 [[(.sptr (eA aA.line)),(iv aA.at_)]]),(.blk 2 [[(.sptr (eA aB.line)),(iv aB.at_)]]),(.blk 2 [[(iv aC.1.X),(iv aC.1.Y)]]),(.blk 2 [[(iv aC.2.X),(iv aC.2.Y)]]),(.blk 2 [[(iv aD.1.X),(iv aD.1.Y)]]),(.blk 2 [[(iv aD.2.X),(iv aD.2.Y)]]),(.blk 2 [[(iv (Option.getD (mget aF aA.line.Arc.From) (GPoint.mk 0 0)).X),(iv (Option.getD (mget aF aA.line.Arc.From) (GPoint.mk 0 0)).Y)]])]⟩
def gE (aA : Gsegment) (aE : GPlan) (aG : (List Gsegment)) (aF : (List (Int × GPoint))) (aB : Gsegment) (aC : (GPoint × GPoint)) (aD : (GPoint × GPoint)) (aH : Bool) : St:=⟨sp 137 [(2,(.mp 2)),(4,(.ptr 6 1 0 0)),(7,(.ptr 7 1 0 0)),(8,(.ptr 8 1 0 0)),(9,(.ptr 9 1 0 0)),(10,(.ptr 10 1 0 0)),(99,(.agg [(iv aA.line.Arc.From),(iv aA.line.Arc.To)])),(100,(iv 0)),(135,(bv aH))],[(.blk 3 [[(.vw (List.map dP aE.Nodes)),(.vw (List.map dR aE.Arcs)),(.vw (List.map dS aE.Faces))]]),(.blk 2 (List.map dV aG++[List.replicate 2 AV.undef])),(.mp (entL dX eB aF)),(.blk 2 [[(.sptr (eA aA.line)),(iv aA.at_)]]),(.blk 2 [[(.sptr (eA aB.line)),(iv aB.at_)]]),(.blk 2 [[(.sptr (eA aA.line)),(iv aA.at_)]]),(.blk 2 [[(.sptr (eA aB.line)),(iv aB.at_)]]),(.blk 2 [[(iv aC.1.X),(iv aC.1.Y)]]),(.blk 2 [[(iv aC.2.X),(iv aC.2.Y)]]),(.blk 2 [[(iv aD.1.X),(iv aD.1.Y)]]),(.blk 2 [[(iv aD.2.X),(iv aD.2.Y)]]),(.blk 2 [[(iv (Option.getD (mget aF aA.line.Arc.From) (GPoint.mk 0 0)).X),(iv (Option.getD (mget aF aA.line.Arc.From) (GPoint.mk 0 0)).Y)]])]⟩
def mY (n : Nat) (aA : Gsegment) (aJ : GPlan) (aK : (List Gsegment)) (aB : (List (Int × GPoint))) (aE : Gsegment) (aC : (GPoint × GPoint)) (aD : (GPoint × GPoint)) : Option Bool:=(cnd (aA.line.Arc.From == aE.line.Arc.From) (bnd (uU n aC.1 aC.2 (GPoint.mk (Option.getD (mget aB aA.line.Arc.From) (GPoint.mk 0 0)).X (Option.getD (mget aB aA.line.Arc.From) (GPoint.mk 0 0)).Y)) fun aF=>(cnd (aF) (bnd (uU n aD.1 aD.2 (GPoint.mk (Option.getD (mget aB aA.line.Arc.From) (GPoint.mk 0 0)).X (Option.getD (mget aB aA.line.Arc.From) (GPoint.mk 0 0)).Y)) fun aG=>(cnd (aG) (some true) (some false))) (some false))) (cnd (aA.line.Arc.From == aE.line.Arc.To) (bnd (uU n aC.1 aC.2 (GPoint.mk (Option.getD (mget aB aA.line.Arc.From) (GPoint.mk 0 0)).X (Option.getD (mget aB aA.line.Arc.From) (GPoint.mk 0 0)).Y)) fun aH=>(cnd (aH) (bnd (uU n aD.1 aD.2 (GPoint.mk (Option.getD (mget aB aA.line.Arc.From) (GPoint.mk 0 0)).X (Option.getD (mget aB aA.line.Arc.From) (GPoint.mk 0 0)).Y)) fun aI=>(cnd (aI) (some true) (some false))) (some false))) (some false)))
theorem xY (n : Nat) (aA : Gsegment) (aE : GPlan) (aF : (List Gsegment)) (aB : (List (Int × GPoint))) (aG : Gsegment) (aC : (GPoint × GPoint)) (aD : (GPoint × GPoint)) (r : Bool) (h : mY n aA aE aF aB aG aC aD=some r) : eT lv35 lv18 false 0 12 (evC PP (evF PP T n) n 0 bE5 (aE6 aA aE aF aB aG aC aD))=some (.normal,gE aA aE aF aB aG aC aD r):=by
 unfold mY at h
 rcases cn h with ⟨aT,aH,h⟩ | ⟨aT,aH,h⟩
 ·obtain ⟨af,aN,h⟩:=dQ h
  rcases cn h with ⟨aJ,aU,h⟩ | ⟨aJ,aU,h⟩
  rotate_left
  ·have aV:=by have q:=gU n aC.1 aC.2 (GPoint.mk (Option.getD (mget aB aA.line.Arc.From) (GPoint.mk 0 0)).X (Option.getD (mget aB aA.line.Arc.From) (GPoint.mk 0 0)).Y) _ aN; rw [aJ] at q; exact q
   obtain rfl:=si h
   exact dY (gE aA aE aF aB aG aC aD false) (qa 128 aV<|qa 113 aH<|q0) [] []
  have aO:=by have q:=gU n aC.1 aC.2 (GPoint.mk (Option.getD (mget aB aA.line.Arc.From) (GPoint.mk 0 0)).X (Option.getD (mget aB aA.line.Arc.From) (GPoint.mk 0 0)).Y) _ aN; rw [aJ] at q; exact q
  obtain ⟨ag,aP,h⟩:=dQ h
  rcases cn h with ⟨aK,aW,h⟩ | ⟨aK,aW,h⟩
  ·have aX:=by have q:=gU n aD.1 aD.2 (GPoint.mk (Option.getD (mget aB aA.line.Arc.From) (GPoint.mk 0 0)).X (Option.getD (mget aB aA.line.Arc.From) (GPoint.mk 0 0)).Y) _ aP; rw [aK] at q; exact q
   obtain rfl:=si h
   exact dY (gE aA aE aF aB aG aC aD true) (qa 134 aX<|qa 128 aO<|qa 113 aH<|q0) [] []
  have aY:=by have q:=gU n aD.1 aD.2 (GPoint.mk (Option.getD (mget aB aA.line.Arc.From) (GPoint.mk 0 0)).X (Option.getD (mget aB aA.line.Arc.From) (GPoint.mk 0 0)).Y) _ aP; rw [aK] at q; exact q
  obtain rfl:=si h
  exact dY (gE aA aE aF aB aG aC aD false) (qa 134 aY<|qa 128 aO<|qa 113 aH<|q0) [] []
 rcases cn h with ⟨aZ,aI,h⟩ | ⟨aZ,aI,h⟩
 rotate_left
 ·obtain rfl:=si h
  exact dY (gE aA aE aF aB aG aC aD false) (qa 122 aI<|qa 113 aH<|q0) [] []
 obtain ⟨ah,aQ,h⟩:=dQ h
 rcases cn h with ⟨aL,aa,h⟩ | ⟨aL,aa,h⟩
 rotate_left
 ·have ab:=by have q:=gU n aC.1 aC.2 (GPoint.mk (Option.getD (mget aB aA.line.Arc.From) (GPoint.mk 0 0)).X (Option.getD (mget aB aA.line.Arc.From) (GPoint.mk 0 0)).Y) _ aQ; rw [aL] at q; exact q
  obtain rfl:=si h
  exact dY (gE aA aE aF aB aG aC aD false) (qa 128 ab<|qa 122 aI<|qa 113 aH<|q0) [] []
 have aR:=by have q:=gU n aC.1 aC.2 (GPoint.mk (Option.getD (mget aB aA.line.Arc.From) (GPoint.mk 0 0)).X (Option.getD (mget aB aA.line.Arc.From) (GPoint.mk 0 0)).Y) _ aQ; rw [aL] at q; exact q
 obtain ⟨ai,aS,h⟩:=dQ h
 rcases cn h with ⟨aM,ac,h⟩ | ⟨aM,ac,h⟩
 ·have ad:=by have q:=gU n aD.1 aD.2 (GPoint.mk (Option.getD (mget aB aA.line.Arc.From) (GPoint.mk 0 0)).X (Option.getD (mget aB aA.line.Arc.From) (GPoint.mk 0 0)).Y) _ aS; rw [aM] at q; exact q
  obtain rfl:=si h
  exact dY (gE aA aE aF aB aG aC aD true) (qa 134 ad<|qa 128 aR<|qa 122 aI<|qa 113 aH<|q0) [] []
 have ae:=by have q:=gU n aD.1 aD.2 (GPoint.mk (Option.getD (mget aB aA.line.Arc.From) (GPoint.mk 0 0)).X (Option.getD (mget aB aA.line.Arc.From) (GPoint.mk 0 0)).Y) _ aS; rw [aM] at q; exact q
 obtain rfl:=si h
 exact dY (gE aA aE aF aB aG aC aD false) (qa 134 ae<|qa 128 aR<|qa 122 aI<|qa 113 aH<|q0) [] []
def aDi (aA : Gsegment) (aE : GPlan) (aG : (List Gsegment)) (aF : (List (Int × GPoint))) (aB : Gsegment) (aC : (GPoint × GPoint)) (aD : (GPoint × GPoint)) : St:=⟨sp 137 [(2,(.mp 2)),(4,(.ptr 6 1 0 0)),(7,(.ptr 7 1 0 0)),(8,(.ptr 8 1 0 0)),(9,(.ptr 9 1 0 0)),(10,(.ptr 10 1 0 0)),(13,(iv aA.line.Arc.To)),(14,(.ptr 11 1 0 0)),(99,(.agg [(iv aA.line.Arc.From),(iv aA.line.Arc.To)])),(100,(iv 1))],[(.blk 3 [[(.vw (List.map dP aE.Nodes)),(.vw (List.map dR aE.Arcs)),(.vw (List.map dS aE.Faces))]]),(.blk 2 (List.map dV aG++[List.replicate 2 AV.undef])),(.mp (entL dX eB aF)),(.blk 2 [[(.sptr (eA aA.line)),(iv aA.at_)]]),(.blk 2 [[(.sptr (eA aB.line)),(iv aB.at_)]]),(.blk 2 [[(.sptr (eA aA.line)),(iv aA.at_)]]),(.blk 2 [[(.sptr (eA aB.line)),(iv aB.at_)]]),(.blk 2 [[(iv aC.1.X),(iv aC.1.Y)]]),(.blk 2 [[(iv aC.2.X),(iv aC.2.Y)]]),(.blk 2 [[(iv aD.1.X),(iv aD.1.Y)]]),(.blk 2 [[(iv aD.2.X),(iv aD.2.Y)]]),(.blk 2 [[(iv (Option.getD (mget aF aA.line.Arc.To) (GPoint.mk 0 0)).X),(iv (Option.getD (mget aF aA.line.Arc.To) (GPoint.mk 0 0)).Y)]])]⟩
def gC (aA : Gsegment) (aE : GPlan) (aG : (List Gsegment)) (aF : (List (Int × GPoint))) (aB : Gsegment) (aC : (GPoint × GPoint)) (aD : (GPoint × GPoint)) (aH : Bool) : St:=⟨sp 137 [(2,(.mp 2)),(4,(.ptr 6 1 0 0)),(7,(.ptr 7 1 0 0)),(8,(.ptr 8 1 0 0)),(9,(.ptr 9 1 0 0)),(10,(.ptr 10 1 0 0)),(99,(.agg [(iv aA.line.Arc.From),(iv aA.line.Arc.To)])),(100,(iv 1)),(135,(bv aH))],[(.blk 3 [[(.vw (List.map dP aE.Nodes)),(.vw (List.map dR aE.Arcs)),(.vw (List.map dS aE.Faces))]]),(.blk 2 (List.map dV aG++[List.replicate 2 AV.undef])),(.mp (entL dX eB aF)),(.blk 2 [[(.sptr (eA aA.line)),(iv aA.at_)]]),(.blk 2 [[(.sptr (eA aB.line)),(iv aB.at_)]]),(.blk 2 [[(.sptr (eA aA.line)),(iv aA.at_)]]),(.blk 2 [[(.sptr (eA aB.line)),(iv aB.at_)]]),(.blk 2 [[(iv aC.1.X),(iv aC.1.Y)]]),(.blk 2 [[(iv aC.2.X),(iv aC.2.Y)]]),(.blk 2 [[(iv aD.1.X),(iv aD.1.Y)]]),(.blk 2 [[(iv aD.2.X),(iv aD.2.Y)]]),(.blk 2 [[(iv (Option.getD (mget aF aA.line.Arc.To) (GPoint.mk 0 0)).X),(iv (Option.getD (mget aF aA.line.Arc.To) (GPoint.mk 0 0)).Y)]])]⟩
def kZ (n : Nat) (aA : Gsegment) (aJ : GPlan) (aK : (List Gsegment)) (aB : (List (Int × GPoint))) (aE : Gsegment) (aC : (GPoint × GPoint)) (aD : (GPoint × GPoint)) : Option Bool:=(cnd (aA.line.Arc.To == aE.line.Arc.From) (bnd (uU n aC.1 aC.2 (GPoint.mk (Option.getD (mget aB aA.line.Arc.To) (GPoint.mk 0 0)).X (Option.getD (mget aB aA.line.Arc.To) (GPoint.mk 0 0)).Y)) fun aF=>(cnd (aF) (bnd (uU n aD.1 aD.2 (GPoint.mk (Option.getD (mget aB aA.line.Arc.To) (GPoint.mk 0 0)).X (Option.getD (mget aB aA.line.Arc.To) (GPoint.mk 0 0)).Y)) fun aG=>(cnd (aG) (some true) (some false))) (some false))) (cnd (aA.line.Arc.To == aE.line.Arc.To) (bnd (uU n aC.1 aC.2 (GPoint.mk (Option.getD (mget aB aA.line.Arc.To) (GPoint.mk 0 0)).X (Option.getD (mget aB aA.line.Arc.To) (GPoint.mk 0 0)).Y)) fun aH=>(cnd (aH) (bnd (uU n aD.1 aD.2 (GPoint.mk (Option.getD (mget aB aA.line.Arc.To) (GPoint.mk 0 0)).X (Option.getD (mget aB aA.line.Arc.To) (GPoint.mk 0 0)).Y)) fun aI=>(cnd (aI) (some true) (some false))) (some false))) (some false)))
theorem vQ (n : Nat) (aA : Gsegment) (aE : GPlan) (aF : (List Gsegment)) (aB : (List (Int × GPoint))) (aG : Gsegment) (aC : (GPoint × GPoint)) (aD : (GPoint × GPoint)) (r : Bool) (h : kZ n aA aE aF aB aG aC aD=some r) : eT lv35 lv18 false 0 12 (evC PP (evF PP T n) n 0 bE5 (aDi aA aE aF aB aG aC aD))=some (.normal,gC aA aE aF aB aG aC aD r):=by
 unfold kZ at h
 rcases cn h with ⟨aT,aH,h⟩ | ⟨aT,aH,h⟩
 ·obtain ⟨af,aN,h⟩:=dQ h
  rcases cn h with ⟨aJ,aU,h⟩ | ⟨aJ,aU,h⟩
  rotate_left
  ·have aV:=by have q:=gU n aC.1 aC.2 (GPoint.mk (Option.getD (mget aB aA.line.Arc.To) (GPoint.mk 0 0)).X (Option.getD (mget aB aA.line.Arc.To) (GPoint.mk 0 0)).Y) _ aN; rw [aJ] at q; exact q
   obtain rfl:=si h
   exact dY (gC aA aE aF aB aG aC aD false) (qa 128 aV<|qa 113 aH<|q0) [] []
  have aO:=by have q:=gU n aC.1 aC.2 (GPoint.mk (Option.getD (mget aB aA.line.Arc.To) (GPoint.mk 0 0)).X (Option.getD (mget aB aA.line.Arc.To) (GPoint.mk 0 0)).Y) _ aN; rw [aJ] at q; exact q
  obtain ⟨ag,aP,h⟩:=dQ h
  rcases cn h with ⟨aK,aW,h⟩ | ⟨aK,aW,h⟩
  ·have aX:=by have q:=gU n aD.1 aD.2 (GPoint.mk (Option.getD (mget aB aA.line.Arc.To) (GPoint.mk 0 0)).X (Option.getD (mget aB aA.line.Arc.To) (GPoint.mk 0 0)).Y) _ aP; rw [aK] at q; exact q
   obtain rfl:=si h
   exact dY (gC aA aE aF aB aG aC aD true) (qa 134 aX<|qa 128 aO<|qa 113 aH<|q0) [] []
  have aY:=by have q:=gU n aD.1 aD.2 (GPoint.mk (Option.getD (mget aB aA.line.Arc.To) (GPoint.mk 0 0)).X (Option.getD (mget aB aA.line.Arc.To) (GPoint.mk 0 0)).Y) _ aP; rw [aK] at q; exact q
  obtain rfl:=si h
  exact dY (gC aA aE aF aB aG aC aD false) (qa 134 aY<|qa 128 aO<|qa 113 aH<|q0) [] []
 rcases cn h with ⟨aZ,aI,h⟩ | ⟨aZ,aI,h⟩
 rotate_left
 ·obtain rfl:=si h
  exact dY (gC aA aE aF aB aG aC aD false) (qa 122 aI<|qa 113 aH<|q0) [] []
 obtain ⟨ah,aQ,h⟩:=dQ h
 rcases cn h with ⟨aL,aa,h⟩ | ⟨aL,aa,h⟩
 rotate_left
 ·have ab:=by have q:=gU n aC.1 aC.2 (GPoint.mk (Option.getD (mget aB aA.line.Arc.To) (GPoint.mk 0 0)).X (Option.getD (mget aB aA.line.Arc.To) (GPoint.mk 0 0)).Y) _ aQ; rw [aL] at q; exact q
  obtain rfl:=si h
  exact dY (gC aA aE aF aB aG aC aD false) (qa 128 ab<|qa 122 aI<|qa 113 aH<|q0) [] []
 have aR:=by have q:=gU n aC.1 aC.2 (GPoint.mk (Option.getD (mget aB aA.line.Arc.To) (GPoint.mk 0 0)).X (Option.getD (mget aB aA.line.Arc.To) (GPoint.mk 0 0)).Y) _ aQ; rw [aL] at q; exact q
 obtain ⟨ai,aS,h⟩:=dQ h
 rcases cn h with ⟨aM,ac,h⟩ | ⟨aM,ac,h⟩
 ·have ad:=by have q:=gU n aD.1 aD.2 (GPoint.mk (Option.getD (mget aB aA.line.Arc.To) (GPoint.mk 0 0)).X (Option.getD (mget aB aA.line.Arc.To) (GPoint.mk 0 0)).Y) _ aS; rw [aM] at q; exact q
  obtain rfl:=si h
  exact dY (gC aA aE aF aB aG aC aD true) (qa 134 ad<|qa 128 aR<|qa 122 aI<|qa 113 aH<|q0) [] []
 have ae:=by have q:=gU n aD.1 aD.2 (GPoint.mk (Option.getD (mget aB aA.line.Arc.To) (GPoint.mk 0 0)).X (Option.getD (mget aB aA.line.Arc.To) (GPoint.mk 0 0)).Y) _ aS; rw [aM] at q; exact q
 obtain rfl:=si h
 exact dY (gC aA aE aF aB aG aC aD false) (qa 134 ae<|qa 128 aR<|qa 122 aI<|qa 113 aH<|q0) [] []
def nA (n : Nat) (aA : Gsegment) (aC : GPlan) (aD : (List Gsegment)) (aB : (List (Int × GPoint))) (aE : Gsegment) (aF : (GPoint × GPoint)) (aG : (GPoint × GPoint)) : Option ((Int × Int) ⊕ Unit):=(bnd (prdk 3 n) fun aJ=>(bnd (mY n aA aC aD aB aE aF aG) fun aH=>(cnd (aH) (some (Sum.inl ((Option.getD (mget aB aA.line.Arc.From) (GPoint.mk 0 0)).X,(Option.getD (mget aB aA.line.Arc.From) (GPoint.mk 0 0)).Y))) (bnd (kZ n aA aC aD aB aE aF aG) fun aI=>(cnd (aI) (some (Sum.inl ((Option.getD (mget aB aA.line.Arc.To) (GPoint.mk 0 0)).X,(Option.getD (mget aB aA.line.Arc.To) (GPoint.mk 0 0)).Y))) (some (Sum.inr ())))))))
theorem xZ (n : Nat) (aA : Gsegment) (aE : GPlan) (aG : (List Gsegment)) (aF : (List (Int × GPoint))) (aB : Gsegment) (aC : (GPoint × GPoint)) (aD : (GPoint × GPoint)) (r : ((Int × Int) ⊕ Unit)) (h : nA n aA aE aG aF aB aC aD=some r) : eT [] lv18 true 0 11 (eG (eO (some lv34) true 0 11) (evC PP (evF PP T n) n 0 aZb) n (nR aA aE aG aF aB aC aD))=(match (generalizing:=false) r with | (.inl r)=>some (.ret,mZ aA aE aG aF aB aC aD r.1 r.2) | (.inr r)=>some ((.exit 0),qS aA aE aG aF aB aC aD)):=by
 unfold nA at h
 obtain ⟨aT,aQ,h⟩:=dQ h
 have aJ:=aWd aQ
 have aK:=xF (P:=PP) (cf:=evF PP T n) (fl:=0) (H:=(hp37 aE aG aF aA aB aC aD)) (id:=2) (kv:=dX) (va:=eB) (m:=aF) (k:=aA.line.Arc.From) (x:=(iv aA.line.Arc.From)) lG (GPoint.mk 0 0) rfl rfl
 obtain ⟨aU,aN,h⟩:=dQ h
 rcases cn h with ⟨aL,aR,h⟩ | ⟨aL,aR,h⟩
 ·have aH:=xY n aA aE aG aF aB aC aD _ aN
  rw [aL] at aH
  obtain rfl:=si h
  exact (congrArg (fun k=>eT [] lv18 true 0 11 (eG (eO (some lv34) true 0 11) (evC PP (evF PP T n) n 0 aZb) k (nR aA aE aG aF aB aC aD))) aJ).trans (eQ (some lv34) true (mZ aA aE aG aF aB aC aD ((Option.getD (mget aF aA.line.Arc.From) (GPoint.mk 0 0)).X) ((Option.getD (mget aF aA.line.Arc.From) (GPoint.mk 0 0)).Y)) (qp aH<|qb 105 aK<|q0) [(.normal,gE aA aE aG aF aB aC aD true)] [none] trivial)
 have aH:=xY n aA aE aG aF aB aC aD _ aN
 rw [aL] at aH
 have aO:=xF (P:=PP) (cf:=evF PP T n) (fl:=0) (H:=(hp37 aE aG aF aA aB aC aD)) (id:=2) (kv:=dX) (va:=eB) (m:=aF) (k:=aA.line.Arc.To) (x:=(iv aA.line.Arc.To)) lG (GPoint.mk 0 0) rfl rfl
 obtain ⟨aV,aP,h⟩:=dQ h
 rcases cn h with ⟨aM,aS,h⟩ | ⟨aM,aS,h⟩
 ·have aI:=vQ n aA aE aG aF aB aC aD _ aP
  rw [aM] at aI
  obtain rfl:=si h
  exact (congrArg (fun k=>eT [] lv18 true 0 11 (eG (eO (some lv34) true 0 11) (evC PP (evF PP T n) n 0 aZb) k (nR aA aE aG aF aB aC aD))) aJ).trans (nx_q (live:=some lv34) (tr:=true) ⟨sp 137 [(2,(.mp 2)),(4,(.ptr 6 1 0 0)),(7,(.ptr 7 1 0 0)),(8,(.ptr 8 1 0 0)),(9,(.ptr 9 1 0 0)),(10,(.ptr 10 1 0 0)),(99,(.agg [(iv aA.line.Arc.From),(iv aA.line.Arc.To)])),(100,(iv 1))],[(.blk 3 [[(.vw (List.map dP aE.Nodes)),(.vw (List.map dR aE.Arcs)),(.vw (List.map dS aE.Faces))]]),(.blk 2 (List.map dV aG++[List.replicate 2 AV.undef])),(.mp (entL dX eB aF)),(.blk 2 [[(.sptr (eA aA.line)),(iv aA.at_)]]),(.blk 2 [[(.sptr (eA aB.line)),(iv aB.at_)]]),(.blk 2 [[(.sptr (eA aA.line)),(iv aA.at_)]]),(.blk 2 [[(.sptr (eA aB.line)),(iv aB.at_)]]),(.blk 2 [[(iv aC.1.X),(iv aC.1.Y)]]),(.blk 2 [[(iv aC.2.X),(iv aC.2.Y)]]),(.blk 2 [[(iv aD.1.X),(iv aD.1.Y)]]),(.blk 2 [[(iv aD.2.X),(iv aD.2.Y)]])]⟩ (qp aH<|qb 105 aK<|q0) [(.normal,gE aA aE aG aF aB aC aD false)] [none] (by exact (clo rfl (clo (lH (eI 11)) (clo (kA (kv:=dX) (va:=eB) fun _=>rfl) (clo rfl (clo rfl (clo rfl (clo rfl (clo rfl (clo rfl (clo rfl (clo rfl rfl)))))))))))) (eQ (some lv34) true (mZ aA aE aG aF aB aC aD ((Option.getD (mget aF aA.line.Arc.To) (GPoint.mk 0 0)).X) ((Option.getD (mget aF aA.line.Arc.To) (GPoint.mk 0 0)).Y)) (qp aI<|qb 105 aO<|q0) [(.normal,gC aA aE aG aF aB aC aD true)] [none] trivial))
 have aI:=vQ n aA aE aG aF aB aC aD _ aP
 rw [aM] at aI
 obtain rfl:=si h
 exact (congrArg (fun k=>eT [] lv18 true 0 11 (eG (eO (some lv34) true 0 11) (evC PP (evF PP T n) n 0 aZb) k (nR aA aE aG aF aB aC aD))) aJ).trans (nx_q (live:=some lv34) (tr:=true) ⟨sp 137 [(2,(.mp 2)),(4,(.ptr 6 1 0 0)),(7,(.ptr 7 1 0 0)),(8,(.ptr 8 1 0 0)),(9,(.ptr 9 1 0 0)),(10,(.ptr 10 1 0 0)),(99,(.agg [(iv aA.line.Arc.From),(iv aA.line.Arc.To)])),(100,(iv 1))],[(.blk 3 [[(.vw (List.map dP aE.Nodes)),(.vw (List.map dR aE.Arcs)),(.vw (List.map dS aE.Faces))]]),(.blk 2 (List.map dV aG++[List.replicate 2 AV.undef])),(.mp (entL dX eB aF)),(.blk 2 [[(.sptr (eA aA.line)),(iv aA.at_)]]),(.blk 2 [[(.sptr (eA aB.line)),(iv aB.at_)]]),(.blk 2 [[(.sptr (eA aA.line)),(iv aA.at_)]]),(.blk 2 [[(.sptr (eA aB.line)),(iv aB.at_)]]),(.blk 2 [[(iv aC.1.X),(iv aC.1.Y)]]),(.blk 2 [[(iv aC.2.X),(iv aC.2.Y)]]),(.blk 2 [[(iv aD.1.X),(iv aD.1.Y)]]),(.blk 2 [[(iv aD.2.X),(iv aD.2.Y)]])]⟩ (qp aH<|qb 105 aK<|q0) [(.normal,gE aA aE aG aF aB aC aD false)] [none] (by exact (clo rfl (clo (lH (eI 11)) (clo (kA (kv:=dX) (va:=eB) fun _=>rfl) (clo rfl (clo rfl (clo rfl (clo rfl (clo rfl (clo rfl (clo rfl (clo rfl rfl)))))))))))) (nx_q (live:=some lv34) (tr:=true) ⟨sp 137 [(2,(.mp 2)),(4,(.ptr 6 1 0 0)),(7,(.ptr 7 1 0 0)),(8,(.ptr 8 1 0 0)),(9,(.ptr 9 1 0 0)),(10,(.ptr 10 1 0 0)),(99,(.agg [(iv aA.line.Arc.From),(iv aA.line.Arc.To)])),(100,(iv 2))],[(.blk 3 [[(.vw (List.map dP aE.Nodes)),(.vw (List.map dR aE.Arcs)),(.vw (List.map dS aE.Faces))]]),(.blk 2 (List.map dV aG++[List.replicate 2 AV.undef])),(.mp (entL dX eB aF)),(.blk 2 [[(.sptr (eA aA.line)),(iv aA.at_)]]),(.blk 2 [[(.sptr (eA aB.line)),(iv aB.at_)]]),(.blk 2 [[(.sptr (eA aA.line)),(iv aA.at_)]]),(.blk 2 [[(.sptr (eA aB.line)),(iv aB.at_)]]),(.blk 2 [[(iv aC.1.X),(iv aC.1.Y)]]),(.blk 2 [[(iv aC.2.X),(iv aC.2.Y)]]),(.blk 2 [[(iv aD.1.X),(iv aD.1.Y)]]),(.blk 2 [[(iv aD.2.X),(iv aD.2.Y)]])]⟩ (qp aI<|qb 105 aO<|q0) [(.normal,gC aA aE aG aF aB aC aD false)] [none] (by exact (clo rfl (clo (lH (eI 11)) (clo (kA (kv:=dX) (va:=eB) fun _=>rfl) (clo rfl (clo rfl (clo rfl (clo rfl (clo rfl (clo rfl (clo rfl (clo rfl rfl)))))))))))) (eQ (some lv34) true (qS aA aE aG aF aB aC aD) q0 [] [] (by exact (clo rfl (clo (lH (eI 11)) (clo (kA (kv:=dX) (va:=eB) fun _=>rfl) (clo rfl (clo rfl (clo rfl (clo rfl (clo rfl (clo rfl (clo rfl (clo rfl rfl)))))))))))))))
abbrev hp38 (aE : GPlan) (aG : (List Gsegment)) (aH : (List (Int × GPoint))) (aA : Gsegment) (aB : Gsegment) (aC : (GPoint × GPoint)) (aD : (GPoint × GPoint)) (aF : (Int × Int)) : Heap:=[(.blk 3 [[(.vw (List.map dP aE.Nodes)),(.vw (List.map dR aE.Arcs)),(.vw (List.map dS aE.Faces))]]),(.blk 2 (List.map dV aG++[List.replicate 2 AV.undef])),(.mp (entL dX eB aH)),(.blk 2 [[(.sptr (eA aA.line)),(iv aA.at_)]]),(.blk 2 [[(.sptr (eA aB.line)),(iv aB.at_)]]),(.blk 2 [[(.sptr (eA aA.line)),(iv aA.at_)]]),(.blk 2 [[(.sptr (eA aB.line)),(iv aB.at_)]]),(.blk 2 [[(iv aC.1.X),(iv aC.1.Y)]]),(.blk 2 [[(iv aC.2.X),(iv aC.2.Y)]]),(.blk 2 [[(iv aD.1.X),(iv aD.1.Y)]]),(.blk 2 [[(iv aD.2.X),(iv aD.2.Y)]]),(.blk 2 [[(iv aF.1),(iv aF.2)]])]
def lK (n : Nat) (aF : (List Gsegment)) (aM : Int) (aI : (List Gsegment)) (aG : GPlan) (aH : (List (Int × GPoint))) (aD : Gsegment) : Nat→Int→Option (Unit ⊕ (Int × Int × Gline × Int × Gline × Int × Gline × Int × Int × Int × Int × Int × Int × Int))
 | 0,_=>none
 | m + 1,aJ=>(cnd (decide (aJ < ((aI.length : Nat) : Int))) (bnd (idx aI aJ) fun aC=>(bnd (lP n aC) fun aN=>(bnd (rF n aD) fun aO=>(cnd (decide (aN > aO)) (some (Sum.inl ())) (bnd (prd n) fun aK=>(bnd (jI aK aD) fun aA=>(bnd (jI aK aC) fun aB=>(bnd (aG2 aK aA.1 aA.2 aB.1 aB.2) fun aL=>(cnd (aD.line.Arc.ID == aC.line.Arc.ID) (bnd (nC aK aL aG aF aH aD aC aA aB) fun aE=>(bnd (nB aK aL aG aF aH aD aC aE aA aB) fun aP=>(cnd (aP) (cnd (aL == 1) (lK n aF aM aI aG aH aD m (IntKind.i64.wrap (aJ + 1))) (some (Sum.inr (aB.2.X,aB.2.Y,aC.line,aC.at_,aE.1,aE.2.1,aE.2.2.1,aE.2.2.2,aA.1.X,aA.1.Y,aA.2.X,aA.2.Y,aB.1.X,aB.1.Y)))) (cnd (aL == 0) (lK n aF aM aI aG aH aD m (IntKind.i64.wrap (aJ + 1))) (some (Sum.inr (aB.2.X,aB.2.Y,aC.line,aC.at_,aE.1,aE.2.1,aE.2.2.1,aE.2.2.2,aA.1.X,aA.1.Y,aA.2.X,aA.2.Y,aB.1.X,aB.1.Y))))))) (cnd (aL != 1) (cnd (aL == 0) (lK n aF aM aI aG aH aD m (IntKind.i64.wrap (aJ + 1))) (some (Sum.inr (aB.2.X,aB.2.Y,aC.line,aC.at_,aD.line,aD.at_,aC.line,aC.at_,aA.1.X,aA.1.Y,aA.2.X,aA.2.Y,aB.1.X,aB.1.Y)))) (bnd2 (nA aK aD aG aF aH aC aA aB) (fun aQ=>(lK n aF aM aI aG aH aD m (IntKind.i64.wrap (aJ + 1)))) (fun aR=>(some (Sum.inr (aB.2.X,aB.2.Y,aC.line,aC.at_,aD.line,aD.at_,aC.line,aC.at_,aA.1.X,aA.1.Y,aA.2.X,aA.2.Y,aB.1.X,aB.1.Y))))))))))))))) (some (Sum.inl ())))
theorem lR (n : Nat) (aD : (List Gsegment)) (aI : Int) (aJ : (List Gsegment)) (aC : GPlan) (aE : (List (Int × GPoint))) (aA : Gsegment) : ∀ (m : Nat) (aK : Int) (r : (Unit ⊕ (Int × Int × Gline × Int × Gline × Int × Gline × Int × Int × Int × Int × Int × Int × Int))),lK n aD aI aJ aC aE aA m aK=some r→eT lv40 [false,false,true] true 0 4 (eG (eO (some lv39) true 0 4) (evC PP (evF PP T n) n 0 bHm) m (mP aD aI aJ aC aE aA aK))=(match r with | (.inl r)=>some ((.exit 4),oH aD aI aJ aC aE aA) | (.inr r)=>some (.ret,lS aD aI aJ aC aE aA r.1 r.2.1 r.2.2.1 r.2.2.2.1 r.2.2.2.2.1 r.2.2.2.2.2.1 r.2.2.2.2.2.2.1 r.2.2.2.2.2.2.2.1 r.2.2.2.2.2.2.2.2.1 r.2.2.2.2.2.2.2.2.2.1 r.2.2.2.2.2.2.2.2.2.2.1 r.2.2.2.2.2.2.2.2.2.2.2.1 r.2.2.2.2.2.2.2.2.2.2.2.2.1 r.2.2.2.2.2.2.2.2.2.2.2.2.2))
 | 0,_,_,h=>by cases h
 | m + 1,aK,r,h=>by
  rw [lK] at h
  rcases cn h with ⟨ai,aL,h⟩ | ⟨ai,aL,h⟩
  rotate_left
  ·obtain rfl:=si h
   exact eQ (some lv39) true (oH aD aI aJ aC aE aA) (qa 52 aL<|q0) [] [] (by exact (clo rfl (clo (lH (eI 4)) (clo (kA (kv:=dX) (va:=eB) fun _=>rfl) (clo rfl rfl)))))
  obtain ⟨aB,aj,h⟩:=dQ h
  have aO:=idxl (H:=(hp34 aC aD aE aA)) (f:=false) (c:=dV) aj (xN _)
  obtain ⟨bI,ak,h⟩:=dQ h
  have aP:=sH n aB _ ak
  obtain ⟨bJ,al,h⟩:=dQ h
  have aQ:=aE5 n aA _ al
  rcases cn h with ⟨am,aN,h⟩ | ⟨am,aN,h⟩
  ·obtain rfl:=si h
   exact eQ (some lv39) true (oH aD aI aJ aC aE aA) (qa 59 aN<|qa 58 aQ<|qa 56 aP<|qa 53 aO<|qa 52 aL<|q0) [] [none] (by exact (clo rfl (clo (lH (eI 4)) (clo (kA (kv:=dX) (va:=eB) fun _=>rfl) (clo rfl rfl)))))
  obtain ⟨aS,an,h⟩:=dQ h
  have aT:=pQ an
  obtain ⟨aF,ao,h⟩:=dQ h
  have aU:=kY aS aA _ ao
  obtain ⟨aG,ap,h⟩:=dQ h
  have aV:=kY aS aB _ ap
  obtain ⟨aM,aq,h⟩:=dQ h
  have aW:=aPw aS aF.1 aF.2 aG.1 aG.2 _ aq
  rcases cn h with ⟨ar,aR,h⟩ | ⟨ar,aR,h⟩
  ·obtain ⟨aH,au,h⟩:=dQ h
   have aZ:=aDy aS aM aC aD aE aA aB aF aG _ au
   obtain ⟨bK,ah,h⟩:=dQ h
   rcases cn h with ⟨aa,av,h⟩ | ⟨aa,av,h⟩
   ·have aX:=yA aS aM aC aD aE aA aB aH aF aG _ ah
    rw [aa] at aX
    rcases cn h with ⟨aw,ab,h⟩ | ⟨aw,ab,h⟩
    ·have ax : evF PP T n 0 75 [(.agg [(.sptr (eA aA.line)),(iv aA.at_)]),(.agg [(.sptr (eA aB.line)),(iv aB.at_)]),(.mp 2)] (hp35 aC aD aE aA aB)=some (bt,(hp36 aC aD aE aA aB aH aF aG)):=by
      rw [aT]; exact iT F75 (qa 80 ab<|qp aX<|qp aZ<|qa 42 aR<|qa 29 aW<|qa 22 aV<|qa 17 aU<|q0) [(.normal,iP aM aC aD aE aA aB aF aG aH.1 aH.2.1 aH.2.2.1 aH.2.2.2),(.normal,gK aM aC aD aE aA aB aH aF aG true)] [none,none,none,none]
     exact nx_q (mP aD aI aJ aC aE aA (IntKind.i64.wrap (aK + 1))) (qc 63 ax<|qa 59 aN<|qa 58 aQ<|qa 56 aP<|qa 53 aO<|qa 52 aL<|q0) [] [none] (tV _ _ _ _ _ _ _) (lR n aD aI aJ aC aE aA m (IntKind.i64.wrap (aK + 1)) r h)
    have ay : evF PP T n 0 75 [(.agg [(.sptr (eA aA.line)),(iv aA.at_)]),(.agg [(.sptr (eA aB.line)),(iv aB.at_)]),(.mp 2)] (hp35 aC aD aE aA aB)=some (bf,(hp36 aC aD aE aA aB aH aF aG)):=by
     rw [aT]; exact iT F75 (qa 80 ab<|qp aX<|qp aZ<|qa 42 aR<|qa 29 aW<|qa 22 aV<|qa 17 aU<|q0) [(.normal,iP aM aC aD aE aA aB aF aG aH.1 aH.2.1 aH.2.2.1 aH.2.2.2),(.normal,gK aM aC aD aE aA aB aH aF aG true)] [none,none,none,none]
    obtain rfl:=si h
    exact eQ (some lv39) true (lS aD aI aJ aC aE aA aG.2.X aG.2.Y aB.line aB.at_ aH.1 aH.2.1 aH.2.2.1 aH.2.2.2 aF.1.X aF.1.Y aF.2.X aF.2.Y aG.1.X aG.1.Y) (qc 63 ay<|qa 59 aN<|qa 58 aQ<|qa 56 aP<|qa 53 aO<|qa 52 aL<|q0) [] [none] trivial
   have aX:=yA aS aM aC aD aE aA aB aH aF aG _ ah
   rw [aa] at aX
   rcases cn h with ⟨az,ac,h⟩ | ⟨az,ac,h⟩
   ·have bA : evF PP T n 0 75 [(.agg [(.sptr (eA aA.line)),(iv aA.at_)]),(.agg [(.sptr (eA aB.line)),(iv aB.at_)]),(.mp 2)] (hp35 aC aD aE aA aB)=some (bt,(hp36 aC aD aE aA aB aH aF aG)):=by
     rw [aT]; exact iT F75 (qa 82 ac<|qp aX<|qp aZ<|qa 42 aR<|qa 29 aW<|qa 22 aV<|qa 17 aU<|q0) [(.normal,iP aM aC aD aE aA aB aF aG aH.1 aH.2.1 aH.2.2.1 aH.2.2.2),(.normal,gK aM aC aD aE aA aB aH aF aG false)] [none,none,none,none]
    exact nx_q (mP aD aI aJ aC aE aA (IntKind.i64.wrap (aK + 1))) (qc 63 bA<|qa 59 aN<|qa 58 aQ<|qa 56 aP<|qa 53 aO<|qa 52 aL<|q0) [] [none] (tV _ _ _ _ _ _ _) (lR n aD aI aJ aC aE aA m (IntKind.i64.wrap (aK + 1)) r h)
   have bB : evF PP T n 0 75 [(.agg [(.sptr (eA aA.line)),(iv aA.at_)]),(.agg [(.sptr (eA aB.line)),(iv aB.at_)]),(.mp 2)] (hp35 aC aD aE aA aB)=some (bf,(hp36 aC aD aE aA aB aH aF aG)):=by
    rw [aT]; exact iT F75 (qa 82 ac<|qp aX<|qp aZ<|qa 42 aR<|qa 29 aW<|qa 22 aV<|qa 17 aU<|q0) [(.normal,iP aM aC aD aE aA aB aF aG aH.1 aH.2.1 aH.2.2.1 aH.2.2.2),(.normal,gK aM aC aD aE aA aB aH aF aG false)] [none,none,none,none]
   obtain rfl:=si h
   exact eQ (some lv39) true (lS aD aI aJ aC aE aA aG.2.X aG.2.Y aB.line aB.at_ aH.1 aH.2.1 aH.2.2.1 aH.2.2.2 aF.1.X aF.1.Y aF.2.X aF.2.Y aG.1.X aG.1.Y) (qc 63 bB<|qa 59 aN<|qa 58 aQ<|qa 56 aP<|qa 53 aO<|qa 52 aL<|q0) [] [none] trivial
  rcases cn h with ⟨bC,aY,h⟩ | ⟨bC,aY,h⟩
  ·rcases cn h with ⟨bD,ad,h⟩ | ⟨bD,ad,h⟩
   ·have bE : evF PP T n 0 75 [(.agg [(.sptr (eA aA.line)),(iv aA.at_)]),(.agg [(.sptr (eA aB.line)),(iv aB.at_)]),(.mp 2)] (hp35 aC aD aE aA aB)=some (bt,(hp37 aC aD aE aA aB aF aG)):=by
     rw [aT]; exact iT F75 (qa 86 ad<|qa 84 aY<|qa 42 aR<|qa 29 aW<|qa 22 aV<|qa 17 aU<|q0) [] [none,none,none,none]
    exact nx_q (mP aD aI aJ aC aE aA (IntKind.i64.wrap (aK + 1))) (qc 63 bE<|qa 59 aN<|qa 58 aQ<|qa 56 aP<|qa 53 aO<|qa 52 aL<|q0) [] [none] (tV _ _ _ _ _ _ _) (lR n aD aI aJ aC aE aA m (IntKind.i64.wrap (aK + 1)) r h)
   have bF : evF PP T n 0 75 [(.agg [(.sptr (eA aA.line)),(iv aA.at_)]),(.agg [(.sptr (eA aB.line)),(iv aB.at_)]),(.mp 2)] (hp35 aC aD aE aA aB)=some (bf,(hp37 aC aD aE aA aB aF aG)):=by
    rw [aT]; exact iT F75 (qa 86 ad<|qa 84 aY<|qa 42 aR<|qa 29 aW<|qa 22 aV<|qa 17 aU<|q0) [] [none,none,none,none]
   obtain rfl:=si h
   exact eQ (some lv39) true (lS aD aI aJ aC aE aA aG.2.X aG.2.Y aB.line aB.at_ aA.line aA.at_ aB.line aB.at_ aF.1.X aF.1.Y aF.2.X aF.2.Y aG.1.X aG.1.Y) (qc 63 bF<|qa 59 aN<|qa 58 aQ<|qa 56 aP<|qa 53 aO<|qa 52 aL<|q0) [] [none] trivial
  rcases gF h with ⟨ae,af,h⟩ | ⟨bL,af,h⟩
  ·have ag:=xZ aS aA aC aD aE aB aF aG _ af
   have bG : evF PP T n 0 75 [(.agg [(.sptr (eA aA.line)),(iv aA.at_)]),(.agg [(.sptr (eA aB.line)),(iv aB.at_)]),(.mp 2)] (hp35 aC aD aE aA aB)=some (bt,(hp38 aC aD aE aA aB aF aG ae)):=by
    rw [aT]; exact iT F75 (qp ag<|qp (show eS true 0 11 [(.blk 3 [[(.vw (List.map dP aC.Nodes)),(.vw (List.map dR aC.Arcs)),(.vw (List.map dS aC.Faces))]]),(.blk 2 (List.map dV aD++[List.replicate 2 AV.undef])),(.mp (entL dX eB aE)),(.blk 2 [[(.sptr (eA aA.line)),(iv aA.at_)]]),(.blk 2 [[(.sptr (eA aB.line)),(iv aB.at_)]]),(.blk 2 [[(.sptr (eA aA.line)),(iv aA.at_)]]),(.blk 2 [[(.sptr (eA aB.line)),(iv aB.at_)]]),(.blk 2 [[(iv aF.1.X),(iv aF.1.Y)]]),(.blk 2 [[(iv aF.2.X),(iv aF.2.Y)]]),(.blk 2 [[(iv aG.1.X),(iv aG.1.Y)]]),(.blk 2 [[(iv aG.2.X),(iv aG.2.Y)]])] from (by exact (clo rfl (clo (lH (eI 11)) (clo (kA (kv:=dX) (va:=eB) fun _=>rfl) (clo rfl (clo rfl (clo rfl (clo rfl (clo rfl (clo rfl (clo rfl (clo rfl rfl)))))))))))))<|qa 84 aY<|qa 42 aR<|qa 29 aW<|qa 22 aV<|qa 17 aU<|q0) [(.ret,mZ aA aC aD aE aB aF aG ae.1 ae.2)] [none,none,none,none]
   exact nx_q (mP aD aI aJ aC aE aA (IntKind.i64.wrap (aK + 1))) (qc 63 bG<|qa 59 aN<|qa 58 aQ<|qa 56 aP<|qa 53 aO<|qa 52 aL<|q0) [] [none] (tV _ _ _ _ _ _ _) (lR n aD aI aJ aC aE aA m (IntKind.i64.wrap (aK + 1)) r h)
  have ag:=xZ aS aA aC aD aE aB aF aG _ af
  have bH : evF PP T n 0 75 [(.agg [(.sptr (eA aA.line)),(iv aA.at_)]),(.agg [(.sptr (eA aB.line)),(iv aB.at_)]),(.mp 2)] (hp35 aC aD aE aA aB)=some (bf,(hp37 aC aD aE aA aB aF aG)):=by
   rw [aT]; exact iT F75 (qp ag<|qp (show eS true 0 11 [(.blk 3 [[(.vw (List.map dP aC.Nodes)),(.vw (List.map dR aC.Arcs)),(.vw (List.map dS aC.Faces))]]),(.blk 2 (List.map dV aD++[List.replicate 2 AV.undef])),(.mp (entL dX eB aE)),(.blk 2 [[(.sptr (eA aA.line)),(iv aA.at_)]]),(.blk 2 [[(.sptr (eA aB.line)),(iv aB.at_)]]),(.blk 2 [[(.sptr (eA aA.line)),(iv aA.at_)]]),(.blk 2 [[(.sptr (eA aB.line)),(iv aB.at_)]]),(.blk 2 [[(iv aF.1.X),(iv aF.1.Y)]]),(.blk 2 [[(iv aF.2.X),(iv aF.2.Y)]]),(.blk 2 [[(iv aG.1.X),(iv aG.1.Y)]]),(.blk 2 [[(iv aG.2.X),(iv aG.2.Y)]])] from (by exact (clo rfl (clo (lH (eI 11)) (clo (kA (kv:=dX) (va:=eB) fun _=>rfl) (clo rfl (clo rfl (clo rfl (clo rfl (clo rfl (clo rfl (clo rfl (clo rfl rfl)))))))))))))<|qa 84 aY<|qa 42 aR<|qa 29 aW<|qa 22 aV<|qa 17 aU<|q0) [((.exit 0),qS aA aC aD aE aB aF aG)] [none,none,none,none]
  obtain rfl:=si h
  exact eQ (some lv39) true (lS aD aI aJ aC aE aA aG.2.X aG.2.Y aB.line aB.at_ aA.line aA.at_ aB.line aB.at_ aF.1.X aF.1.Y aF.2.X aF.2.Y aG.1.X aG.1.Y) (qc 63 bH<|qa 59 aN<|qa 58 aQ<|qa 56 aP<|qa 53 aO<|qa 52 aL<|q0) [] [none] trivial
def yQ (aB : (List Gsegment)) (aD : Int) (aA : GPlan) (aE : (List (Int × GPoint))) (aC : Gsegment) (aF : Int) : St:=⟨sp 117 [(1,(.ptr 0 1 0 0)),(3,(.sl false (List.map dV aB))),(5,(.mp 2)),(9,(.ptr 3 1 0 0)),(39,(.sl false (List.map dV aB))),(40,(iv ((aB.length : Nat) : Int))),(41,(iv aD)),(67,(.vw (List.map dP aA.Nodes))),(68,(iv ((aA.Nodes.length : Nat) : Int))),(69,(iv aF))],[(.blk 3 [[(.vw (List.map dP aA.Nodes)),(.vw (List.map dR aA.Arcs)),(.vw (List.map dS aA.Faces))]]),(.blk 2 (List.map dV aB++[List.replicate 2 AV.undef])),(.mp (entL dX eB aE)),(.blk 2 [[(.sptr (eA aC.line)),(iv aC.at_)]])]⟩
theorem aI5 (aA : (List Gsegment)) (aB : Int) (aC : GPlan) (aD : (List (Int × GPoint))) (aE : Gsegment) (aF : Int) : eS true 0 4 (yQ aA aB aC aD aE aF).heap:=(by exact (clo rfl (clo (lH (eI 4)) (clo (kA (kv:=dX) (va:=eB) fun _=>rfl) (clo rfl rfl)))))
def wL (aC : (List Gsegment)) (aL : Int) (aA : GPlan) (aD : (List (Int × GPoint))) (aB : Gsegment) (aE : Int) (aF : Int) (aG : Int) (aH : Int) (aI : Int) (aJ : Int) (aK : Int) : St:=⟨sp 117 [(2,bf)],[(.blk 3 [[(.vw (List.map dP aA.Nodes)),(.vw (List.map dR aA.Arcs)),(.vw (List.map dS aA.Faces))]]),(.blk 2 (List.map dV aC++[List.replicate 2 AV.undef])),(.mp (entL dX eB aD)),(.blk 2 [[(.sptr (eA aB.line)),(iv aB.at_)]]),(.blk 3 [[(iv aE),(iv aF),(iv aG)]]),(.blk 2 [[(iv aH),(iv aI)]]),(.blk 2 [[(iv aJ),(iv aK)]])]⟩
def wK (aA : (List Gsegment)) (aD : Int) (aB : GPlan) (aE : (List (Int × GPoint))) (aC : Gsegment) : St:=⟨sp 117 [(1,(.ptr 0 1 0 0)),(3,(.sl false (List.map dV aA))),(5,(.mp 2)),(39,(.sl false (List.map dV aA))),(40,(iv ((aA.length : Nat) : Int))),(41,(iv aD))],[(.blk 3 [[(.vw (List.map dP aB.Nodes)),(.vw (List.map dR aB.Arcs)),(.vw (List.map dS aB.Faces))]]),(.blk 2 (List.map dV aA++[List.replicate 2 AV.undef])),(.mp (entL dX eB aE)),(.blk 2 [[(.sptr (eA aC.line)),(iv aC.at_)]])]⟩
def aI4 (aB : (List Gsegment)) (aE : Int) (aA : GPlan) (aF : Int) (aG : (List (Int × GPoint))) (aD : Gsegment) (aH : GNode) (aC : (GPoint × GPoint)) : St:=⟨sp 117 [(1,(.ptr 0 1 0 0)),(3,(.sl false (List.map dV aB))),(5,(.mp 2)),(9,(.ptr 3 1 0 0)),(13,(.ptr 4 1 0 0)),(14,(.ptr 5 1 0 0)),(15,(.ptr 6 1 0 0)),(39,(.sl false (List.map dV aB))),(40,(iv ((aB.length : Nat) : Int))),(41,(iv aE)),(67,(.vw (List.map dP aA.Nodes))),(68,(iv ((aA.Nodes.length : Nat) : Int))),(69,(iv aF))],[(.blk 3 [[(.vw (List.map dP aA.Nodes)),(.vw (List.map dR aA.Arcs)),(.vw (List.map dS aA.Faces))]]),(.blk 2 (List.map dV aB++[List.replicate 2 AV.undef])),(.mp (entL dX eB aG)),(.blk 2 [[(.sptr (eA aD.line)),(iv aD.at_)]]),(.blk 3 [(dP aH)]),(.blk 2 [[(iv aC.1.X),(iv aC.1.Y)]]),(.blk 2 [[(iv aC.2.X),(iv aC.2.Y)]])]⟩
def gZ (aB : (List Gsegment)) (aE : Int) (aA : GPlan) (aF : Int) (aG : (List (Int × GPoint))) (aD : Gsegment) (aH : GNode) (aC : (GPoint × GPoint)) (aI : Bool) : St:=⟨sp 117 [(1,(.ptr 0 1 0 0)),(3,(.sl false (List.map dV aB))),(5,(.mp 2)),(9,(.ptr 3 1 0 0)),(39,(.sl false (List.map dV aB))),(40,(iv ((aB.length : Nat) : Int))),(41,(iv aE)),(67,(.vw (List.map dP aA.Nodes))),(68,(iv ((aA.Nodes.length : Nat) : Int))),(69,(iv aF)),(114,(bv aI))],[(.blk 3 [[(.vw (List.map dP aA.Nodes)),(.vw (List.map dR aA.Arcs)),(.vw (List.map dS aA.Faces))]]),(.blk 2 (List.map dV aB++[List.replicate 2 AV.undef])),(.mp (entL dX eB aG)),(.blk 2 [[(.sptr (eA aD.line)),(iv aD.at_)]]),(.blk 3 [(dP aH)]),(.blk 2 [[(iv aC.1.X),(iv aC.1.Y)]]),(.blk 2 [[(iv aC.2.X),(iv aC.2.Y)]])]⟩
def tB (n : Nat) (aH : (List Gsegment)) (aI : Int) (aJ : GPlan) (aK : Int) (aL : (List (Int × GPoint))) (aA : Gsegment) (aB : GNode) (aC : (GPoint × GPoint)) : Option Bool:=(bnd (uU n aC.1 aC.2 aB.At) fun aD=>(cnd (aD) (bnd (mX n aA) fun aE=>(cnd (aE) (cnd (aA.line.Arc.From == aB.ID) (some false) (bnd (lQ n aA) fun aF=>(cnd (aF) (cnd (aA.line.Arc.To == aB.ID) (some false) (some true)) (some true)))) (bnd (lQ n aA) fun aG=>(cnd (aG) (cnd (aA.line.Arc.To == aB.ID) (some false) (some true)) (some true))))) (some false)))
theorem aB4 (n : Nat) (aD : (List Gsegment)) (aE : Int) (aF : GPlan) (aG : Int) (aH : (List (Int × GPoint))) (aA : Gsegment) (aC : GNode) (aB : (GPoint × GPoint)) (r : Bool) (h : tB n aD aE aF aG aH aA aC aB=some r) : eT lv42 [false,false,true] false 0 7 (evC PP (evF PP T n) n 0 bHk (aI4 aD aE aF aG aH aA aC aB))=some (.normal,gZ aD aE aF aG aH aA aC aB r):=by
 unfold tB at h
 obtain ⟨ai,aS,h⟩:=dQ h
 rcases cn h with ⟨aL,aY,h⟩ | ⟨aL,aY,h⟩
 rotate_left
 ·have aZ:=by have q:=gU n aB.1 aB.2 aC.At _ aS; rw [aL] at q; exact q
  obtain rfl:=si h
  exact dY (gZ aD aE aF aG aH aA aC aB false) (qa 82 aZ<|q0) [] []
 have aI:=by have q:=gU n aB.1 aB.2 aC.At _ aS; rw [aL] at q; exact q
 obtain ⟨aj,aT,h⟩:=dQ h
 rcases cn h with ⟨aM,aa,h⟩ | ⟨aM,aa,h⟩
 rotate_left
 ·have aN:=by have q:=mW n aA _ aT; rw [aM] at q; exact q
  obtain ⟨ak,aU,h⟩:=dQ h
  rcases cn h with ⟨aO,ab,h⟩ | ⟨aO,ab,h⟩
  rotate_left
  ·have ac:=by have q:=jT n aA _ aU; rw [aO] at q; exact q
   obtain rfl:=si h
   exact dY (gZ aD aE aF aG aH aA aC aB true) (qa 101 ac<|qa 85 aN<|qa 82 aI<|q0) [] []
  have aV:=by have q:=jT n aA _ aU; rw [aO] at q; exact q
  rcases cn h with ⟨ad,aP,h⟩ | ⟨ad,aP,h⟩
  rotate_left
  ·obtain rfl:=si h
   exact dY (gZ aD aE aF aG aH aA aC aB true) (qa 111 aP<|qa 101 aV<|qa 85 aN<|qa 82 aI<|q0) [] []
  obtain rfl:=si h
  exact dY (gZ aD aE aF aG aH aA aC aB false) (qa 111 aP<|qa 101 aV<|qa 85 aN<|qa 82 aI<|q0) [] []
 have aK:=by have q:=mW n aA _ aT; rw [aM] at q; exact q
 rcases cn h with ⟨ae,aJ,h⟩ | ⟨ae,aJ,h⟩
 ·obtain rfl:=si h
  exact dY (gZ aD aE aF aG aH aA aC aB false) (qa 95 aJ<|qa 85 aK<|qa 82 aI<|q0) [] []
 obtain ⟨al,aW,h⟩:=dQ h
 rcases cn h with ⟨aQ,af,h⟩ | ⟨aQ,af,h⟩
 rotate_left
 ·have ag:=by have q:=jT n aA _ aW; rw [aQ] at q; exact q
  obtain rfl:=si h
  exact dY (gZ aD aE aF aG aH aA aC aB true) (qa 101 ag<|qa 95 aJ<|qa 85 aK<|qa 82 aI<|q0) [] []
 have aX:=by have q:=jT n aA _ aW; rw [aQ] at q; exact q
 rcases cn h with ⟨ah,aR,h⟩ | ⟨ah,aR,h⟩
 rotate_left
 ·obtain rfl:=si h
  exact dY (gZ aD aE aF aG aH aA aC aB true) (qa 111 aR<|qa 101 aX<|qa 95 aJ<|qa 85 aK<|qa 82 aI<|q0) [] []
 obtain rfl:=si h
 exact dY (gZ aD aE aF aG aH aA aC aB false) (qa 111 aR<|qa 101 aX<|qa 95 aJ<|qa 85 aK<|qa 82 aI<|q0) [] []
def tC (n : Nat) (aF : (List Gsegment)) (aG : Int) (aB : GPlan) (aH : (List (Int × GPoint))) (aE : Gsegment) : Nat→Int→Option ((Int × Int × Int × Int × Int × Int × Int) ⊕ Unit)
 | 0,_=>none
 | m + 1,aC=>(cnd (decide (aC < ((aB.Nodes.length : Nat) : Int))) (bnd (idx aB.Nodes aC) fun aD=>(bnd (jI n aE) fun aA=>(bnd (tB n aF aG aB aC aH aE aD aA) fun aI=>(cnd (aI) (some (Sum.inl (aD.ID,aD.At.X,aD.At.Y,aA.1.X,aA.1.Y,aA.2.X,aA.2.Y))) (tC n aF aG aB aH aE m (IntKind.i64.wrap (aC + 1))))))) (some (Sum.inr ())))
theorem wJ (n : Nat) (aB : (List Gsegment)) (aE : Int) (aC : GPlan) (aD : (List (Int × GPoint))) (aA : Gsegment) : ∀ (m : Nat) (aF : Int) (r : ((Int × Int × Int × Int × Int × Int × Int) ⊕ Unit)),tC n aB aE aC aD aA m aF=some r→eT lv38 [false,false,true] true 0 4 (eG (eO (some lv41) true 0 4) (evC PP (evF PP T n) n 0 bHl) m (yQ aB aE aC aD aA aF))=(match r with | (.inl r)=>some (.ret,wL aB aE aC aD aA r.1 r.2.1 r.2.2.1 r.2.2.2.1 r.2.2.2.2.1 r.2.2.2.2.2.1 r.2.2.2.2.2.2) | (.inr r)=>some ((.exit 6),wK aB aE aC aD aA))
 | 0,_,_,h=>by cases h
 | m + 1,aF,r,h=>by
  rw [tC] at h
  rcases cn h with ⟨aO,aJ,h⟩ | ⟨aO,aJ,h⟩
  rotate_left
  ·obtain rfl:=si h
   exact eQ (some lv41) true (wK aB aE aC aD aA) (qa 70 aJ<|q0) [] [] (by exact (clo rfl (clo (lH (eI 4)) (clo (kA (kv:=dX) (va:=eB) fun _=>rfl) (clo rfl rfl)))))
  obtain ⟨aH,aP,h⟩:=dQ h
  have aL:=idxv (H:=(hp34 aC aB aD aA)) (c:=dP) aP (jQ _)
  obtain ⟨aG,aQ,h⟩:=dQ h
  have aM:=kY n aA _ aQ
  obtain ⟨aS,aN,h⟩:=dQ h
  rcases cn h with ⟨aK,aR,h⟩ | ⟨aK,aR,h⟩
  ·have aI:=aB4 n aB aE aC aF aD aA aH aG _ aN
   rw [aK] at aI
   obtain rfl:=si h
   exact eQ (some lv41) true (wL aB aE aC aD aA aH.ID aH.At.X aH.At.Y aG.1.X aG.1.Y aG.2.X aG.2.Y) (qp aI<|qa 75 aM<|qa 71 aL<|qa 70 aJ<|q0) [(.normal,gZ aB aE aC aF aD aA aH aG true)] [none,none,none] trivial
  have aI:=aB4 n aB aE aC aF aD aA aH aG _ aN
  rw [aK] at aI
  exact nx_q (yQ aB aE aC aD aA (IntKind.i64.wrap (aF + 1))) (qp aI<|qa 75 aM<|qa 71 aL<|qa 70 aJ<|q0) [(.normal,gZ aB aE aC aF aD aA aH aG false)] [none,none,none] (aI5 _ _ _ _ _ _) (wJ n aB aE aC aD aA m (IntKind.i64.wrap (aF + 1)) r h)
def pW (n : Nat) (aB : (List Gsegment)) (aF : GPlan) (aG : (List (Int × GPoint))) : Nat→Int→Option ((Gline × Int × Int × Int × Int × Int × Int × Int × Int) ⊕ ((Int × Int × Gline × Int × Gline × Int × Gline × Int × Gline × Int × Int × Int × Int × Int × Int × Int) ⊕ Unit))
 | 0,_=>none
 | m + 1,aD=>(cnd (decide (aD < ((aB.length : Nat) : Int))) (bnd (idx aB aD) fun aE=>(bnd (cut aB (IntKind.i64.wrap (aD + 1)) ((aB.length : Nat) : Int)) fun aH=>(bnd2 (lK n aB aD aH aF aG aE n 0) (fun aI=>(bnd2 (tC n aB aD aF aG aE n 0) (fun aC=>(some (Sum.inl (aE.line,aE.at_,aC.1,aC.2.1,aC.2.2.1,aC.2.2.2.1,aC.2.2.2.2.1,aC.2.2.2.2.2.1,aC.2.2.2.2.2.2)))) (fun aJ=>(pW n aB aF aG m (IntKind.i64.wrap (aD + 1)))))) (fun aA=>(some (Sum.inr (Sum.inl (aA.1,aA.2.1,aE.line,aE.at_,aA.2.2.1,aA.2.2.2.1,aA.2.2.2.2.1,aA.2.2.2.2.2.1,aA.2.2.2.2.2.2.1,aA.2.2.2.2.2.2.2.1,aA.2.2.2.2.2.2.2.2.1,aA.2.2.2.2.2.2.2.2.2.1,aA.2.2.2.2.2.2.2.2.2.2.1,aA.2.2.2.2.2.2.2.2.2.2.2.1,aA.2.2.2.2.2.2.2.2.2.2.2.2.1,aA.2.2.2.2.2.2.2.2.2.2.2.2.2)))))))) (some (Sum.inr (Sum.inr ()))))
theorem rG (n : Nat) (aC : (List Gsegment)) (aA : GPlan) (aD : (List (Int × GPoint))) : ∀ (m : Nat) (aF : Int) (r : ((Gline × Int × Int × Int × Int × Int × Int × Int × Int) ⊕ ((Int × Int × Gline × Int × Gline × Int × Gline × Int × Gline × Int × Int × Int × Int × Int × Int × Int) ⊕ Unit))),pW n aC aA aD m aF=some r→eT [] [false,false,true] true 0 3 (eG (eO (some lv38) true 0 3) (evC PP (evF PP T n) n 0 bHn) m (yR aC aA aD aF))=(match r with | (.inl r)=>some (.ret,wO aC aA aD r.1 r.2.1 r.2.2.1 r.2.2.2.1 r.2.2.2.2.1 r.2.2.2.2.2.1 r.2.2.2.2.2.2.1 r.2.2.2.2.2.2.2.1 r.2.2.2.2.2.2.2.2) | (.inr (.inl r))=>some (.ret,wN aC aA aD r.1 r.2.1 r.2.2.1 r.2.2.2.1 r.2.2.2.2.1 r.2.2.2.2.2.1 r.2.2.2.2.2.2.1 r.2.2.2.2.2.2.2.1 r.2.2.2.2.2.2.2.2.1 r.2.2.2.2.2.2.2.2.2.1 r.2.2.2.2.2.2.2.2.2.2.1 r.2.2.2.2.2.2.2.2.2.2.2.1 r.2.2.2.2.2.2.2.2.2.2.2.2.1 r.2.2.2.2.2.2.2.2.2.2.2.2.2.1 r.2.2.2.2.2.2.2.2.2.2.2.2.2.2.1 r.2.2.2.2.2.2.2.2.2.2.2.2.2.2.2) | (.inr (.inr r))=>some ((.exit 2),wM aC aA aD))
 | 0,_,_,h=>by cases h
 | m + 1,aF,r,h=>by
  rw [pW] at h
  rcases cn h with ⟨aT,aI,h⟩ | ⟨aT,aI,h⟩
  rotate_left
  ·obtain rfl:=si h
   exact eQ (some lv38) true (wM aC aA aD) (qa 42 aI<|q0) [] [] (by exact (clo rfl (clo (lH (eI 3)) (clo (kA (kv:=dX) (va:=eB) fun _=>rfl) rfl))))
  obtain ⟨aE,aU,h⟩:=dQ h
  have aK:=idxl (H:=(hp33 aA aC aD)) (f:=false) (c:=dV) aU (xN _)
  obtain ⟨aH,aV,h⟩:=dQ h
  have aL:=aUp (P:=PP) (cf:=evF PP T n) (y:=.undef) (z:=.undef) (fl:=0) (H:=(hp34 aA aC aD aE)) (s:=2) (c:=dV) aV xN
  have aM:=nP (P:=PP) (cf:=evF PP T n) (fl:=0) (H:=(hp34 aA aC aD aE)) (f:=false) (c:=dV) (l:=aH)
  have aN : eS true 0 4 [(.blk 3 [[(.vw (List.map dP aA.Nodes)),(.vw (List.map dR aA.Arcs)),(.vw (List.map dS aA.Faces))]]),(.blk 2 (List.map dV aC++[List.replicate 2 AV.undef])),(.mp (entL dX eB aD)),(.blk 2 [[(.sptr (eA aE.line)),(iv aE.at_)]])]:=(by exact (clo rfl (clo (lH (eI 4)) (clo (kA (kv:=dX) (va:=eB) fun _=>rfl) (clo rfl rfl)))))
  rcases gF h with ⟨aW,aO,h⟩ | ⟨aB,aO,h⟩
  rotate_left
  ·have aJ:=lR n aC aF aH aA aD aE n 0 _ aO
   obtain rfl:=si h
   exact eQ (some lv38) true (wN aC aA aD aB.1 aB.2.1 aE.line aE.at_ aB.2.2.1 aB.2.2.2.1 aB.2.2.2.2.1 aB.2.2.2.2.2.1 aB.2.2.2.2.2.2.1 aB.2.2.2.2.2.2.2.1 aB.2.2.2.2.2.2.2.2.1 aB.2.2.2.2.2.2.2.2.2.1 aB.2.2.2.2.2.2.2.2.2.2.1 aB.2.2.2.2.2.2.2.2.2.2.2.1 aB.2.2.2.2.2.2.2.2.2.2.2.2.1 aB.2.2.2.2.2.2.2.2.2.2.2.2.2) (qp aJ<|qp aN<|qb 50 aM<|qb 49 aL<|qa 44 aK<|qa 42 aI<|q0) [(.ret,lS aC aF aH aA aD aE aB.1 aB.2.1 aB.2.2.1 aB.2.2.2.1 aB.2.2.2.2.1 aB.2.2.2.2.2.1 aB.2.2.2.2.2.2.1 aB.2.2.2.2.2.2.2.1 aB.2.2.2.2.2.2.2.2.1 aB.2.2.2.2.2.2.2.2.2.1 aB.2.2.2.2.2.2.2.2.2.2.1 aB.2.2.2.2.2.2.2.2.2.2.2.1 aB.2.2.2.2.2.2.2.2.2.2.2.2.1 aB.2.2.2.2.2.2.2.2.2.2.2.2.2)] [none] trivial
  have aJ:=lR n aC aF aH aA aD aE n 0 _ aO
  have aR:=iM (P:=PP) (cf:=evF PP T n) (fl:=0) (H:=(hp34 aA aC aD aE)) (c:=dP) (l:=aA.Nodes)
  have aS : eS true 0 4 [(.blk 3 [[(.vw (List.map dP aA.Nodes)),(.vw (List.map dR aA.Arcs)),(.vw (List.map dS aA.Faces))]]),(.blk 2 (List.map dV aC++[List.replicate 2 AV.undef])),(.mp (entL dX eB aD)),(.blk 2 [[(.sptr (eA aE.line)),(iv aE.at_)]])]:=(by exact (clo rfl (clo (lH (eI 4)) (clo (kA (kv:=dX) (va:=eB) fun _=>rfl) (clo rfl rfl)))))
  rcases gF h with ⟨aG,aP,h⟩ | ⟨aX,aP,h⟩
  rotate_left
  ·have aQ:=wJ n aC aF aA aD aE n 0 _ aP
   exact nx_q (yR aC aA aD (IntKind.i64.wrap (aF + 1))) (qp aQ<|qp aS<|qb 68 aR<|qp aJ<|qp aN<|qb 50 aM<|qb 49 aL<|qa 44 aK<|qa 42 aI<|q0) [((.exit 4),oH aC aF aH aA aD aE),((.exit 6),wK aC aF aA aD aE)] [none] (aI6 _ _ _ _) (rG n aC aA aD m (IntKind.i64.wrap (aF + 1)) r h)
  have aQ:=wJ n aC aF aA aD aE n 0 _ aP
  obtain rfl:=si h
  exact eQ (some lv38) true (wO aC aA aD aE.line aE.at_ aG.1 aG.2.1 aG.2.2.1 aG.2.2.2.1 aG.2.2.2.2.1 aG.2.2.2.2.2.1 aG.2.2.2.2.2.2) (qp aQ<|qp aS<|qb 68 aR<|qp aJ<|qp aN<|qb 50 aM<|qb 49 aL<|qa 44 aK<|qa 42 aI<|q0) [((.exit 4),oH aC aF aH aA aD aE),(.ret,wL aC aF aA aD aE aG.1 aG.2.1 aG.2.2.1 aG.2.2.2.1 aG.2.2.2.2.1 aG.2.2.2.2.2.1 aG.2.2.2.2.2.2)] [none] trivial
def aCk : Nat→GPlan→Option Bool
 | 0,_=>none
 | n + 1,aB=>(bnd (zO n aB) fun aA=>(cnd (aA.2) (bnd (tD n aA aB n ([] : List (Int × GPoint)) 0) fun aC=>(bnd (prd n) fun aD=>(bnd (grd (decide (List.length aA.1 ≤ 1000000))) fun aG=>(bnd (aLx (fun x y=>pV aD x y) aA.1) fun aE=>(bnd2 (pW n aE aB aC n 0) (fun aH=>(some false)) (fun aF=>(bnd2 (some aF) (fun aI=>(some false)) (fun aJ=>(some true))))))))) (some false)))
theorem aFe (n : Nat) (aA : GPlan) (r : Bool) (h : aCk n aA=some r) : pv PP T n 51 [(kU aA)]=some (bv r):=by
 cases n with
 | zero=>cases h
 | succ n =>
  rw [aCk] at h
  obtain ⟨aB,aS,h⟩:=dQ h
  rcases cn h with ⟨aI,aV,h⟩ | ⟨aI,aV,h⟩
  rotate_left
  ·have aW : aKv 2 (hp0 aA) (evF PP T n 0 70 ([(.agg [(.vw (List.map dP aA.Nodes)),(.vw (List.map dR aA.Arcs)),(.vw (List.map dS aA.Faces))])].map (nO (hp0 aA))) [])=some ((.tup [(.ms 1 aB.1.length 0 aB.1.length),bf]),(hp26 aA aB)):=aXi (l:=aB.1) (c:=dV) rfl (by have q:=aB3 n aA _ aS; rw [aI] at q; exact q)
   obtain rfl:=si h
   exact pv_q F51 (qc 18 aW<|q0) [] []
  have aJ : aKv 2 (hp0 aA) (evF PP T n 0 70 ([(.agg [(.vw (List.map dP aA.Nodes)),(.vw (List.map dR aA.Arcs)),(.vw (List.map dS aA.Faces))])].map (nO (hp0 aA))) [])=some ((.tup [(.ms 1 aB.1.length 0 aB.1.length),bt]),(hp26 aA aB)):=aXi (l:=aB.1) (c:=dV) rfl (by have q:=aB3 n aA _ aS; rw [aI] at q; exact q)
  have aK:=iM (P:=PP) (cf:=evF PP T n) (fl:=0) (H:=(hp27 aA aB)) (c:=dP) (l:=aA.Nodes)
  have aL : eS true 0 3 [(.blk 3 [[(.vw (List.map dP aA.Nodes)),(.vw (List.map dR aA.Arcs)),(.vw (List.map dS aA.Faces))]]),(.blk 2 (List.map dV aB.1)),(.mp (entL dX eB ([] : List (Int × GPoint))))]:=(by exact (clo rfl (clo (hU (eI 3)) (clo (kA (kv:=dX) (va:=eB) fun _=>rfl) rfl))))
  obtain ⟨aD,aX,h⟩:=dQ h
  have aM:=aB5 n aB aA n ([] : List (Int × GPoint)) 0 _ aX
  obtain ⟨aT,aY,h⟩:=dQ h
  have aZ:=pQ aY
  obtain ⟨ac,aa,h⟩:=dQ h
  obtain ⟨aE,aU,h⟩:=dQ h
  have ab:=aJ4 aU
  have aN : evF PP T n 0 71 [(.ms 1 aB.1.length 0 aB.1.length),(.fn 72 [])] (hp28 aA aB aD)=some ((.tup []),(hp32 aA aE aD)):=by rw [aZ]; exact aQ2 (s:=2) (agg:=true) (c:=dV) (l:=aB.1) (F:=fun x y=>pV aT x y) rfl (by omega) rfl (of_decide_eq_true (aEw aa)) (fun x y z hz=>bB8 rfl (aHr aT x y z hz)) aU
  have aO:=aX2 (tot:=aB.1.length) ab (P:=PP) (cf:=evF PP T n) (fl:=0) (H:=(hp32 aA aE aD)) (id:=1) (s:=2) (c:=dV) (l:=aE) rfl (by omega) aL9
  have aP:=nP (P:=PP) (cf:=evF PP T n) (fl:=0) (H:=(hp33 aA aE aD)) (f:=false) (c:=dV) (l:=aE)
  have aQ : eS true 0 3 [(.blk 3 [[(.vw (List.map dP aA.Nodes)),(.vw (List.map dR aA.Arcs)),(.vw (List.map dS aA.Faces))]]),(.blk 2 (List.map dV aE++[List.replicate 2 AV.undef])),(.mp (entL dX eB aD))]:=(by exact (clo rfl (clo (lH (eI 3)) (clo (kA (kv:=dX) (va:=eB) fun _=>rfl) rfl))))
  rcases gF h with ⟨aF,aH,h⟩ | ⟨ad,aH,h⟩
  ·have aG:=rG n aE aA aD n 0 _ aH
   obtain rfl:=si h
   exact pv_q F51 (qp aG<|qp aQ<|qb 40 aP<|qc 100003 aO<|qc 38 aN<|qp aM<|qp aL<|qb 26 aK<|qc 18 aJ<|q0) [((.exit 0),oI aB aA aD),(.ret,wO aE aA aD aF.1 aF.2.1 aF.2.2.1 aF.2.2.2.1 aF.2.2.2.2.1 aF.2.2.2.2.2.1 aF.2.2.2.2.2.2.1 aF.2.2.2.2.2.2.2.1 aF.2.2.2.2.2.2.2.2)] []
  rcases gF h with ⟨aC,aR,h⟩ | ⟨ae,aR,h⟩
  rotate_left
  ·cases aR
   have aG:=rG n aE aA aD n 0 _ aH
   obtain rfl:=si h
   exact pv_q F51 (qp aG<|qp aQ<|qb 40 aP<|qc 100003 aO<|qc 38 aN<|qp aM<|qp aL<|qb 26 aK<|qc 18 aJ<|q0) [((.exit 0),oI aB aA aD),((.exit 2),wM aE aA aD)] []
  cases aR
  have aG:=rG n aE aA aD n 0 _ aH
  obtain rfl:=si h
  exact pv_q F51 (qp aG<|qp aQ<|qb 40 aP<|qc 100003 aO<|qc 38 aN<|qp aM<|qp aL<|qb 26 aK<|qc 18 aJ<|q0) [((.exit 0),oI aB aA aD),(.ret,wN aE aA aD aC.1 aC.2.1 aC.2.2.1 aC.2.2.2.1 aC.2.2.2.2.1 aC.2.2.2.2.2.1 aC.2.2.2.2.2.2.1 aC.2.2.2.2.2.2.2.1 aC.2.2.2.2.2.2.2.2.1 aC.2.2.2.2.2.2.2.2.2.1 aC.2.2.2.2.2.2.2.2.2.2.1 aC.2.2.2.2.2.2.2.2.2.2.2.1 aC.2.2.2.2.2.2.2.2.2.2.2.2.1 aC.2.2.2.2.2.2.2.2.2.2.2.2.2.1 aC.2.2.2.2.2.2.2.2.2.2.2.2.2.2.1 aC.2.2.2.2.2.2.2.2.2.2.2.2.2.2.2)] []
def aKj (aA : GPlan) : St:=⟨sp 82 [(1,(.ptr 0 1 0 0))],[(.blk 3 [[(.vw (List.map dP aA.Nodes)),(.vw (List.map dR aA.Arcs)),(.vw (List.map dS aA.Faces))]])]⟩
def gX (aA : GPlan) (aB : Bool) : St:=⟨sp 82 [(1,(.ptr 0 1 0 0)),(22,(bv aB))],[(.blk 3 [[(.vw (List.map dP aA.Nodes)),(.vw (List.map dR aA.Arcs)),(.vw (List.map dS aA.Faces))]])]⟩
def zP (n : Nat) (aA : GPlan) : Option Bool:=(cnd (decide (((aA.Nodes.length : Nat) : Int) > 256)) (some true) (cnd (decide (((aA.Arcs.length : Nat) : Int) > 256)) (some true) (cnd (decide (((aA.Faces.length : Nat) : Int) > 64)) (some true) (some false))))
theorem aDb (n : Nat) (aA : GPlan) (r : Bool) (h : zP n aA=some r) : eT lv43 [false,false,true] false 0 1 (evC PP (evF PP T n) n 0 bIb (aKj aA))=some (.normal,gX aA r):=by
 unfold zP at h
 have aC:=iM (P:=PP) (cf:=evF PP T n) (fl:=0) (H:=(hp0 aA)) (c:=dP) (l:=aA.Nodes)
 rcases cn h with ⟨aH,aB,h⟩ | ⟨aH,aB,h⟩
 ·obtain rfl:=si h
  exact dY (gX aA true) (qa 10 aB<|qb 9 aC<|q0) [] []
 have aE:=iM (P:=PP) (cf:=evF PP T n) (fl:=0) (H:=(hp0 aA)) (c:=dR) (l:=aA.Arcs)
 rcases cn h with ⟨aI,aD,h⟩ | ⟨aI,aD,h⟩
 ·obtain rfl:=si h
  exact dY (gX aA true) (qa 15 aD<|qb 14 aE<|qa 10 aB<|qb 9 aC<|q0) [] []
 have aG:=iM (P:=PP) (cf:=evF PP T n) (fl:=0) (H:=(hp0 aA)) (c:=dS) (l:=aA.Faces)
 rcases cn h with ⟨aJ,aF,h⟩ | ⟨aJ,aF,h⟩
 ·obtain rfl:=si h
  exact dY (gX aA true) (qa 21 aF<|qb 20 aG<|qa 15 aD<|qb 14 aE<|qa 10 aB<|qb 9 aC<|q0) [] []
 obtain rfl:=si h
 exact dY (gX aA false) (qa 21 aF<|qb 20 aG<|qa 15 aD<|qb 14 aE<|qa 10 aB<|qb 9 aC<|q0) [] []
def aAj (aA : GPlan) (aB : Int) : St:=⟨sp 82 [(1,(.ptr 0 1 0 0)),(24,(.vw (List.map dR aA.Arcs))),(25,(iv ((aA.Arcs.length : Nat) : Int))),(26,(iv aB))],[(.blk 3 [[(.vw (List.map dP aA.Nodes)),(.vw (List.map dR aA.Arcs)),(.vw (List.map dS aA.Faces))]])]⟩
theorem aKk (aA : GPlan) (aB : Int) : eS true 0 1 (aAj aA aB).heap:=(by exact (clo rfl rfl))
def yV (aA : GPlan) (aB : Int) (aC : Int) (aD : Int) (aE : (List GPoint)) (aF : Int) (aG : Int) : St:=⟨sp 82 [(2,(iv 3))],[(.blk 3 [[(.vw (List.map dP aA.Nodes)),(.vw (List.map dR aA.Arcs)),(.vw (List.map dS aA.Faces))]]),(.blk 6 [[(iv aB),(iv aC),(iv aD),(.sl false (List.map dW aE)),(iv aF),(iv aG)]])]⟩
def kW (aA : GPlan) : St:=⟨sp 82 [(1,(.ptr 0 1 0 0))],[(.blk 3 [[(.vw (List.map dP aA.Nodes)),(.vw (List.map dR aA.Arcs)),(.vw (List.map dS aA.Faces))]])]⟩
def vS (n : Nat) (aB : GPlan) : Nat→Int→Option ((Int × Int × Int × (List GPoint) × Int × Int) ⊕ Unit)
 | 0,_=>none
 | m + 1,aC=>(cnd (decide (aC < ((aB.Arcs.length : Nat) : Int))) (bnd (idx aB.Arcs aC) fun aA=>(cnd (decide (((aA.Via.length : Nat) : Int) > 64)) (some (Sum.inl (aA.ID,aA.From,aA.To,aA.Via,aA.Left,aA.Right))) (vS n aB m (IntKind.i64.wrap (aC + 1))))) (some (Sum.inr ())))
theorem yU (n : Nat) (aA : GPlan) : ∀ (m : Nat) (aC : Int) (r : ((Int × Int × Int × (List GPoint) × Int × Int) ⊕ Unit)),vS n aA m aC=some r→eT [false,true] [false,false,true] true 0 1 (eG (eO (some lv44) true 0 1) (evC PP (evF PP T n) n 0 bIa) m (aAj aA aC))=(match r with | (.inl r)=>some (.ret,yV aA r.1 r.2.1 r.2.2.1 r.2.2.2.1 r.2.2.2.2.1 r.2.2.2.2.2) | (.inr r)=>some ((.exit 0),kW aA))
 | 0,_,_,h=>by cases h
 | m + 1,aC,r,h=>by
  rw [vS] at h
  rcases cn h with ⟨aH,aD,h⟩ | ⟨aH,aD,h⟩
  rotate_left
  ·obtain rfl:=si h
   exact eQ (some lv44) true (kW aA) (qa 27 aD<|q0) [] [] (by exact (clo rfl rfl))
  obtain ⟨aB,aI,h⟩:=dQ h
  have aF:=idxv (H:=(hp0 aA)) (c:=dR) aI (lY _)
  have aG:=nP (P:=PP) (cf:=evF PP T n) (fl:=0) (H:=(hp8 aA aB)) (f:=false) (c:=dW) (l:=aB.Via)
  rcases cn h with ⟨aJ,aE,h⟩ | ⟨aJ,aE,h⟩
  ·obtain rfl:=si h
   exact eQ (some lv44) true (yV aA aB.ID aB.From aB.To aB.Via aB.Left aB.Right) (qa 33 aE<|qb 32 aG<|qa 28 aF<|qa 27 aD<|q0) [] [none] trivial
  exact nx_q (aAj aA (IntKind.i64.wrap (aC + 1))) (qa 33 aE<|qb 32 aG<|qa 28 aF<|qa 27 aD<|q0) [] [none] (aKk _ _) (yU n aA m (IntKind.i64.wrap (aC + 1)) r h)
def aKi (aB : ((List Int) × (List Int))) (aA : GPlan) : St:=⟨sp 82 [(1,(.ptr 0 1 0 0)),(5,(.sl false (List.map dS aB.1))),(6,(.sl false (List.map dS aB.2)))],[(.blk 3 [[(.vw (List.map dP aA.Nodes)),(.vw (List.map dR aA.Arcs)),(.vw (List.map dS aA.Faces))]])]⟩
def iS (aB : ((List Int) × (List Int))) (aA : GPlan) (aC : Bool) : St:=⟨sp 82 [(1,(.ptr 0 1 0 0)),(5,(.sl false (List.map dS aB.1))),(6,(.sl false (List.map dS aB.2))),(53,(bv aC))],[(.blk 3 [[(.vw (List.map dP aA.Nodes)),(.vw (List.map dR aA.Arcs)),(.vw (List.map dS aA.Faces))]])]⟩
def aCn (n : Nat) (aA : ((List Int) × (List Int))) (aB : GPlan) : Option Bool:=(bnd (pX n aA.1) fun aC=>(cnd (aC) (bnd (pX n aA.2) fun aD=>(cnd (aD) (bnd (pX n aB.Faces) fun aE=>(cnd (aE) (some false) (some true))) (some true))) (some true)))
theorem aDa (n : Nat) (aA : ((List Int) × (List Int))) (aB : GPlan) (r : Bool) (h : aCn n aA aB=some r) : eT lv45 [false,false,true] false 0 1 (evC PP (evF PP T n) n 0 bH9 (aKi aA aB))=some (.normal,iS aA aB r):=by
 unfold aCn at h
 obtain ⟨aR,aG,h⟩:=dQ h
 rcases cn h with ⟨aC,aK,h⟩ | ⟨aC,aK,h⟩
 rotate_left
 ·have aL:=by have q:=lT n aA.1 _ aG; rw [aC] at q; exact q
  obtain rfl:=si h
  exact dY (iS aA aB true) (qa 41 aL<|q0) [] []
 have aD:=by have q:=lT n aA.1 _ aG; rw [aC] at q; exact q
 obtain ⟨aS,aH,h⟩:=dQ h
 rcases cn h with ⟨aE,aM,h⟩ | ⟨aE,aM,h⟩
 rotate_left
 ·have aN:=by have q:=lT n aA.2 _ aH; rw [aE] at q; exact q
  obtain rfl:=si h
  exact dY (iS aA aB true) (qa 45 aN<|qa 41 aD<|q0) [] []
 have aI:=by have q:=lT n aA.2 _ aH; rw [aE] at q; exact q
 obtain ⟨aT,aJ,h⟩:=dQ h
 rcases cn h with ⟨aF,aO,h⟩ | ⟨aF,aO,h⟩
 rotate_left
 ·have aP:=by have q:=lT n aB.Faces _ aJ; rw [aF] at q; exact q
  obtain rfl:=si h
  exact dY (iS aA aB true) (qa 51 aP<|qa 45 aI<|qa 41 aD<|q0) [] []
 have aQ:=by have q:=lT n aB.Faces _ aJ; rw [aF] at q; exact q
 obtain rfl:=si h
 exact dY (iS aA aB false) (qa 51 aQ<|qa 45 aI<|qa 41 aD<|q0) [] []
def aKh (aB : ((List Int) × (List Int))) (aA : GPlan) : St:=⟨sp 82 [(1,(.ptr 0 1 0 0)),(5,(.sl false (List.map dS aB.1))),(6,(.sl false (List.map dS aB.2)))],[(.blk 3 [[(.vw (List.map dP aA.Nodes)),(.vw (List.map dR aA.Arcs)),(.vw (List.map dS aA.Faces))]])]⟩
def iR (aB : ((List Int) × (List Int))) (aA : GPlan) (aC : Bool) : St:=⟨sp 82 [(1,(.ptr 0 1 0 0)),(5,(.sl false (List.map dS aB.1))),(72,(bv aC))],[(.blk 3 [[(.vw (List.map dP aA.Nodes)),(.vw (List.map dR aA.Arcs)),(.vw (List.map dS aA.Faces))]])]⟩
def aCm (n : Nat) (aA : ((List Int) × (List Int))) (aB : GPlan) : Option Bool:=(bnd (rJ n aA.1) fun aC=>(cnd (aC) (bnd (rJ n aA.2) fun aD=>(cnd (aD) (bnd (rJ n aB.Faces) fun aE=>(cnd (aE) (bnd (aCl n aB) fun aF=>(cnd (aF) (some false) (some true))) (some true))) (some true))) (some true)))
theorem aC9 (n : Nat) (aA : ((List Int) × (List Int))) (aB : GPlan) (r : Bool) (h : aCm n aA aB=some r) : eT lv46 [false,false,true] false 0 1 (evC PP (evF PP T n) n 0 bH8 (aKh aA aB))=some (.normal,iR aA aB r):=by
 unfold aCm at h
 obtain ⟨aW,aI,h⟩:=dQ h
 rcases cn h with ⟨aD,aN,h⟩ | ⟨aD,aN,h⟩
 rotate_left
 ·have aO:=by have q:=mQ n aA.1 _ aI; rw [aD] at q; exact q
  obtain rfl:=si h
  exact dY (iR aA aB true) (qa 55 aO<|q0) [] []
 have aC:=by have q:=mQ n aA.1 _ aI; rw [aD] at q; exact q
 obtain ⟨aX,aJ,h⟩:=dQ h
 rcases cn h with ⟨aE,aP,h⟩ | ⟨aE,aP,h⟩
 rotate_left
 ·have aQ:=by have q:=mQ n aA.2 _ aJ; rw [aE] at q; exact q
  obtain rfl:=si h
  exact dY (iR aA aB true) (qa 59 aQ<|qa 55 aC<|q0) [] []
 have aF:=by have q:=mQ n aA.2 _ aJ; rw [aE] at q; exact q
 obtain ⟨aY,aK,h⟩:=dQ h
 rcases cn h with ⟨aG,aR,h⟩ | ⟨aG,aR,h⟩
 rotate_left
 ·have aS:=by have q:=mQ n aB.Faces _ aK; rw [aG] at q; exact q
  obtain rfl:=si h
  exact dY (iR aA aB true) (qa 65 aS<|qa 59 aF<|qa 55 aC<|q0) [] []
 have aL:=by have q:=mQ n aB.Faces _ aK; rw [aG] at q; exact q
 obtain ⟨aZ,aM,h⟩:=dQ h
 rcases cn h with ⟨aH,aT,h⟩ | ⟨aH,aT,h⟩
 rotate_left
 ·have aU:=by have q:=aFf n aB _ aM; rw [aH] at q; exact q
  obtain rfl:=si h
  exact dY (iR aA aB true) (qa 70 aU<|qa 65 aL<|qa 59 aF<|qa 55 aC<|q0) [] []
 have aV:=by have q:=aFf n aB _ aM; rw [aH] at q; exact q
 obtain rfl:=si h
 exact dY (iR aA aB false) (qa 70 aV<|qa 65 aL<|qa 59 aF<|qa 55 aC<|q0) [] []
def aEt : Nat→GPlan→Option Int
 | 0,_=>none
 | n + 1,aA=>(bnd (zP n aA) fun aD=>(cnd (aD) (some 3) (bnd2 (vS n aA n 0) (fun aH=>(some 3)) (fun aI=>(bnd (tY n aA) fun aB=>(bnd (aCn n aB aA) fun aE=>(cnd (aE) (some 10) (bnd (aCm n aB aA) fun aF=>(cnd (aF) (some 2) (bnd (xM n aA aB.1) fun aC=>(cnd (aC != 0) (some aC) (bnd (aCk n aA) fun aG=>(cnd (aG) (some 0) (some 11))))))))))))))
theorem aNj (n : Nat) (aA : GPlan) (r : Int) (h : aEt n aA=some r) : pv PP T n 32 [(kU aA)]=some (iv r):=by
 cases n with
 | zero=>cases h
 | succ n =>
  rw [aEt] at h
  obtain ⟨ae,aR,h⟩:=dQ h
  rcases cn h with ⟨aL,aV,h⟩ | ⟨aL,aV,h⟩
  ·have aC:=aDb n aA _ aR
   rw [aL] at aC
   obtain rfl:=si h
   exact pv_q F32 (qp aC<|q0) [(.normal,gX aA true)] []
  have aC:=aDb n aA _ aR
  rw [aL] at aC
  have aG:=iM (P:=PP) (cf:=evF PP T n) (fl:=0) (H:=(hp0 aA)) (c:=dR) (l:=aA.Arcs)
  have aH : eS true 0 1 [(.blk 3 [[(.vw (List.map dP aA.Nodes)),(.vw (List.map dR aA.Arcs)),(.vw (List.map dS aA.Faces))]])]:=(by exact (clo rfl rfl))
  rcases gF h with ⟨aI,aM,h⟩ | ⟨af,aM,h⟩
  ·have aE:=yU n aA n 0 _ aM
   obtain rfl:=si h
   exact pv_q F32 (qp aE<|qp aH<|qb 25 aG<|qp aC<|q0) [(.normal,gX aA false),(.ret,yV aA aI.1 aI.2.1 aI.2.2.1 aI.2.2.2.1 aI.2.2.2.2.1 aI.2.2.2.2.2)] []
  have aE:=yU n aA n 0 _ aM
  obtain ⟨aB,aW,h⟩:=dQ h
  have aJ:=aFw n aA _ aW
  obtain ⟨ag,aS,h⟩:=dQ h
  rcases cn h with ⟨aN,aX,h⟩ | ⟨aN,aX,h⟩
  ·have aD:=aDa n aB aA _ aS
   rw [aN] at aD
   obtain rfl:=si h
   exact pv_q F32 (qp aD<|qa 37 aJ<|qp aE<|qp aH<|qb 25 aG<|qp aC<|q0) [(.normal,gX aA false),((.exit 0),kW aA),(.normal,iS aB aA true)] []
  have aD:=aDa n aB aA _ aS
  rw [aN] at aD
  obtain ⟨ah,aT,h⟩:=dQ h
  rcases cn h with ⟨aO,aY,h⟩ | ⟨aO,aY,h⟩
  ·have aF:=aC9 n aB aA _ aT
   rw [aO] at aF
   obtain rfl:=si h
   exact pv_q F32 (qp aF<|qp aD<|qa 37 aJ<|qp aE<|qp aH<|qb 25 aG<|qp aC<|q0) [(.normal,gX aA false),((.exit 0),kW aA),(.normal,iS aB aA false),(.normal,iR aB aA true)] []
  have aF:=aC9 n aB aA _ aT
  rw [aO] at aF
  obtain ⟨ai,aZ,h⟩:=dQ h
  have aP:=aHs n aA aB.1 _ aZ
  rcases cn h with ⟨aa,aK,h⟩ | ⟨aa,aK,h⟩
  ·obtain rfl:=si h
   exact pv_q F32 (qa 77 aK<|qa 75 aP<|qp aF<|qp aD<|qa 37 aJ<|qp aE<|qp aH<|qb 25 aG<|qp aC<|q0) [(.normal,gX aA false),((.exit 0),kW aA),(.normal,iS aB aA false),(.normal,iR aB aA false)] []
  obtain ⟨aj,aU,h⟩:=dQ h
  rcases cn h with ⟨aQ,ab,h⟩ | ⟨aQ,ab,h⟩
  ·have ac:=by have q:=aFe n aA _ aU; rw [aQ] at q; exact q
   obtain rfl:=si h
   exact pv_q F32 (qa 80 ac<|qa 77 aK<|qa 75 aP<|qp aF<|qp aD<|qa 37 aJ<|qp aE<|qp aH<|qb 25 aG<|qp aC<|q0) [(.normal,gX aA false),((.exit 0),kW aA),(.normal,iS aB aA false),(.normal,iR aB aA false)] []
  have ad:=by have q:=aFe n aA _ aU; rw [aQ] at q; exact q
  obtain rfl:=si h
  exact pv_q F32 (qa 80 ad<|qa 77 aK<|qa 75 aP<|qp aF<|qp aD<|qa 37 aJ<|qp aE<|qp aH<|qb 25 aG<|qp aC<|q0) [(.normal,gX aA false),((.exit 0),kW aA),(.normal,iS aB aA false),(.normal,iR aB aA false)] []
def aK8 (aA : GPoint) (aB : GPoint) : St:=⟨sp 24 [(2,(.ptr 0 1 0 0)),(3,(.ptr 1 1 0 0))],[(.blk 2 [[(iv aA.X),(iv aA.Y)]]),(.blk 2 [[(iv aB.X),(iv aB.Y)]])]⟩
def kX (aA : GPoint) (aB : GPoint) (aC : Bool) : St:=⟨sp 24 [(4,(bv aC))],[(.blk 2 [[(iv aA.X),(iv aA.Y)]]),(.blk 2 [[(iv aB.X),(iv aB.Y)]])]⟩
def zS (n : Nat) (aA : GPoint) (aB : GPoint) : Option Bool:=(cnd (decide (aB.Y < aA.Y)) (some true) (cnd (aB.Y == aA.Y) (cnd (decide (aB.X < aA.X)) (some true) (some false)) (some false)))
theorem aDc (n : Nat) (aA : GPoint) (aB : GPoint) (r : Bool) (h : zS n aA aB=some r) : eT lv4 lv4 false 0 2 (evC PP (evF PP T n) n 0 bGx (aK8 aA aB))=some (.normal,kX aA aB r):=by
 unfold zS at h
 rcases cn h with ⟨aF,aC,h⟩ | ⟨aF,aC,h⟩
 ·obtain rfl:=si h
  exact dY (kX aA aB true) (qa 9 aC<|q0) [] []
 rcases cn h with ⟨aG,aD,h⟩ | ⟨aG,aD,h⟩
 rotate_left
 ·obtain rfl:=si h
  exact dY (kX aA aB false) (qa 15 aD<|qa 9 aC<|q0) [] []
 rcases cn h with ⟨aH,aE,h⟩ | ⟨aH,aE,h⟩
 ·obtain rfl:=si h
  exact dY (kX aA aB true) (qa 21 aE<|qa 15 aD<|qa 9 aC<|q0) [] []
 obtain rfl:=si h
 exact dY (kX aA aB false) (qa 21 aE<|qa 15 aD<|qa 9 aC<|q0) [] []
def uY : Nat→GPoint→GPoint→Option Bool
 | 0,_,_=>none
 | n + 1,aA,aB=>(bnd (zS n aA aB) fun aC=>(cnd (aC) (some true) (some false)))
theorem kK (n : Nat) (aA : GPoint) (aB : GPoint) (r : Bool) (h : uY n aA aB=some r) : pv PP T n 92 [(.agg (dW aA)),(.agg (dW aB))]=some (bv r):=by
 cases n with
 | zero=>cases h
 | succ n =>
  rw [uY] at h
  obtain ⟨aG,aE,h⟩:=dQ h
  rcases cn h with ⟨aD,aF,h⟩ | ⟨aD,aF,h⟩
  ·have aC:=aDc n aA aB _ aE
   rw [aD] at aC
   obtain rfl:=si h
   exact pv_q F92 (qp aC<|q0) [(.normal,kX aA aB true)] []
  have aC:=aDc n aA aB _ aE
  rw [aD] at aC
  obtain rfl:=si h
  exact pv_q F92 (qp aC<|q0) [(.normal,kX aA aB false)] []
def aL7 (aA : GPoint) (aB : GPoint) (aC : GPoint) : St:=⟨sp 38 [(3,(.ptr 0 1 0 0)),(4,(.ptr 1 1 0 0)),(5,(.ptr 2 1 0 0))],[(.blk 2 [[(iv aA.X),(iv aA.Y)]]),(.blk 2 [[(iv aB.X),(iv aB.Y)]]),(.blk 2 [[(iv aC.X),(iv aC.Y)]])]⟩
def gQ (aA : GPoint) (aB : GPoint) (aC : GPoint) (aD : Bool) : St:=⟨sp 38 [(3,(.ptr 0 1 0 0)),(4,(.ptr 1 1 0 0)),(5,(.ptr 2 1 0 0)),(22,(bv aD))],[(.blk 2 [[(iv aA.X),(iv aA.Y)]]),(.blk 2 [[(iv aB.X),(iv aB.Y)]]),(.blk 2 [[(iv aC.X),(iv aC.Y)]])]⟩
def aA5 (n : Nat) (aA : GPoint) (aB : GPoint) (aC : GPoint) : Option Bool:=(bnd (yI n [aA,aB,aC]) fun aD=>(cnd (aD) (cnd (decide (aB=aA)) (some true) (cnd (decide (aC=aA)) (some true) (some false))) (some true)))
theorem aD9 (n : Nat) (aA : GPoint) (aB : GPoint) (aC : GPoint) (r : Bool) (h : aA5 n aA aB aC=some r) : eT lv47 lv18 false 0 3 (evC PP (evF PP T n) n 0 bG7 (aL7 aA aB aC))=some (.normal,gQ aA aB aC r):=by
 unfold aA5 at h
 obtain ⟨aQ,aH,h⟩:=dQ h
 rcases cn h with ⟨aD,aJ,h⟩ | ⟨aD,aJ,h⟩
 rotate_left
 ·have aK:=by have q:=oW n [aA,aB,aC] _ aH; rw [aD] at q; exact q
  obtain rfl:=si h
  exact dY (gQ aA aB aC true) (qa 11 aK<|q0) [] []
 have aE:=by have q:=oW n [aA,aB,aC] _ aH; rw [aD] at q; exact q
 rcases cn h with ⟨aF,aL,h⟩ | ⟨aF,aL,h⟩
 ·have aM:=jC (cf:=evF PP T n) (fl:=0) (H:=(hp21 aA aB aC)) (a:=aB) (b:=aA) aF
  obtain rfl:=si h
  exact dY (gQ aA aB aC true) (qb 16 aM<|qa 11 aE<|q0) [] []
 have aI:=jC (cf:=evF PP T n) (fl:=0) (H:=(hp21 aA aB aC)) (a:=aB) (b:=aA) aF
 rcases cn h with ⟨aG,aN,h⟩ | ⟨aG,aN,h⟩
 ·have aO:=jC (cf:=evF PP T n) (fl:=0) (H:=(hp21 aA aB aC)) (a:=aC) (b:=aA) aG
  obtain rfl:=si h
  exact dY (gQ aA aB aC true) (qb 21 aO<|qb 16 aI<|qa 11 aE<|q0) [] []
 have aP:=jC (cf:=evF PP T n) (fl:=0) (H:=(hp21 aA aB aC)) (a:=aC) (b:=aA) aG
 obtain rfl:=si h
 exact dY (gQ aA aB aC false) (qb 21 aP<|qb 16 aI<|qa 11 aE<|q0) [] []
def aEa : Nat→GPoint→GPoint→GPoint→Option Bool
 | 0,_,_,_=>none
 | n + 1,aA,aC,aB=>(bnd (aA5 n aA aC aB) fun aD=>(cnd (aD) (some false) (bnd (uY n aA aC) fun aE=>(cnd (aE) (bnd (uY n aA aB) fun aF=>(cnd (aF) (bnd (uX n aA aC aB) fun aG=>(cnd (decide (aG > 0)) (some true) (some false))) (bnd (uY n aA aB) fun aH=>(cnd (aH) (some true) (some false))))) (bnd (uY n aA aB) fun aI=>(cnd (aI) (bnd (uY n aA aB) fun aJ=>(cnd (aJ) (some true) (some false))) (bnd (uX n aA aC aB) fun aK=>(cnd (decide (aK > 0)) (some true) (some false)))))))))
theorem aA4 (n : Nat) (aA : GPoint) (aC : GPoint) (aB : GPoint) (r : Bool) (h : aEa n aA aC aB=some r) : pv PP T n 80 [(.agg (dW aA)),(.agg (dW aC)),(.agg (dW aB))]=some (bv r):=by
 cases n with
 | zero=>cases h
 | succ n =>
  rw [aEa] at h
  obtain ⟨ao,aO,h⟩:=dQ h
  rcases cn h with ⟨aG,aa,h⟩ | ⟨aG,aa,h⟩
  ·have aD:=aD9 n aA aC aB _ aO
   rw [aG] at aD
   obtain rfl:=si h
   exact pv_q F80 (qp aD<|q0) [(.normal,gQ aA aC aB true)] []
  have aD:=aD9 n aA aC aB _ aO
  rw [aG] at aD
  obtain ⟨ap,aP,h⟩:=dQ h
  rcases cn h with ⟨aH,ab,h⟩ | ⟨aH,ab,h⟩
  ·have aE:=by have q:=kK n aA aC _ aP; rw [aH] at q; exact q
   obtain ⟨aq,aQ,h⟩:=dQ h
   rcases cn h with ⟨aI,ac,h⟩ | ⟨aI,ac,h⟩
   ·have aR:=by have q:=kK n aA aB _ aQ; rw [aI] at q; exact q
    obtain ⟨ar,ad,h⟩:=dQ h
    have aS:=zR n aA aC aB _ ad
    rcases cn h with ⟨ae,aJ,h⟩ | ⟨ae,aJ,h⟩
    ·obtain rfl:=si h
     exact pv_q F80 (qa 37 aJ<|qa 36 aS<|qa 28 aR<|qa 25 aE<|qp aD<|q0) [(.normal,gQ aA aC aB false)] []
    obtain rfl:=si h
    exact pv_q F80 (qa 37 aJ<|qa 36 aS<|qa 28 aR<|qa 25 aE<|qp aD<|q0) [(.normal,gQ aA aC aB false)] []
   have aT:=by have q:=kK n aA aB _ aQ; rw [aI] at q; exact q
   obtain ⟨au,aU,h⟩:=dQ h
   rcases cn h with ⟨aK,af,h⟩ | ⟨aK,af,h⟩
   ·have ag:=by have q:=kK n aA aB _ aU; rw [aK] at q; exact q
    obtain rfl:=si h
    exact pv_q F80 (qa 32 ag<|qa 28 aT<|qa 25 aE<|qp aD<|q0) [(.normal,gQ aA aC aB false)] []
   have ah:=by have q:=kK n aA aB _ aU; rw [aK] at q; exact q
   obtain rfl:=si h
   exact pv_q F80 (qa 32 ah<|qa 28 aT<|qa 25 aE<|qp aD<|q0) [(.normal,gQ aA aC aB false)] []
  have aF:=by have q:=kK n aA aC _ aP; rw [aH] at q; exact q
  obtain ⟨av,aV,h⟩:=dQ h
  rcases cn h with ⟨aL,ai,h⟩ | ⟨aL,ai,h⟩
  rotate_left
  ·have aW:=by have q:=kK n aA aB _ aV; rw [aL] at q; exact q
   obtain ⟨aw,aj,h⟩:=dQ h
   have aX:=zR n aA aC aB _ aj
   rcases cn h with ⟨ak,aM,h⟩ | ⟨ak,aM,h⟩
   ·obtain rfl:=si h
    exact pv_q F80 (qa 37 aM<|qa 36 aX<|qa 28 aW<|qa 25 aF<|qp aD<|q0) [(.normal,gQ aA aC aB false)] []
   obtain rfl:=si h
   exact pv_q F80 (qa 37 aM<|qa 36 aX<|qa 28 aW<|qa 25 aF<|qp aD<|q0) [(.normal,gQ aA aC aB false)] []
  have aY:=by have q:=kK n aA aB _ aV; rw [aL] at q; exact q
  obtain ⟨ax,aZ,h⟩:=dQ h
  rcases cn h with ⟨aN,al,h⟩ | ⟨aN,al,h⟩
  ·have am:=by have q:=kK n aA aB _ aZ; rw [aN] at q; exact q
   obtain rfl:=si h
   exact pv_q F80 (qa 32 am<|qa 28 aY<|qa 25 aF<|qp aD<|q0) [(.normal,gQ aA aC aB false)] []
  have an:=by have q:=kK n aA aB _ aZ; rw [aN] at q; exact q
  obtain rfl:=si h
  exact pv_q F80 (qa 32 an<|qa 28 aY<|qa 25 aF<|qp aD<|q0) [(.normal,gQ aA aC aB false)] []
abbrev hp39 (aA : GPlan) (aB : (GNode × Bool)) : Heap:=[(.blk 3 [[(.vw (List.map dP aA.Nodes)),(.vw (List.map dR aA.Arcs)),(.vw (List.map dS aA.Faces))]]),(.blk 1 (List.map dS [])),(.blk 1 [[(.ms 1 0 0 0)]]),(.blk 3 [(dP aB.1)]),(.mp (entL dX eB ([] : List (Int × GPoint)))),(.blk 1 [[(.mp 4)]])]
def jW (aC : Int) (aA : GPlan) (aD : (GNode × Bool)) (aB : (List Int)) (aE : (List (Int × GPoint))) (aF : Int) : St:=⟨sp 80 [(1,(iv aC)),(2,(.ptr 0 1 0 0)),(4,(.ptr 2 1 0 0)),(5,(.ptr 3 1 0 0)),(7,(.ptr 5 1 0 0)),(8,(.fn 53 [(.ptr 2 1 0 0),(.ptr 5 1 0 0)])),(24,(.vw (List.map dR aA.Arcs))),(25,(iv ((aA.Arcs.length : Nat) : Int))),(26,(iv aF))],[(.blk 3 [[(.vw (List.map dP aA.Nodes)),(.vw (List.map dR aA.Arcs)),(.vw (List.map dS aA.Faces))]]),(.blk 1 (List.map dS aB)),(.blk 1 [[(.ms 1 aB.length 0 aB.length)]]),(.blk 3 [(dP aD.1)]),(.mp (entL dX eB aE)),(.blk 1 [[(.mp 4)]])]⟩
theorem mN (aA : Int) (aB : GPlan) (aC : (GNode × Bool)) (aD : (List Int)) (aE : (List (Int × GPoint))) (aF : Int) : eS true 0 6 (jW aA aB aC aD aE aF).heap:=(by exact (clo rfl (clo (hU (gJ 6)) (clo rfl (clo rfl (clo (kA (kv:=dX) (va:=eB) fun _=>rfl) (clo rfl rfl)))))))
def wI (aE : Int) (aA : GPlan) (aC : (GNode × Bool)) (aB : (List Int)) (aD : (List (Int × GPoint))) : St:=⟨sp 80 [(4,(.ptr 2 1 0 0)),(5,(.ptr 3 1 0 0)),(7,(.ptr 5 1 0 0))],[(.blk 3 [[(.vw (List.map dP aA.Nodes)),(.vw (List.map dR aA.Arcs)),(.vw (List.map dS aA.Faces))]]),(.blk 1 (List.map dS aB)),(.blk 1 [[(.ms 1 aB.length 0 aB.length)]]),(.blk 3 [(dP aC.1)]),(.mp (entL dX eB aD)),(.blk 1 [[(.mp 4)]])]⟩
abbrev hp40 (aA : GPlan) (aB : (List Int)) (aC : (GNode × Bool)) (aD : (List (Int × GPoint))) : Heap:=[(.blk 3 [[(.vw (List.map dP aA.Nodes)),(.vw (List.map dR aA.Arcs)),(.vw (List.map dS aA.Faces))]]),(.blk 1 (List.map dS aB)),(.blk 1 [[(.ms 1 aB.length 0 aB.length)]]),(.blk 3 [(dP aC.1)]),(.mp (entL dX eB aD)),(.blk 1 [[(.mp 4)]])]
def aI1 (aC : Int) (aA : GPlan) (aD : Int) (aB : (List Int)) (aE : (GNode × Bool)) (aF : (List (Int × GPoint))) (aG : GArc) : St:=⟨sp 80 [(1,(iv aC)),(2,(.ptr 0 1 0 0)),(4,(.ptr 2 1 0 0)),(5,(.ptr 3 1 0 0)),(7,(.ptr 5 1 0 0)),(8,(.fn 53 [(.ptr 2 1 0 0),(.ptr 5 1 0 0)])),(10,(.ptr 6 1 0 0)),(24,(.vw (List.map dR aA.Arcs))),(25,(iv ((aA.Arcs.length : Nat) : Int))),(26,(iv aD))],[(.blk 3 [[(.vw (List.map dP aA.Nodes)),(.vw (List.map dR aA.Arcs)),(.vw (List.map dS aA.Faces))]]),(.blk 1 (List.map dS aB)),(.blk 1 [[(.ms 1 aB.length 0 aB.length)]]),(.blk 3 [(dP aE.1)]),(.mp (entL dX eB aF)),(.blk 1 [[(.mp 4)]]),(.blk 6 [(dR aG)])]⟩
def iF (aC : Int) (aA : GPlan) (aD : Int) (aB : (List Int)) (aE : (GNode × Bool)) (aF : (List (Int × GPoint))) (aG : GArc) (aH : Bool) : St:=⟨sp 80 [(1,(iv aC)),(2,(.ptr 0 1 0 0)),(4,(.ptr 2 1 0 0)),(5,(.ptr 3 1 0 0)),(7,(.ptr 5 1 0 0)),(8,(.fn 53 [(.ptr 2 1 0 0),(.ptr 5 1 0 0)])),(10,(.ptr 6 1 0 0)),(24,(.vw (List.map dR aA.Arcs))),(25,(iv ((aA.Arcs.length : Nat) : Int))),(26,(iv aD)),(39,(bv aH))],[(.blk 3 [[(.vw (List.map dP aA.Nodes)),(.vw (List.map dR aA.Arcs)),(.vw (List.map dS aA.Faces))]]),(.blk 1 (List.map dS aB)),(.blk 1 [[(.ms 1 aB.length 0 aB.length)]]),(.blk 3 [(dP aE.1)]),(.mp (entL dX eB aF)),(.blk 1 [[(.mp 4)]]),(.blk 6 [(dR aG)])]⟩
def xJ (n : Nat) (aA : Int) (aC : GPlan) (aD : Int) (aE : (List Int)) (aF : (GNode × Bool)) (aG : (List (Int × GPoint))) (aB : GArc) : Option Bool:=(cnd (aB.From != aA) (cnd (aB.To != aA) (some true) (some false)) (some false))
theorem aBw (n : Nat) (aA : Int) (aB : GPlan) (aC : Int) (aD : (List Int)) (aE : (GNode × Bool)) (aF : (List (Int × GPoint))) (aG : GArc) (r : Bool) (h : xJ n aA aB aC aD aE aF aG=some r) : eT lv50 lv4 false 0 7 (evC PP (evF PP T n) n 0 bH6 (aI1 aA aB aC aD aE aF aG))=some (.normal,iF aA aB aC aD aE aF aG r):=by
 unfold xJ at h
 rcases cn h with ⟨aJ,aH,h⟩ | ⟨aJ,aH,h⟩
 rotate_left
 ·obtain rfl:=si h
  exact dY (iF aA aB aC aD aE aF aG false) (qa 33 aH<|q0) [] []
 rcases cn h with ⟨aK,aI,h⟩ | ⟨aK,aI,h⟩
 ·obtain rfl:=si h
  exact dY (iF aA aB aC aD aE aF aG true) (qa 38 aI<|qa 33 aH<|q0) [] []
 obtain rfl:=si h
 exact dY (iF aA aB aC aD aE aF aG false) (qa 38 aI<|qa 33 aH<|q0) [] []
abbrev hp41 (aA : GPlan) (aB : (List Int)) (aC : (GNode × Bool)) (aD : (List (Int × GPoint))) (aE : GArc) : Heap:=[(.blk 3 [[(.vw (List.map dP aA.Nodes)),(.vw (List.map dR aA.Arcs)),(.vw (List.map dS aA.Faces))]]),(.blk 1 (List.map dS aB)),(.blk 1 [[(.ms 1 aB.length 0 aB.length)]]),(.blk 3 [(dP aC.1)]),(.mp (entL dX eB aD)),(.blk 1 [[(.mp 4)]]),(.blk 6 [(dR aE)])]
abbrev hp42 (aA : GPlan) (aB : (List Int)) (aD : (GNode × Bool)) (aE : (List (Int × GPoint))) (aF : GArc) (aC : GPoint) : Heap:=[(.blk 3 [[(.vw (List.map dP aA.Nodes)),(.vw (List.map dR aA.Arcs)),(.vw (List.map dS aA.Faces))]]),(.blk 1 (List.map dS aB)),(.blk 1 [[(.ms 1 aB.length 0 aB.length)]]),(.blk 3 [(dP aD.1)]),(.mp (entL dX eB aE)),(.blk 1 [[(.mp 4)]]),(.blk 6 [(dR aF)]),(.blk 2 [[(iv aC.X),(iv aC.Y)]])]
abbrev hp43 (aA : GPlan) (aB : (List Int)) (aE : (GNode × Bool)) (aF : (List (Int × GPoint))) (aD : GArc) (aC : GPoint) : Heap:=[(.blk 3 [[(.vw (List.map dP aA.Nodes)),(.vw (List.map dR aA.Arcs)),(.vw (List.map dS aA.Faces))]]),(.blk 1 (List.map dS aB)),(.blk 1 [[(.ms 1 aB.length 0 aB.length)]]),(.blk 3 [(dP aE.1)]),(.mp (entL dX eB (mput aF aD.ID aC))),(.blk 1 [[(.mp 4)]]),(.blk 6 [(dR aD)]),(.blk 2 [[(iv aC.X),(iv aC.Y)]])]
abbrev hp44 (aA : GPlan) (aB : (List Int)) (aF : (GNode × Bool)) (aG : (List (Int × GPoint))) (aD : GArc) (aC : GPoint) (aE : GPoint) : Heap:=[(.blk 3 [[(.vw (List.map dP aA.Nodes)),(.vw (List.map dR aA.Arcs)),(.vw (List.map dS aA.Faces))]]),(.blk 1 (List.map dS aB)),(.blk 1 [[(.ms 1 aB.length 0 aB.length)]]),(.blk 3 [(dP aF.1)]),(.mp (entL dX eB (mput aG aD.ID aC))),(.blk 1 [[(.mp 4)]]),(.blk 6 [(dR aD)]),(.blk 2 [[(iv aC.X),(iv aC.Y)]]),(.blk 2 [[(iv aE.X),(iv aE.Y)]])]
abbrev hp45 (aA : GPlan) (aB : (List Int)) (aF : (GNode × Bool)) (aG : (List (Int × GPoint))) (aC : GArc) (aD : GPoint) (aE : GPoint) : Heap:=[(.blk 3 [[(.vw (List.map dP aA.Nodes)),(.vw (List.map dR aA.Arcs)),(.vw (List.map dS aA.Faces))]]),(.blk 1 (List.map dS aB)),(.blk 1 [[(.ms 1 aB.length 0 aB.length)]]),(.blk 3 [(dP aF.1)]),(.mp (entL dX eB (mput (mput aG aC.ID aD) (IntKind.i64.wrap (0 - aC.ID)) aE))),(.blk 1 [[(.mp 4)]]),(.blk 6 [(dR aC)]),(.blk 2 [[(iv aD.X),(iv aD.Y)]]),(.blk 2 [[(iv aE.X),(iv aE.Y)]])]
abbrev hp48 (aA : GPlan) (aB : (List Int)) (aE : (GNode × Bool)) (aF : (List (Int × GPoint))) (aD : GArc) (aC : GPoint) : Heap:=[(.blk 3 [[(.vw (List.map dP aA.Nodes)),(.vw (List.map dR aA.Arcs)),(.vw (List.map dS aA.Faces))]]),(.blk 1 (List.map dS aB)),(.blk 1 [[(.ms 1 aB.length 0 aB.length)]]),(.blk 3 [(dP aE.1)]),(.mp (entL dX eB (mput aF (IntKind.i64.wrap (0 - aD.ID)) aC))),(.blk 1 [[(.mp 4)]]),(.blk 6 [(dR aD)]),(.blk 2 [[(iv aC.X),(iv aC.Y)]])]
def jF (n : Nat) (aB : Int) (aC : GPlan) (aF : (GNode × Bool)) : Nat→(List Int)→(List (Int × GPoint))→Int→Option ((List Int) × (List (Int × GPoint)))
 | 0,_,_,_=>none
 | m + 1,aG,aE,aD=>(cnd (decide (aD < ((aC.Arcs.length : Nat) : Int))) (bnd (idx aC.Arcs aD) fun aA=>(bnd (xJ n aB aC aD aG aF aE aA) fun aK=>(cnd (aK) (jF n aB aC aF m aG aE (IntKind.i64.wrap (aD + 1))) (bnd (aAf n aC aA.ID) fun aH=>(cnd (aH.2 != 0) (jF n aB aC aF m aG aE (IntKind.i64.wrap (aD + 1))) (cnd (aA.From == aB) (bnd (idx aH.1 1) fun aI=>(bnd (prd n) fun aP=>(bnd (app aG [aA.ID]) fun aJ=>(cnd (aA.To == aB) (bnd (idx aH.1 (IntKind.i64.wrap (((aH.1.length : Nat) : Int) - 2))) fun aL=>(bnd (prd n) fun aQ=>(bnd (app aJ [(IntKind.i64.wrap (0 - aA.ID))]) fun aM=>(jF n aB aC aF m aM (mput (mput aE aA.ID aI) (IntKind.i64.wrap (0 - aA.ID)) aL) (IntKind.i64.wrap (aD + 1)))))) (jF n aB aC aF m aJ (mput aE aA.ID aI) (IntKind.i64.wrap (aD + 1))))))) (cnd (aA.To == aB) (bnd (idx aH.1 (IntKind.i64.wrap (((aH.1.length : Nat) : Int) - 2))) fun aN=>(bnd (prd n) fun aR=>(bnd (app aG [(IntKind.i64.wrap (0 - aA.ID))]) fun aO=>(jF n aB aC aF m aO (mput aE (IntKind.i64.wrap (0 - aA.ID)) aN) (IntKind.i64.wrap (aD + 1)))))) (jF n aB aC aF m aG aE (IntKind.i64.wrap (aD + 1)))))))))) (some (aG,aE)))
theorem kC (n : Nat) (aF : Int) (aC : GPlan) (aD : (GNode × Bool)) : ∀ (m : Nat) (aE : (List Int)) (aA : (List (Int × GPoint))) (aG : Int) (r : ((List Int) × (List (Int × GPoint)))),jF n aF aC aD m aE aA aG=some r→eT lv49 lv4 true 0 6 (eG (eO (some lv48) true 0 6) (evC PP (evF PP T n) n 0 bH7) m (jW aF aC aD aE aA aG))=some ((.exit 0),wI aF aC aD r.1 r.2)
 | 0,_,_,_,_,h=>by cases h
 | m + 1,aE,aA,aG,r,h=>by
  rw [jF] at h
  rcases cn h with ⟨aa,aM,h⟩ | ⟨aa,aM,h⟩
  rotate_left
  ·obtain rfl:=si h
   exact eQ (some lv48) true (wI aF aC aD aE aA) (qa 27 aM<|q0) [] [] (by exact (clo rfl (clo (hU (gJ 6)) (clo rfl (clo rfl (clo (kA (kv:=dX) (va:=eB) fun _=>rfl) (clo rfl rfl)))))))
  obtain ⟨aB,ab,h⟩:=dQ h
  have aN:=idxv (H:=(hp40 aC aE aD aA)) (c:=dR) ab (lY _)
  obtain ⟨bL,aW,h⟩:=dQ h
  rcases cn h with ⟨aT,ac,h⟩ | ⟨aT,ac,h⟩
  ·have aJ:=aBw n aF aC aG aE aD aA aB _ aW
   rw [aT] at aJ
   exact nx_q (jW aF aC aD aE aA (IntKind.i64.wrap (aG + 1))) (qp aJ<|qa 28 aN<|qa 27 aM<|q0) [(.normal,iF aF aC aG aE aD aA aB true)] [none] (mN _ _ _ _ _ _) (kC n aF aC aD m aE aA (IntKind.i64.wrap (aG + 1)) r h)
  have aJ:=aBw n aF aC aG aE aD aA aB _ aW
  rw [aT] at aJ
  obtain ⟨aX,ad,h⟩:=dQ h
  have aP:=aA1 n aC aB.ID _ ad
  rcases cn h with ⟨ae,aO,h⟩ | ⟨ae,aO,h⟩
  ·exact nx_q (jW aF aC aD aE aA (IntKind.i64.wrap (aG + 1))) (qa 48 aO<|qa 44 aP<|qp aJ<|qa 28 aN<|qa 27 aM<|q0) [(.normal,iF aF aC aG aE aD aA aB false)] [none] (mN _ _ _ _ _ _) (kC n aF aC aD m aE aA (IntKind.i64.wrap (aG + 1)) r h)
  rcases cn h with ⟨af,aQ,h⟩ | ⟨af,aQ,h⟩
  rotate_left
  ·rcases cn h with ⟨ag,aU,h⟩ | ⟨ag,aU,h⟩
   rotate_left
   ·exact nx_q (jW aF aC aD aE aA (IntKind.i64.wrap (aG + 1))) (qa 63 aU<|qa 52 aQ<|qa 48 aO<|qa 44 aP<|qp aJ<|qa 28 aN<|qa 27 aM<|q0) [(.normal,iF aF aC aG aE aD aA aB false)] [none] (mN _ _ _ _ _ _) (kC n aF aC aD m aE aA (IntKind.i64.wrap (aG + 1)) r h)
   have ah:=nP (P:=PP) (cf:=evF PP T n) (fl:=0) (H:=(hp41 aC aE aD aA aB)) (f:=false) (c:=dW) (l:=aX.1)
   obtain ⟨aK,ai,h⟩:=dQ h
   have aj:=idxl (H:=(hp41 aC aE aD aA aB)) (f:=false) (c:=dW) ai (gW _)
   obtain ⟨ak,al,h⟩:=dQ h
   have am:=pQ al
   obtain ⟨aR,an,h⟩:=dQ h
   have ao:=yN (fl:=0) (H:=(hp42 aC aE aD aA aB aK)) (id:=1) (s:=1) (bytes:=8) (c:=dS) (l:=aE) an rfl iD (by omega) (by omega) (by omega)
   have ap:=aIl (P:=PP) (cf:=evF PP T ak) (fl:=0) (H:=(hp42 aC aR aD aA aB aK)) (id:=4) (kv:=dX) (va:=eB) (m:=aA) (k:=(IntKind.i64.wrap (0 - aB.ID))) (x:=(iv (IntKind.i64.wrap (0 - aB.ID)))) lG aK rfl (by omega) rfl
   have aq : evF PP T n 0 53 [(iv (IntKind.i64.wrap (0 - aB.ID))),(.agg [(iv aK.X),(iv aK.Y)]),(.ptr 2 1 0 0),(.ptr 5 1 0 0)] (hp41 aC aE aD aA aB)=some ((.tup []),(hp48 aC aR aD aA aB aK)):=by
    rw [am]; exact iT F53 (qp ap<|qc 9 ao<|q0) [] [none,some (hp48 aC aR aD aA aB aK)]
   exact nx_q (jW aF aC aD aR (mput aA (IntKind.i64.wrap (0 - aB.ID)) aK) (IntKind.i64.wrap (aG + 1))) (qc 74 aq<|qa 72 aj<|qb 70 ah<|qa 63 aU<|qa 52 aQ<|qa 48 aO<|qa 44 aP<|qp aJ<|qa 28 aN<|qa 27 aM<|q0) [(.normal,iF aF aC aG aE aD aA aB false)] [none] (mN _ _ _ _ _ _) (kC n aF aC aD m aR (mput aA (IntKind.i64.wrap (0 - aB.ID)) aK) (IntKind.i64.wrap (aG + 1)) r h)
  obtain ⟨aH,ar,h⟩:=dQ h
  have aY:=idxl (H:=(hp41 aC aE aD aA aB)) (f:=false) (c:=dW) ar (gW _)
  obtain ⟨au,av,h⟩:=dQ h
  have aw:=pQ av
  obtain ⟨aI,ax,h⟩:=dQ h
  have ay:=yN (fl:=0) (H:=(hp42 aC aE aD aA aB aH)) (id:=1) (s:=1) (bytes:=8) (c:=dS) (l:=aE) ax rfl iD (by omega) (by omega) (by omega)
  have az:=aIl (P:=PP) (cf:=evF PP T au) (fl:=0) (H:=(hp42 aC aI aD aA aB aH)) (id:=4) (kv:=dX) (va:=eB) (m:=aA) (k:=aB.ID) (x:=(iv aB.ID)) lG aH rfl (by omega) rfl
  have aZ : evF PP T n 0 53 [(iv aB.ID),(.agg [(iv aH.X),(iv aH.Y)]),(.ptr 2 1 0 0),(.ptr 5 1 0 0)] (hp41 aC aE aD aA aB)=some ((.tup []),(hp43 aC aI aD aA aB aH)):=by
   rw [aw]; exact iT F53 (qp az<|qc 9 ay<|q0) [] [none,some (hp43 aC aI aD aA aB aH)]
  rcases cn h with ⟨bA,aV,h⟩ | ⟨bA,aV,h⟩
  rotate_left
  ·exact nx_q (jW aF aC aD aI (mput aA aB.ID aH) (IntKind.i64.wrap (aG + 1))) (qa 63 aV<|qc 59 aZ<|qa 57 aY<|qa 52 aQ<|qa 48 aO<|qa 44 aP<|qp aJ<|qa 28 aN<|qa 27 aM<|q0) [(.normal,iF aF aC aG aE aD aA aB false)] [none] (mN _ _ _ _ _ _) (kC n aF aC aD m aI (mput aA aB.ID aH) (IntKind.i64.wrap (aG + 1)) r h)
  have bB:=nP (P:=PP) (cf:=evF PP T n) (fl:=0) (H:=(hp43 aC aI aD aA aB aH)) (f:=false) (c:=dW) (l:=aX.1)
  obtain ⟨aL,bC,h⟩:=dQ h
  have bD:=idxl (H:=(hp43 aC aI aD aA aB aH)) (f:=false) (c:=dW) bC (gW _)
  obtain ⟨bE,bF,h⟩:=dQ h
  have bG:=pQ bF
  obtain ⟨aS,bH,h⟩:=dQ h
  have bI:=yN (fl:=0) (H:=(hp44 aC aI aD aA aB aH aL)) (id:=1) (s:=1) (bytes:=8) (c:=dS) (l:=aI) bH rfl iD (by omega) (by omega) (by omega)
  have bJ:=aIl (P:=PP) (cf:=evF PP T bE) (fl:=0) (H:=(hp44 aC aS aD aA aB aH aL)) (id:=4) (kv:=dX) (va:=eB) (m:=(mput aA aB.ID aH)) (k:=(IntKind.i64.wrap (0 - aB.ID))) (x:=(iv (IntKind.i64.wrap (0 - aB.ID)))) lG aL rfl (by omega) rfl
  have bK : evF PP T n 0 53 [(iv (IntKind.i64.wrap (0 - aB.ID))),(.agg [(iv aL.X),(iv aL.Y)]),(.ptr 2 1 0 0),(.ptr 5 1 0 0)] (hp43 aC aI aD aA aB aH)=some ((.tup []),(hp45 aC aS aD aA aB aH aL)):=by
   rw [bG]; exact iT F53 (qp bJ<|qc 9 bI<|q0) [] [none,some (hp45 aC aS aD aA aB aH aL)]
  exact nx_q (jW aF aC aD aS (mput (mput aA aB.ID aH) (IntKind.i64.wrap (0 - aB.ID)) aL) (IntKind.i64.wrap (aG + 1))) (qc 74 bK<|qa 72 bD<|qb 70 bB<|qa 63 aV<|qc 59 aZ<|qa 57 aY<|qa 52 aQ<|qa 48 aO<|qa 44 aP<|qp aJ<|qa 28 aN<|qa 27 aM<|q0) [(.normal,iF aF aC aG aE aD aA aB false)] [none] (mN _ _ _ _ _ _) (kC n aF aC aD m aS (mput (mput aA aB.ID aH) (IntKind.i64.wrap (0 - aB.ID)) aL) (IntKind.i64.wrap (aG + 1)) r h)
abbrev hp50 (aB : GPlan) (aA : ((List Int) × (List (Int × GPoint)))) (aC : (GNode × Bool)) : Heap:=[(.blk 3 [[(.vw (List.map dP aB.Nodes)),(.vw (List.map dR aB.Arcs)),(.vw (List.map dS aB.Faces))]]),(.blk 1 (List.map dS aA.1)),(.blk 1 [[(.ms 1 aA.1.length 0 aA.1.length)]]),(.blk 3 [(dP aC.1)]),(.mp (entL dX eB aA.2)),(.blk 1 [[(.mp 4)]])]
abbrev hp51 (aA : GPlan) (aC : (List Int)) (aB : ((List Int) × (List (Int × GPoint)))) (aD : (GNode × Bool)) : Heap:=[(.blk 3 [[(.vw (List.map dP aA.Nodes)),(.vw (List.map dR aA.Arcs)),(.vw (List.map dS aA.Faces))]]),(.blk 1 (List.map dS aC)),(.blk 1 [[(.ms 1 aB.1.length 0 aB.1.length)]]),(.blk 3 [(dP aD.1)]),(.mp (entL dX eB aB.2)),(.blk 1 [[(.mp 4)]])]
abbrev hp52 (aB : GPlan) (aA : ((List Int) × (List (Int × GPoint)))) (aC : (GNode × Bool)) : Heap:=[(.blk 3 [[(.vw (List.map dP aB.Nodes)),(.vw (List.map dR aB.Arcs)),(.vw (List.map dS aB.Faces))]]),(.blk 1 (List.map dS aA.1++[List.replicate 1 AV.undef])),(.blk 1 [[(.ms 1 aA.1.length 0 aA.1.length)]]),(.blk 3 [(dP aC.1)]),(.mp (entL dX eB aA.2)),(.blk 1 [[(.mp 4)]])]
def lZ (aG : GPlan) (aA : ((List Int) × (List (Int × GPoint)))) (aD : (GNode × Bool)) : Nat→Int→Int→Option Int
 | 0,_,_=>none
 | n + 1,aB,aC=>(bnd (aEa n aD.1.At (GPoint.mk (Option.getD (mget aA.2 aB) (GPoint.mk 0 0)).X (Option.getD (mget aA.2 aB) (GPoint.mk 0 0)).Y) (GPoint.mk (Option.getD (mget aA.2 aC) (GPoint.mk 0 0)).X (Option.getD (mget aA.2 aC) (GPoint.mk 0 0)).Y)) fun aE=>(cnd (aE) (some (-1)) (bnd (aEa n aD.1.At (GPoint.mk (Option.getD (mget aA.2 aC) (GPoint.mk 0 0)).X (Option.getD (mget aA.2 aC) (GPoint.mk 0 0)).Y) (GPoint.mk (Option.getD (mget aA.2 aB) (GPoint.mk 0 0)).X (Option.getD (mget aA.2 aB) (GPoint.mk 0 0)).Y)) fun aF=>(cnd (aF) (some 1) (some 0)))))
end Go.Proofs.YtapabkfjeiknbaaGreat.Av
