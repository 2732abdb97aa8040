/- A part of the proofs of laws of the chapter office: an evaluator of the program, proved sound, and what it says. -/
import Derived.Test.YtkdnaejhpcibnaaGreatDoorVoTl2
import Derived.Test.YtkdnaejhpcibnaaGreatDoorVoM0
import Derived.Test.YtkdnaejhpcibnaaGreatDoorVoTchk
import Derived.Test.YtkdnaejhpcibnaaGreatDoorAvStr
import Derived.Shelf.Strings.Search3
import Derived.Shelf.Vars
import Derived.Test.YtkdnaejhpcibnaaGreatDoorInsB
import Derived.Handed
import Derived.OpenShut
import Derived.Test.YtkdnaejhpcibnaaGreatDoorRows
import Derived.Test.YtkdnaejhpcibnaaGreatDoorTie
import Derived.Test.YtkdnaejhpcibnaaGreatDoorCards
import Derived.ChangeSame
import Derived.ChangeVars
import Derived.JoinedOf
import Derived.LaidLaws
import Derived.Lay
import Derived.MakeChecks
import Derived.Stop.Joined
import Derived.SevenTiedAt
import Derived.IntWalk
set_option linter.unusedVariables false
set_option linter.unusedSimpArgs false
namespace Go.Proofs.YtkdnaejhpcibnaaGreatDoor.Av
open Go
theorem aKj (n : Nat) (aF : GTxn) (aG : GTxn) (r : Bool) (h : f44 n aF aG=some r) : pv PP T n 44 [(.agg (kF aF)),(.agg (kF aG))]=some (bv r):=by
 cases n with
 | zero=>cases h
 | succ n =>
  rw [f44] at h
  rcases cn h with ⟨aH,aA,h⟩ | ⟨aH,aA,h⟩
  ·rcases cn h with ⟨aI,aC,h⟩ | ⟨aI,aC,h⟩
   ·obtain rfl:=si h
    exact pv_q F44 (qa 14 aC<|qa 9 aA<|q0) [] []
   obtain rfl:=si h
   exact pv_q F44 (qa 14 aC<|qa 9 aA<|q0) [] []
  rcases cn h with ⟨aJ,aB,h⟩ | ⟨aJ,aB,h⟩
  ·rcases cn h with ⟨aK,aD,h⟩ | ⟨aK,aD,h⟩
   ·obtain rfl:=si h
    exact pv_q F44 (qa 24 aD<|qa 19 aB<|qa 9 aA<|q0) [] []
   obtain rfl:=si h
   exact pv_q F44 (qa 24 aD<|qa 19 aB<|qa 9 aA<|q0) [] []
  rcases cn h with ⟨aL,aE,h⟩ | ⟨aL,aE,h⟩
  ·obtain rfl:=si h
   exact pv_q F44 (qa 29 aE<|qa 19 aB<|qa 9 aA<|q0) [] []
  obtain rfl:=si h
  exact pv_q F44 (qa 29 aE<|qa 19 aB<|qa 9 aA<|q0) [] []
def aFc (aA : GOffice) (aB : Int) : St:=⟨[U,(.ptr 0 1 0 0),U,(iv aB),U,U,U,U,U,U,U,U,U,U,U,U,U,U,U,U,U,U,U,U,U,U,U,U,U,U,U,U,U,U,U,U,U,U,U,U,U,U,U,U,U,U,U,U,U,U,U,U,U,U,U,U,U,U,U,U,U,U,U,U,U,U,U,U,U,U,U,U,U,U,U,U,U,U,U,U,U,U,U,U,U],[(.blk 2 [[(iv aA.ID),(.sl false (List.map kF aA.Txns))]])]⟩
def rC (aA : GOffice) : St:=⟨[U,U,bf,U,U,U,U,U,U,U,U,U,U,U,U,U,U,U,U,U,U,U,U,U,U,U,U,U,U,U,U,U,U,U,U,U,U,U,U,U,U,U,U,U,U,U,U,U,U,U,U,U,U,U,U,U,U,U,U,U,U,U,U,U,U,U,U,U,U,U,U,U,U,U,U,U,U,U,U,U,U,U,U,U,U],[(.blk 2 [[(iv aA.ID),(.sl false (List.map kF aA.Txns))]])]⟩
def aCd (aA : GOffice) : St:=⟨[U,U,U,U,U,U,U,U,U,U,U,U,U,U,U,U,U,U,U,U,U,U,U,U,U,U,U,U,U,U,U,U,U,U,U,U,U,U,U,U,U,U,U,U,U,U,U,U,U,U,U,U,U,U,U,U,U,U,U,U,U,U,U,U,U,U,U,U,U,U,U,U,U,U,U,U,U,U,U,U,U,U,U,U,U],[(.blk 2 [[(iv aA.ID),(.sl false (List.map kF aA.Txns))]])]⟩
def aFb (aB : Int) (aA : GOffice) (aC : Int) : St:=⟨[U,(.ptr 0 1 0 0),U,(iv aB),(iv aC),U,U,U,U,U,U,U,U,U,U,U,U,U,U,U,U,U,U,U,U,U,U,U,U,U,U,U,U,U,U,U,U,U,U,U,U,U,U,U,U,U,U,U,U,U,U,U,U,U,U,U,U,U,U,U,U,U,U,U,U,U,U,U,U,U,U,U,U,U,U,U,U,U,U,U,U,U,U,U,U],[(.blk 2 [[(iv aA.ID),(.sl false (List.map kF aA.Txns))]])]⟩
def wW (aB : Int) (aA : GOffice) : St:=⟨[U,U,bf,U,U,U,U,U,U,U,U,U,U,U,U,U,U,U,U,U,U,U,U,U,U,U,U,U,U,U,U,U,U,U,U,U,U,U,U,U,U,U,U,U,U,U,U,U,U,U,U,U,U,U,U,U,U,U,U,U,U,U,U,U,U,U,U,U,U,U,U,U,U,U,U,U,U,U,U,U,U,U,U,U,U],[(.blk 2 [[(iv aA.ID),(.sl false (List.map kF aA.Txns))]])]⟩
def wV (aB : Int) (aA : GOffice) : St:=⟨[U,(.ptr 0 1 0 0),U,(iv aB),U,U,U,U,U,U,U,U,U,U,U,U,U,U,U,U,U,U,U,U,U,U,U,U,U,U,U,U,U,U,U,U,U,U,U,U,U,U,U,U,U,U,U,U,U,U,U,U,U,U,U,U,U,U,U,U,U,U,U,U,U,U,U,U,U,U,U,U,U,U,U,U,U,U,U,U,U,U,U,U,U],[(.blk 2 [[(iv aA.ID),(.sl false (List.map kF aA.Txns))]])]⟩
def rB (n : Nat) (aA : Int) (aB : GOffice) : Nat→Int→Option (Unit ⊕ Unit)
 | 0,_=>none
 | m + 1,aC=>(cnd (decide (aC < aA)) (bnd (idx aB.Txns aC) fun aD=>(bnd (idx aB.Txns aA) fun aE=>(cnd (aD.Office == aE.Office) (cnd (aD.Seq == aE.Seq) (some (Sum.inl ())) (rB n aA aB m (IntKind.i64.wrap (aC + 1)))) (rB n aA aB m (IntKind.i64.wrap (aC + 1)))))) (some (Sum.inr ())))
theorem rA (n : Nat) (aB : Int) (aA : GOffice) : ∀ (m : Nat) (aC : Int) (r : (Unit ⊕ Unit)),rB n aB aA m aC=some r→lT [false,true,false,true] [false,false,true] false 0 1 (kW (kY (some lv34) false 0 1) (evC PP (evF PP T n) n 0 bB3) m (aFb aB aA aC))=(match r with | .inl r=>some (.ret,wW aB aA) | .inr r=>some ((.exit 2),wV aB aA))
 | 0,_,_,h=>by cases h
 | m + 1,aC,r,h=>by
  rw [rB] at h
  rcases cn h with ⟨aM,aD,h⟩ | ⟨aM,aD,h⟩
  rotate_left
  ·obtain rfl:=si h
   exact kX (some lv34) false (wV aB aA) (qa 54 aD<|q0) [] [] trivial
  obtain ⟨aP,aI,h⟩:=kE h
  have aF:=idxl (H:=(hp19 aA)) (f:=false) (c:=kF) aI (kS _)
  obtain ⟨aQ,aJ,h⟩:=kE h
  have aG:=idxl (H:=(hp19 aA)) (f:=false) (c:=kF) aJ (kS _)
  rcases cn h with ⟨aN,aE,h⟩ | ⟨aN,aE,h⟩
  rotate_left
  ·exact nx_q (aFb aB aA (IntKind.i64.wrap (aC + 1))) (qa 69 aE<|qa 66 aG<|qa 60 aF<|qa 54 aD<|q0) [] [] trivial (rA n aB aA m (IntKind.i64.wrap (aC + 1)) r h)
  have aK:=idxl (H:=(hp19 aA)) (f:=false) (c:=kF) aI (kS _)
  have aL:=idxl (H:=(hp19 aA)) (f:=false) (c:=kF) aJ (kS _)
  rcases cn h with ⟨aO,aH,h⟩ | ⟨aO,aH,h⟩
  ·obtain rfl:=si h
   exact kX (some lv34) false (wW aB aA) (qa 83 aH<|qa 80 aL<|qa 74 aK<|qa 69 aE<|qa 66 aG<|qa 60 aF<|qa 54 aD<|q0) [] [] trivial
  exact nx_q (aFb aB aA (IntKind.i64.wrap (aC + 1))) (qa 83 aH<|qa 80 aL<|qa 74 aK<|qa 69 aE<|qa 66 aG<|qa 60 aF<|qa 54 aD<|q0) [] [] trivial (rA n aB aA m (IntKind.i64.wrap (aC + 1)) r h)
def sJ (n : Nat) (aB : GOffice) : Nat→Int→Option (Unit ⊕ Unit)
 | 0,_=>none
 | m + 1,aA=>(cnd (decide (aA < ((aB.Txns.length : Nat) : Int))) (bnd (idx aB.Txns aA) fun aC=>(bnd (f26 n aC) fun aD=>(cnd (aD != 0) (some (Sum.inl ())) (cnd (decide (aA > 0)) (bnd (idx aB.Txns (IntKind.i64.wrap (aA - 1))) fun aE=>(bnd (f44 n aE aC) fun aF=>(cnd (aF) (bnd2 (rB n aA aB n 0) (fun aG=>(some (Sum.inl ()))) (fun aH=>(sJ n aB m (IntKind.i64.wrap (aA + 1))))) (some (Sum.inl ()))))) (bnd2 (rB n aA aB n 0) (fun aI=>(some (Sum.inl ()))) (fun aJ=>(sJ n aB m (IntKind.i64.wrap (aA + 1))))))))) (some (Sum.inr ())))
theorem wX (n : Nat) (aA : GOffice) : ∀ (m : Nat) (aB : Int) (r : (Unit ⊕ Unit)),sJ n aA m aB=some r→lT [] [false,false,true] false 0 1 (kW (kY (some [false,true,false,true]) false 0 1) (evC PP (evF PP T n) n 0 bB4) m (aFc aA aB))=(match r with | .inl r=>some (.ret,rC aA) | .inr r=>some ((.exit 0),aCd aA))
 | 0,_,_,h=>by cases h
 | m + 1,aB,r,h=>by
  rw [sJ] at h
  have aD:=kP (P:=PP) (cf:=evF PP T n) (fl:=0) (H:=(hp19 aA)) (f:=false) (c:=kF) (l:=aA.Txns)
  rcases cn h with ⟨aW,aC,h⟩ | ⟨aW,aC,h⟩
  rotate_left
  ·obtain rfl:=si h
   exact kX (some [false,true,false,true]) false (aCd aA) (qa 23 aC<|qb 22 aD<|q0) [] [] trivial
  obtain ⟨aI,aQ,h⟩:=kE h
  have aF:=idxl (H:=(hp19 aA)) (f:=false) (c:=kF) aQ (kS _)
  obtain ⟨ad,aX,h⟩:=kE h
  have aG:=aS3 n aI _ aX
  rcases cn h with ⟨aY,aE,h⟩ | ⟨aY,aE,h⟩
  ·obtain rfl:=si h
   exact kX (some [false,true,false,true]) false (rC aA) (qa 32 aE<|qa 31 aG<|qa 29 aF<|qa 23 aC<|qb 22 aD<|q0) [] [] trivial
  rcases cn h with ⟨aZ,aH,h⟩ | ⟨aZ,aH,h⟩
  rotate_left
  ·have aR : kV false 0 1 [(.blk 2 [[(iv aA.ID),(.sl false (List.map kF aA.Txns))]])]:=trivial
   rcases kQ h with ⟨ae,aJ,h⟩ | ⟨af,aJ,h⟩
   ·have aK:=rA n aB aA n 0 _ aJ
    obtain rfl:=si h
    exact kX (some [false,true,false,true]) false (rC aA) (qp aK<|qp aR<|qa 35 aH<|qa 32 aE<|qa 31 aG<|qa 29 aF<|qa 23 aC<|qb 22 aD<|q0) [(.ret,wW aB aA)] [] trivial
   have aK:=rA n aB aA n 0 _ aJ
   exact nx_q (aFc aA (IntKind.i64.wrap (aB + 1))) (qp aK<|qp aR<|qa 35 aH<|qa 32 aE<|qa 31 aG<|qa 29 aF<|qa 23 aC<|qb 22 aD<|q0) [((.exit 2),wV aB aA)] [] trivial (wX n aA m (IntKind.i64.wrap (aB + 1)) r h)
  obtain ⟨aS,aa,h⟩:=kE h
  have aL:=idxl (H:=(hp19 aA)) (f:=false) (c:=kF) aa (kS _)
  have aM:=idxl (H:=(hp19 aA)) (f:=false) (c:=kF) aQ (kS _)
  obtain ⟨ag,aT,h⟩:=kE h
  rcases cn h with ⟨aN,ab,h⟩ | ⟨aN,ab,h⟩
  rotate_left
  ·have ac:=by have q:=aKj n aS aI _ aT; rw [aN] at q; exact q
   obtain rfl:=si h
   exact kX (some [false,true,false,true]) false (rC aA) (qa 48 ac<|qa 46 aM<|qa 41 aL<|qa 35 aH<|qa 32 aE<|qa 31 aG<|qa 29 aF<|qa 23 aC<|qb 22 aD<|q0) [] [] trivial
  have aU:=by have q:=aKj n aS aI _ aT; rw [aN] at q; exact q
  have aV : kV false 0 1 [(.blk 2 [[(iv aA.ID),(.sl false (List.map kF aA.Txns))]])]:=trivial
  rcases kQ h with ⟨ah,aO,h⟩ | ⟨ai,aO,h⟩
  ·have aP:=rA n aB aA n 0 _ aO
   obtain rfl:=si h
   exact kX (some [false,true,false,true]) false (rC aA) (qp aP<|qp aV<|qa 48 aU<|qa 46 aM<|qa 41 aL<|qa 35 aH<|qa 32 aE<|qa 31 aG<|qa 29 aF<|qa 23 aC<|qb 22 aD<|q0) [(.ret,wW aB aA)] [] trivial
  have aP:=rA n aB aA n 0 _ aO
  exact nx_q (aFc aA (IntKind.i64.wrap (aB + 1))) (qp aP<|qp aV<|qa 48 aU<|qa 46 aM<|qa 41 aL<|qa 35 aH<|qa 32 aE<|qa 31 aG<|qa 29 aF<|qa 23 aC<|qb 22 aD<|q0) [((.exit 2),wV aB aA)] [] trivial (wX n aA m (IntKind.i64.wrap (aB + 1)) r h)
def f25 : Nat→GOffice→Option Bool
 | 0,_=>none
 | n + 1,aA=>(cnd (decide (aA.ID < 1)) (some false) (cnd (decide (aA.ID > 8)) (some false) (cnd (decide (((aA.Txns.length : Nat) : Int) > 256)) (some false) (bnd2 (sJ n aA n 0) (fun aB=>(some false)) (fun aC=>(some true))))))
theorem aS4 (n : Nat) (aA : GOffice) (r : Bool) (h : f25 n aA=some r) : pv PP T n 25 [(.agg (mZ aA))]=some (bv r):=by
 cases n with
 | zero=>cases h
 | succ n =>
  rw [f25] at h
  rcases cn h with ⟨aI,aB,h⟩ | ⟨aI,aB,h⟩
  ·obtain rfl:=si h
   exact pv_q F25 (qa 7 aB<|q0) [] []
  rcases cn h with ⟨aJ,aC,h⟩ | ⟨aJ,aC,h⟩
  ·obtain rfl:=si h
   exact pv_q F25 (qa 11 aC<|qa 7 aB<|q0) [] []
  have aE:=kP (P:=PP) (cf:=evF PP T n) (fl:=0) (H:=(hp19 aA)) (f:=false) (c:=kF) (l:=aA.Txns)
  rcases cn h with ⟨aK,aD,h⟩ | ⟨aK,aD,h⟩
  ·obtain rfl:=si h
   exact pv_q F25 (qa 17 aD<|qb 16 aE<|qa 11 aC<|qa 7 aB<|q0) [] []
  have aH : kV false 0 1 [(.blk 2 [[(iv aA.ID),(.sl false (List.map kF aA.Txns))]])]:=trivial
  rcases kQ h with ⟨aL,aF,h⟩ | ⟨aM,aF,h⟩
  ·have aG:=wX n aA n 0 _ aF
   obtain rfl:=si h
   exact pv_q F25 (qp aG<|qp aH<|qa 17 aD<|qb 16 aE<|qa 11 aC<|qa 7 aB<|q0) [(.ret,rC aA)] []
  have aG:=wX n aA n 0 _ aF
  obtain rfl:=si h
  exact pv_q F25 (qp aG<|qp aH<|qa 17 aD<|qb 16 aE<|qa 11 aC<|qa 7 aB<|q0) [((.exit 0),aCd aA)] []
def aKm (aA : (List GTxn)) (aB : GTxn) (aC : Int) : St:=⟨[(.sl false (List.map kF aA)),U,U,(.ptr 0 1 0 0),U,(iv aC),U,U,U,U,U,U,U,U,U,U,U,U,U,U,U,U,U,U,U,U,U,U,U,U,U,U,U,U],[(.blk 5 [(kF aB)]),(.blk 5 (List.map kF []))]⟩
def tF (aA : (List GTxn)) (aB : GTxn) (aC : Int) : St:=⟨[(.sl false (List.map kF aA)),U,U,(.ptr 0 1 0 0),U,(iv aC),U,U,U,U,U,U,U,U,U,U,U,U,U,U,U,U,U,U,U,U,U,U,U,U,U,U,U,U],[(.blk 5 [(kF aB)]),(.blk 5 (List.map kF []))]⟩
abbrev hp85 (a6391 : GTxn) : Heap:=[(.blk 5 [(kF a6391)]),(.blk 5 (List.map kF []))]
def aCc (n : Nat) (aB : (List GTxn)) (aC : GTxn) : Nat→Int→Option Int
 | 0,_=>none
 | m + 1,aA=>(cnd (decide (aA < ((aB.length : Nat) : Int))) (bnd (idx aB aA) fun aD=>(bnd (f44 n aD aC) fun aE=>(cnd (aE) (aCc n aB aC m (IntKind.i64.wrap (aA + 1))) (some aA)))) (some aA))
theorem aGu (n : Nat) (aB : (List GTxn)) (aA : GTxn) : ∀ (m : Nat) (aC : Int) (r : Int),aCc n aB aA m aC=some r→lT lv35 lv1 false 0 2 (kW (kY (some lv35) false 0 2) (evC PP (evF PP T n) n 0 bB1) m (aKm aB aA aC))=some ((.exit 0),tF aB aA r)
 | 0,_,_,h=>by cases h
 | m + 1,aC,r,h=>by
  rw [aCc] at h
  have aE:=kP (P:=PP) (cf:=evF PP T n) (fl:=0) (H:=(hp85 aA)) (f:=false) (c:=kF) (l:=aB)
  rcases cn h with ⟨aJ,aD,h⟩ | ⟨aJ,aD,h⟩
  rotate_left
  ·obtain rfl:=si h
   exact kX (some lv35) false (tF aB aA aC) (qa 10 aD<|qb 9 aE<|q0) [] [] trivial
  obtain ⟨aG,aK,h⟩:=kE h
  have aH:=idxl (H:=(hp85 aA)) (f:=false) (c:=kF) aK (kS _)
  obtain ⟨aO,aI,h⟩:=kE h
  rcases cn h with ⟨aF,aL,h⟩ | ⟨aF,aL,h⟩
  rotate_left
  ·have aM:=by have q:=aKj n aG aA _ aI; rw [aF] at q; exact q
   obtain rfl:=si h
   exact kX (some lv35) false (tF aB aA aC) (qa 17 aM<|qa 14 aH<|qa 10 aD<|qb 9 aE<|q0) [] [] trivial
  have aN:=by have q:=aKj n aG aA _ aI; rw [aF] at q; exact q
  exact nx_q (aKm aB aA (IntKind.i64.wrap (aC + 1))) (qa 17 aN<|qa 14 aH<|qa 10 aD<|qb 9 aE<|q0) [] [] trivial (aGu n aB aA m (IntKind.i64.wrap (aC + 1)) r h)
abbrev hp86 (a6391 : GTxn) : Heap:=[(.blk 5 [(kF a6391)]),(.blk 5 (List.map kF [])),(.blk 5 [(kF a6391)])]
abbrev hp87 (a6391 : GTxn) (l6442 : (List GTxn)) : Heap:=[(.blk 5 [(kF a6391)]),(.blk 5 (List.map kF [])),(.blk 5 (List.map kF l6442))]
def f27 : Nat→(List GTxn)→GTxn→Option (List GTxn)
 | 0,_,_=>none
 | n + 1,aA,aB=>(bnd (aCc n aA aB n 0) fun aC=>(bnd (cut aA 0 aC) fun aD=>(cnd (List.isEmpty aD) (bnd (cut aA aC ((aA.length : Nat) : Int)) fun aE=>(bnd (app [aB] aE) fun aF=>(some aF))) (bnd (app ([] : (List GTxn)) aD) fun aG=>(bnd (app aG [aB]) fun aH=>(bnd (cut aA aC ((aA.length : Nat) : Int)) fun aI=>(bnd (app aH aI) fun aJ=>(some aJ))))))))
theorem aYx (n : Nat) (aD : (List GTxn)) (aA : GTxn) (r : (List GTxn)) (h : f27 n aD aA=some r) : pv PP T n 27 [(.sl false (List.map kF aD)),(.agg (kF aA))]=some (.sl false (List.map kF r)):=by
 cases n with
 | zero=>cases h
 | succ n =>
  rw [f27] at h
  have aG : kV false 0 2 [(.blk 5 [(kF aA)]),(.blk 5 (List.map kF []))]:=trivial
  obtain ⟨aH,aL,h⟩:=kE h
  have aI:=aGu n aD aA n 0 _ aL
  obtain ⟨ab,aM,h⟩:=kE h
  have aJ:=aLa (P:=PP) (cf:=evF PP T n) (w:=.undef) (z:=.undef) (fl:=0) (H:=(hp85 aA)) (s:=5) (c:=kF) aM kS
  rcases cn h with ⟨aE,aN,h⟩ | ⟨aE,aN,h⟩
  ·have aO:=aRx (fl:=0) (H:=(hp85 aA)) (s:=5) (bytes:=64) (c:=kF) (x:=(.sl true [])) aE kS (by omega) (.inr rfl)
   obtain ⟨ac,aP,h⟩:=kE h
   have aQ:=aDa (P:=PP) (cf:=evF PP T n) (y:=.undef) (z:=.undef) (fl:=0) (H:=(hp86 aA)) (s:=5) (c:=kF) aP kS
   obtain ⟨aB,aR,h⟩:=kE h
   have aS:=xM (fl:=0) (H:=(hp86 aA)) (id:=2) (s:=5) (bytes:=64) (c:=kF) (l:=[aA]) aR rfl kS (by omega) (by omega) (by omega)
   obtain rfl:=si h
   refine uO (kT F27 (qc 33 aS<|qb 32 aQ<|qb 25 aO<|qb 24 aJ<|qp aI<|qp aG<|q0) [((.exit 0),tF aD aA aH)] [] (r:=(.ms 2 aB.length 0 aB.length)) (H':=(hp87 aA aB))) ?_
   show (mV (hp87 aA aB) 0 (.ms 2 aB.length 0 aB.length))=_
   rw [oJ (H:=(hp87 aA aB)) (id:=2) (s:=5) (c:=kF) (l:=aB) rfl (pZ _ _ _)]
   first | done | rfl
  obtain ⟨aK,aT,h⟩:=kE h
  have aU:=aMe (fl:=0) (H:=(hp85 aA)) (s:=5) (bytes:=64) (c:=kF) (x:=(.sl true [])) aT aE kS (by omega) (by omega) (.inr rfl)
  obtain ⟨aF,aV,h⟩:=kE h
  have aW:=xM (fl:=0) (H:=(hp87 aA aK)) (id:=2) (s:=5) (bytes:=64) (c:=kF) (l:=aK) aV rfl kS (by omega) (by omega) (by omega)
  obtain ⟨ad,aX,h⟩:=kE h
  have aY:=aDa (P:=PP) (cf:=evF PP T n) (y:=.undef) (z:=.undef) (fl:=0) (H:=(hp87 aA aF)) (s:=5) (c:=kF) aX kS
  obtain ⟨aC,aZ,h⟩:=kE h
  have aa:=xM (fl:=0) (H:=(hp87 aA aF)) (id:=2) (s:=5) (bytes:=64) (c:=kF) (l:=aF) aZ rfl kS (by omega) (by omega) (by omega)
  obtain rfl:=si h
  refine uO (kT F27 (qc 33 aa<|qb 32 aY<|qc 29 aW<|qc 25 aU<|qb 24 aJ<|qp aI<|qp aG<|q0) [((.exit 0),tF aD aA aH)] [] (r:=(.ms 2 aC.length 0 aC.length)) (H':=(hp87 aA aC))) ?_
  show (mV (hp87 aA aC) 0 (.ms 2 aC.length 0 aC.length))=_
  rw [oJ (H:=(hp87 aA aC)) (id:=2) (s:=5) (c:=kF) (l:=aC) rfl (pZ _ _ _)]
  first | done | rfl
def aOk (n : Nat) (aC : Int) (aA : GOffice) (aF : ByteArray) (aG : (List GEdit)) : Nat→Int→Bool→Int→Option (Int × Bool)
 | 0,_,_,_=>none
 | m + 1,aD,aH,aB=>(cnd (decide (aB < ((aA.Txns.length : Nat) : Int))) (bnd (idx aA.Txns aB) fun aE=>(cnd (aE.Office == aA.ID) (cnd (aH) (aOk n aC aA aF aG m (imax aD aE.Seq) true (IntKind.i64.wrap (aB + 1))) (cnd (decide (aE.Time > aC)) (aOk n aC aA aF aG m (imax aD aE.Seq) true (IntKind.i64.wrap (aB + 1))) (aOk n aC aA aF aG m (imax aD aE.Seq) false (IntKind.i64.wrap (aB + 1))))) (aOk n aC aA aF aG m aD aH (IntKind.i64.wrap (aB + 1))))) (some (aD,aH)))
def f7 : Nat→GOffice→Int→ByteArray→(List GEdit)→Option (GOffice × Int)
 | 0,_,_,_,_=>none
 | n + 1,aA,aB,aC,aD=>(bnd (f25 n aA) fun aG=>(cnd (aG) (bnd (aOk n aB aA aC aD n 0 false 0) fun aE=>(bnd (f26 n (GTxn.mk aA.ID (IntKind.i64.wrap (aE.1 + 1)) aB aC aD)) fun aF=>(cnd (aF != 0) (some ((GOffice.mk 0 []),aF)) (cnd (decide (((aA.Txns.length : Nat) : Int) ≥ 256)) (some ((GOffice.mk 0 []),3)) (cnd (aE.2) (some ((GOffice.mk 0 []),10)) (bnd (f27 n aA.Txns (GTxn.mk aA.ID (IntKind.i64.wrap (aE.1 + 1)) aB aC aD)) fun aH=>(some ((GOffice.mk aA.ID aH),0)))))))) (some ((GOffice.mk 0 []),19))))
def f9 : Nat→Int→Option (GOffice × Int)
 | 0,_=>none
 | n + 1,aA=>(cnd (decide (aA < 1)) (some ((GOffice.mk 0 []),2)) (cnd (decide (aA > 8)) (some ((GOffice.mk 0 []),2)) (some ((GOffice.mk aA []),0))))
def aKh (aA : (List GPoint)) (aB : (List GPoint)) (aC : Int) : St:=⟨[(.sl false (List.map kI aA)),(.sl false (List.map kI aB)),U,U,U,(iv aC),U,U,U,U,U,U,U,U,U,U,U,U,U,U,U,U,U,U,U,U],[]⟩
def aB4 (aA : (List GPoint)) (aB : (List GPoint)) : St:=⟨[U,U,U,U,bf,U,U,U,U,U,U,U,U,U,U,U,U,U,U,U,U,U,U,U,U,U],[]⟩
def aB3 (aA : (List GPoint)) (aB : (List GPoint)) : St:=⟨[U,U,U,U,U,U,U,U,U,U,U,U,U,U,U,U,U,U,U,U,U,U,U,U,U,U],[]⟩
def wO (n : Nat) (aB : (List GPoint)) (aC : (List GPoint)) : Nat→Int→Option (Unit ⊕ Unit)
 | 0,_=>none
 | m + 1,aA=>(cnd (decide (aA < ((aB.length : Nat) : Int))) (bnd (idx aB aA) fun aD=>(bnd (idx aC aA) fun aE=>(cnd (decide (aD=aE)) (wO n aB aC m (IntKind.i64.wrap (aA + 1))) (some (Sum.inl ()))))) (some (Sum.inr ())))
theorem aB2 (n : Nat) (aA : (List GPoint)) (aB : (List GPoint)) : ∀ (m : Nat) (aC : Int) (r : (Unit ⊕ Unit)),wO n aA aB m aC=some r→lT [] lv1 false 0 0 (kW (kY (some lv38) false 0 0) (evC PP (evF PP T n) n 0 bBu) m (aKh aA aB aC))=(match r with | .inl r=>some (.ret,aB4 aA aB) | .inr r=>some ((.exit 0),aB3 aA aB))
 | 0,_,_,h=>by cases h
 | m + 1,aC,r,h=>by
  rw [wO] at h
  have aE:=kP (P:=PP) (cf:=evF PP T n) (fl:=0) (H:=[]) (f:=false) (c:=kI) (l:=aA)
  rcases cn h with ⟨aK,aD,h⟩ | ⟨aK,aD,h⟩
  rotate_left
  ·obtain rfl:=si h
   exact kX (some lv38) false (aB3 aA aB) (qa 14 aD<|qb 13 aE<|q0) [] [] trivial
  obtain ⟨aG,aL,h⟩:=kE h
  have aH:=idxl (H:=[]) (f:=false) (c:=kI) aL (mS _)
  obtain ⟨aI,aM,h⟩:=kE h
  have aJ:=idxl (H:=[]) (f:=false) (c:=kI) aM (mS _)
  rcases cn h with ⟨aF,aN,h⟩ | ⟨aF,aN,h⟩
  rotate_left
  ·have aO:=kR (cf:=evF PP T n) (fl:=0) (H:=[]) (a:=aG) (b:=aI) aF
   obtain rfl:=si h
   exact kX (some lv38) false (aB4 aA aB) (qb 25 aO<|qa 23 aJ<|qa 19 aH<|qa 14 aD<|qb 13 aE<|q0) [] [] trivial
  have aP:=kR (cf:=evF PP T n) (fl:=0) (H:=[]) (a:=aG) (b:=aI) aF
  exact nx_q (aKh aA aB (IntKind.i64.wrap (aC + 1))) (qb 25 aP<|qa 23 aJ<|qa 19 aH<|qa 14 aD<|qb 13 aE<|q0) [] [] trivial (aB2 n aA aB m (IntKind.i64.wrap (aC + 1)) r h)
def f54 : Nat→(List GPoint)→(List GPoint)→Option Bool
 | 0,_,_=>none
 | n + 1,aA,aB=>(cnd (((aA.length : Nat) : Int) != ((aB.length : Nat) : Int)) (some false) (bnd2 (wO n aA aB n 0) (fun aC=>(some false)) (fun aD=>(some true))))
theorem aSw (n : Nat) (aA : (List GPoint)) (aB : (List GPoint)) (r : Bool) (h : f54 n aA aB=some r) : pv PP T n 54 [(.sl false (List.map kI aA)),(.sl false (List.map kI aB))]=some (bv r):=by
 cases n with
 | zero=>cases h
 | succ n =>
  rw [f54] at h
  have aD:=kP (P:=PP) (cf:=evF PP T n) (fl:=0) (H:=[]) (f:=false) (c:=kI) (l:=aA)
  have aE:=kP (P:=PP) (cf:=evF PP T n) (fl:=0) (H:=[]) (f:=false) (c:=kI) (l:=aB)
  rcases cn h with ⟨aI,aC,h⟩ | ⟨aI,aC,h⟩
  ·obtain rfl:=si h
   exact pv_q F54 (qa 10 aC<|qb 9 aE<|qb 7 aD<|q0) [] []
  have aH : kV false 0 0 []:=trivial
  rcases kQ h with ⟨aJ,aF,h⟩ | ⟨aK,aF,h⟩
  ·have aG:=aB2 n aA aB n 0 _ aF
   obtain rfl:=si h
   exact pv_q F54 (qp aG<|qp aH<|qa 10 aC<|qb 9 aE<|qb 7 aD<|q0) [(.ret,aB4 aA aB)] []
  have aG:=aB2 n aA aB n 0 _ aF
  obtain rfl:=si h
  exact pv_q F54 (qp aG<|qp aH<|qa 10 aC<|qb 9 aE<|qb 7 aD<|q0) [((.exit 0),aB3 aA aB)] []
def aKg (aA : (List Int)) (aB : (List Int)) (aC : Int) : St:=⟨[(.sl false (List.map kL aA)),(.sl false (List.map kL aB)),U,U,U,(iv aC),U,U,U,U,U,U,U,U,U,U,U,U,U,U,U,U,U,U,U,U],[]⟩
def aB1 (aA : (List Int)) (aB : (List Int)) : St:=⟨[U,U,U,U,bf,U,U,U,U,U,U,U,U,U,U,U,U,U,U,U,U,U,U,U,U,U],[]⟩
def aB0 (aA : (List Int)) (aB : (List Int)) : St:=⟨[U,U,U,U,U,U,U,U,U,U,U,U,U,U,U,U,U,U,U,U,U,U,U,U,U,U],[]⟩
def wN (n : Nat) (aB : (List Int)) (aC : (List Int)) : Nat→Int→Option (Unit ⊕ Unit)
 | 0,_=>none
 | m + 1,aA=>(cnd (decide (aA < ((aB.length : Nat) : Int))) (bnd (idx aB aA) fun aD=>(bnd (idx aC aA) fun aE=>(cnd (aD != aE) (some (Sum.inl ())) (wN n aB aC m (IntKind.i64.wrap (aA + 1)))))) (some (Sum.inr ())))
theorem aBz (n : Nat) (aA : (List Int)) (aB : (List Int)) : ∀ (m : Nat) (aC : Int) (r : (Unit ⊕ Unit)),wN n aA aB m aC=some r→lT [] lv1 false 0 0 (kW (kY (some lv38) false 0 0) (evC PP (evF PP T n) n 0 bBt) m (aKg aA aB aC))=(match r with | .inl r=>some (.ret,aB1 aA aB) | .inr r=>some ((.exit 0),aB0 aA aB))
 | 0,_,_,h=>by cases h
 | m + 1,aC,r,h=>by
  rw [wN] at h
  have aE:=kP (P:=PP) (cf:=evF PP T n) (fl:=0) (H:=[]) (f:=false) (c:=kL) (l:=aA)
  rcases cn h with ⟨aI,aD,h⟩ | ⟨aI,aD,h⟩
  rotate_left
  ·obtain rfl:=si h
   exact kX (some lv38) false (aB0 aA aB) (qa 14 aD<|qb 13 aE<|q0) [] [] trivial
  obtain ⟨aM,aJ,h⟩:=kE h
  have aG:=idxl (H:=[]) (f:=false) (c:=kL) aJ (lS _)
  obtain ⟨aN,aK,h⟩:=kE h
  have aH:=idxl (H:=[]) (f:=false) (c:=kL) aK (lS _)
  rcases cn h with ⟨aL,aF,h⟩ | ⟨aL,aF,h⟩
  ·obtain rfl:=si h
   exact kX (some lv38) false (aB1 aA aB) (qa 25 aF<|qa 23 aH<|qa 19 aG<|qa 14 aD<|qb 13 aE<|q0) [] [] trivial
  exact nx_q (aKg aA aB (IntKind.i64.wrap (aC + 1))) (qa 25 aF<|qa 23 aH<|qa 19 aG<|qa 14 aD<|qb 13 aE<|q0) [] [] trivial (aBz n aA aB m (IntKind.i64.wrap (aC + 1)) r h)
def f55 : Nat→(List Int)→(List Int)→Option Bool
 | 0,_,_=>none
 | n + 1,aA,aB=>(cnd (((aA.length : Nat) : Int) != ((aB.length : Nat) : Int)) (some false) (bnd2 (wN n aA aB n 0) (fun aC=>(some false)) (fun aD=>(some true))))
theorem aSv (n : Nat) (aA : (List Int)) (aB : (List Int)) (r : Bool) (h : f55 n aA aB=some r) : pv PP T n 55 [(.sl false (List.map kL aA)),(.sl false (List.map kL aB))]=some (bv r):=by
 cases n with
 | zero=>cases h
 | succ n =>
  rw [f55] at h
  have aD:=kP (P:=PP) (cf:=evF PP T n) (fl:=0) (H:=[]) (f:=false) (c:=kL) (l:=aA)
  have aE:=kP (P:=PP) (cf:=evF PP T n) (fl:=0) (H:=[]) (f:=false) (c:=kL) (l:=aB)
  rcases cn h with ⟨aI,aC,h⟩ | ⟨aI,aC,h⟩
  ·obtain rfl:=si h
   exact pv_q F55 (qa 10 aC<|qb 9 aE<|qb 7 aD<|q0) [] []
  have aH : kV false 0 0 []:=trivial
  rcases kQ h with ⟨aJ,aF,h⟩ | ⟨aK,aF,h⟩
  ·have aG:=aBz n aA aB n 0 _ aF
   obtain rfl:=si h
   exact pv_q F55 (qp aG<|qp aH<|qa 10 aC<|qb 9 aE<|qb 7 aD<|q0) [(.ret,aB1 aA aB)] []
  have aG:=aBz n aA aB n 0 _ aF
  obtain rfl:=si h
  exact pv_q F55 (qp aG<|qp aH<|qa 10 aC<|qb 9 aE<|qb 7 aD<|q0) [((.exit 0),aB0 aA aB)] []
def f34 : Nat→GEdit→GEdit→Option Bool
 | 0,_,_=>none
 | n + 1,aA,aB=>(cnd (aA.Kind == aB.Kind) (cnd (aA.ID == aB.ID) (cnd (aA.A == aB.A) (cnd (aA.B == aB.B) (cnd (aA.C == aB.C) (cnd (decide (aA.At=aB.At)) (bnd (f54 n aA.Via aB.Via) fun aC=>(cnd (aC) (cnd (decide (aA.Name=aB.Name)) (bnd (f55 n aA.Parts aB.Parts) fun aD=>(cnd (aD) (some true) (some false))) (some false)) (some false))) (some false)) (some false)) (some false)) (some false)) (some false)) (some false))
theorem aS2 (n : Nat) (aA : GEdit) (aB : GEdit) (r : Bool) (h : f34 n aA aB=some r) : pv PP T n 34 [(.agg (kD aA)),(.agg (kD aB))]=some (bv r):=by
 cases n with
 | zero=>cases h
 | succ n =>
  rw [f34] at h
  rcases cn h with ⟨aQ,aC,h⟩ | ⟨aQ,aC,h⟩
  rotate_left
  ·obtain rfl:=si h
   exact pv_q F34 (qa 9 aC<|q0) [] []
  rcases cn h with ⟨aR,aD,h⟩ | ⟨aR,aD,h⟩
  rotate_left
  ·obtain rfl:=si h
   exact pv_q F34 (qa 15 aD<|qa 9 aC<|q0) [] []
  rcases cn h with ⟨aS,aE,h⟩ | ⟨aS,aE,h⟩
  rotate_left
  ·obtain rfl:=si h
   exact pv_q F34 (qa 22 aE<|qa 15 aD<|qa 9 aC<|q0) [] []
  rcases cn h with ⟨aT,aF,h⟩ | ⟨aT,aF,h⟩
  rotate_left
  ·obtain rfl:=si h
   exact pv_q F34 (qa 29 aF<|qa 22 aE<|qa 15 aD<|qa 9 aC<|q0) [] []
  rcases cn h with ⟨aU,aG,h⟩ | ⟨aU,aG,h⟩
  rotate_left
  ·obtain rfl:=si h
   exact pv_q F34 (qa 36 aG<|qa 29 aF<|qa 22 aE<|qa 15 aD<|qa 9 aC<|q0) [] []
  rcases cn h with ⟨aI,aV,h⟩ | ⟨aI,aV,h⟩
  rotate_left
  ·have aW:=qJ (cf:=evF PP T n) (fl:=0) (H:=(hp0 aA aB)) (a:=aA.At) (b:=aB.At) aI
   obtain rfl:=si h
   exact pv_q F34 (qb 43 aW<|qa 36 aG<|qa 29 aF<|qa 22 aE<|qa 15 aD<|qa 9 aC<|q0) [] []
  have aH:=qJ (cf:=evF PP T n) (fl:=0) (H:=(hp0 aA aB)) (a:=aA.At) (b:=aB.At) aI
  obtain ⟨ae,aN,h⟩:=kE h
  rcases cn h with ⟨aJ,aX,h⟩ | ⟨aJ,aX,h⟩
  rotate_left
  ·have aY:=by have q:=aSw n aA.Via aB.Via _ aN; rw [aJ] at q; exact q
   obtain rfl:=si h
   exact pv_q F34 (qa 50 aY<|qb 43 aH<|qa 36 aG<|qa 29 aF<|qa 22 aE<|qa 15 aD<|qa 9 aC<|q0) [] []
  have aK:=by have q:=aSw n aA.Via aB.Via _ aN; rw [aJ] at q; exact q
  rcases cn h with ⟨aL,aZ,h⟩ | ⟨aL,aZ,h⟩
  rotate_left
  ·have aa:=lL (P:=PP) (cf:=evF PP T n) (fl:=0) (H:=(hp0 aA aB)) (t:=9) aL
   obtain rfl:=si h
   exact pv_q F34 (qb 57 aa<|qa 50 aK<|qb 43 aH<|qa 36 aG<|qa 29 aF<|qa 22 aE<|qa 15 aD<|qa 9 aC<|q0) [] []
  have aO:=lL (P:=PP) (cf:=evF PP T n) (fl:=0) (H:=(hp0 aA aB)) (t:=9) aL
  obtain ⟨af,aP,h⟩:=kE h
  rcases cn h with ⟨aM,ab,h⟩ | ⟨aM,ab,h⟩
  ·have ac:=by have q:=aSv n aA.Parts aB.Parts _ aP; rw [aM] at q; exact q
   obtain rfl:=si h
   exact pv_q F34 (qa 64 ac<|qb 57 aO<|qa 50 aK<|qb 43 aH<|qa 36 aG<|qa 29 aF<|qa 22 aE<|qa 15 aD<|qa 9 aC<|q0) [] []
  have ad:=by have q:=aSv n aA.Parts aB.Parts _ aP; rw [aM] at q; exact q
  obtain rfl:=si h
  exact pv_q F34 (qa 64 ad<|qb 57 aO<|qa 50 aK<|qb 43 aH<|qa 36 aG<|qa 29 aF<|qa 22 aE<|qa 15 aD<|qa 9 aC<|q0) [] []
def aKr (aA : GTxn) (aB : GTxn) (aC : Int) : St:=⟨[U,U,(.ptr 0 1 0 0),(.ptr 1 1 0 0),U,(iv aC),U,U,U,U,U,U,U,U,U,U,U,U,U,U,U,U,U,U,U,U,U,U,U,U,U,U,U,U,U,U,U,U,U,U,U,U,U,U,U,U,U,U,U,U,U,U,U,U,U,U,U,U,U,U],[(.blk 5 [(kF aA)]),(.blk 5 [(kF aB)])]⟩
def aCh (aA : GTxn) (aB : GTxn) : St:=⟨[U,U,U,U,bf,U,U,U,U,U,U,U,U,U,U,U,U,U,U,U,U,U,U,U,U,U,U,U,U,U,U,U,U,U,U,U,U,U,U,U,U,U,U,U,U,U,U,U,U,U,U,U,U,U,U,U,U,U,U,U],[(.blk 5 [(kF aA)]),(.blk 5 [(kF aB)])]⟩
def aCg (aA : GTxn) (aB : GTxn) : St:=⟨[U,U,U,U,U,U,U,U,U,U,U,U,U,U,U,U,U,U,U,U,U,U,U,U,U,U,U,U,U,U,U,U,U,U,U,U,U,U,U,U,U,U,U,U,U,U,U,U,U,U,U,U,U,U,U,U,U,U,U,U],[(.blk 5 [(kF aA)]),(.blk 5 [(kF aB)])]⟩
def tI (n : Nat) (aB : GTxn) (aC : GTxn) : Nat→Int→Option (Unit ⊕ Unit)
 | 0,_=>none
 | m + 1,aA=>(cnd (decide (aA < ((aB.Edits.length : Nat) : Int))) (bnd (idx aB.Edits aA) fun aD=>(bnd (idx aC.Edits aA) fun aE=>(bnd (f34 n aD aE) fun aF=>(cnd (aF) (tI n aB aC m (IntKind.i64.wrap (aA + 1))) (some (Sum.inl ())))))) (some (Sum.inr ())))
theorem aCf (n : Nat) (aA : GTxn) (aB : GTxn) : ∀ (m : Nat) (aC : Int) (r : (Unit ⊕ Unit)),tI n aA aB m aC=some r→lT [] lv1 false 0 2 (kW (kY (some lv39) false 0 2) (evC PP (evF PP T n) n 0 bB8) m (aKr aA aB aC))=(match r with | .inl r=>some (.ret,aCh aA aB) | .inr r=>some ((.exit 0),aCg aA aB))
 | 0,_,_,h=>by cases h
 | m + 1,aC,r,h=>by
  rw [tI] at h
  have aE:=kP (P:=PP) (cf:=evF PP T n) (fl:=0) (H:=(hp1 aA aB)) (f:=false) (c:=kD) (l:=aA.Edits)
  rcases cn h with ⟨aL,aD,h⟩ | ⟨aL,aD,h⟩
  rotate_left
  ·obtain rfl:=si h
   exact kX (some lv39) false (aCg aA aB) (qa 45 aD<|qb 44 aE<|q0) [] [] trivial
  obtain ⟨aG,aM,h⟩:=kE h
  have aH:=idxl (H:=(hp1 aA aB)) (f:=false) (c:=kD) aM (lP _)
  obtain ⟨aI,aN,h⟩:=kE h
  have aJ:=idxl (H:=(hp1 aA aB)) (f:=false) (c:=kD) aN (lP _)
  obtain ⟨aR,aK,h⟩:=kE h
  rcases cn h with ⟨aF,aO,h⟩ | ⟨aF,aO,h⟩
  rotate_left
  ·have aP:=by have q:=aS2 n aG aI _ aK; rw [aF] at q; exact q
   obtain rfl:=si h
   exact kX (some lv39) false (aCh aA aB) (qa 58 aP<|qa 56 aJ<|qa 51 aH<|qa 45 aD<|qb 44 aE<|q0) [] [] trivial
  have aQ:=by have q:=aS2 n aG aI _ aK; rw [aF] at q; exact q
  exact nx_q (aKr aA aB (IntKind.i64.wrap (aC + 1))) (qa 58 aQ<|qa 56 aJ<|qa 51 aH<|qa 45 aD<|qb 44 aE<|q0) [] [] trivial (aCf n aA aB m (IntKind.i64.wrap (aC + 1)) r h)
def f17 : Nat→GTxn→GTxn→Option Bool
 | 0,_,_=>none
 | n + 1,aA,aB=>(cnd (aA.Office != aB.Office) (some false) (cnd (aA.Seq != aB.Seq) (some false) (cnd (aA.Time != aB.Time) (some false) (cnd (decide (aA.Source=aB.Source)) (cnd (((aA.Edits.length : Nat) : Int) != ((aB.Edits.length : Nat) : Int)) (some false) (bnd2 (tI n aA aB n 0) (fun aC=>(some false)) (fun aD=>(some true)))) (some false)))))
theorem aKq (n : Nat) (aA : GTxn) (aB : GTxn) (r : Bool) (h : f17 n aA aB=some r) : pv PP T n 17 [(.agg (kF aA)),(.agg (kF aB))]=some (bv r):=by
 cases n with
 | zero=>cases h
 | succ n =>
  rw [f17] at h
  rcases cn h with ⟨aN,aC,h⟩ | ⟨aN,aC,h⟩
  ·obtain rfl:=si h
   exact pv_q F17 (qa 10 aC<|q0) [] []
  rcases cn h with ⟨aO,aD,h⟩ | ⟨aO,aD,h⟩
  ·obtain rfl:=si h
   exact pv_q F17 (qa 16 aD<|qa 10 aC<|q0) [] []
  rcases cn h with ⟨aP,aE,h⟩ | ⟨aP,aE,h⟩
  ·obtain rfl:=si h
   exact pv_q F17 (qa 23 aE<|qa 16 aD<|qa 10 aC<|q0) [] []
  rcases cn h with ⟨aG,aQ,h⟩ | ⟨aG,aQ,h⟩
  rotate_left
  ·have aR:=lF (P:=PP) (cf:=evF PP T n) (fl:=0) (H:=(hp1 aA aB)) (t:=9) aG
   obtain rfl:=si h
   exact pv_q F17 (qb 30 aR<|qa 23 aE<|qa 16 aD<|qa 10 aC<|q0) [] []
  have aH:=lF (P:=PP) (cf:=evF PP T n) (fl:=0) (H:=(hp1 aA aB)) (t:=9) aG
  have aI:=kP (P:=PP) (cf:=evF PP T n) (fl:=0) (H:=(hp1 aA aB)) (f:=false) (c:=kD) (l:=aA.Edits)
  have aJ:=kP (P:=PP) (cf:=evF PP T n) (fl:=0) (H:=(hp1 aA aB)) (f:=false) (c:=kD) (l:=aB.Edits)
  rcases cn h with ⟨aS,aF,h⟩ | ⟨aS,aF,h⟩
  ·obtain rfl:=si h
   exact pv_q F17 (qa 39 aF<|qb 38 aJ<|qb 35 aI<|qb 30 aH<|qa 23 aE<|qa 16 aD<|qa 10 aC<|q0) [] []
  have aM : kV false 0 2 [(.blk 5 [(kF aA)]),(.blk 5 [(kF aB)])]:=trivial
  rcases kQ h with ⟨aT,aK,h⟩ | ⟨aU,aK,h⟩
  ·have aL:=aCf n aA aB n 0 _ aK
   obtain rfl:=si h
   exact pv_q F17 (qp aL<|qp aM<|qa 39 aF<|qb 38 aJ<|qb 35 aI<|qb 30 aH<|qa 23 aE<|qa 16 aD<|qa 10 aC<|q0) [(.ret,aCh aA aB)] []
  have aL:=aCf n aA aB n 0 _ aK
  obtain rfl:=si h
  exact pv_q F17 (qp aL<|qp aM<|qa 39 aF<|qb 38 aJ<|qb 35 aI<|qb 30 aH<|qa 23 aE<|qa 16 aD<|qa 10 aC<|q0) [((.exit 0),aCg aA aB)] []
def aKt (aA : (List GTxn)) (aB : (List GTxn)) (aC : Int) : St:=⟨[(.sl false (List.map kF aA)),(.sl false (List.map kF aB)),U,U,U,(iv aC),U,U,U,U,U,U,U,U,U,U,U,U,U,U,U,U,U,U,U,U,U],[]⟩
def aCk (aA : (List GTxn)) (aB : (List GTxn)) : St:=⟨[U,U,U,U,bf,U,U,U,U,U,U,U,U,U,U,U,U,U,U,U,U,U,U,U,U,U,U],[]⟩
def aCj (aA : (List GTxn)) (aB : (List GTxn)) : St:=⟨[U,U,U,U,U,U,U,U,U,U,U,U,U,U,U,U,U,U,U,U,U,U,U,U,U,U,U],[]⟩
def aCl (n : Nat) (aB : (List GTxn)) (aC : (List GTxn)) : Nat→Int→Option (Unit ⊕ Unit)
 | 0,_=>none
 | m + 1,aA=>(cnd (decide (aA < ((aB.length : Nat) : Int))) (bnd (idx aB aA) fun aD=>(bnd (idx aC aA) fun aE=>(bnd (f17 n aD aE) fun aF=>(cnd (aF) (aCl n aB aC m (IntKind.i64.wrap (aA + 1))) (some (Sum.inl ())))))) (some (Sum.inr ())))
theorem aCi (n : Nat) (aA : (List GTxn)) (aB : (List GTxn)) : ∀ (m : Nat) (aC : Int) (r : (Unit ⊕ Unit)),aCl n aA aB m aC=some r→lT [] lv1 false 0 0 (kW (kY (some lv38) false 0 0) (evC PP (evF PP T n) n 0 bCd) m (aKt aA aB aC))=(match r with | .inl r=>some (.ret,aCk aA aB) | .inr r=>some ((.exit 0),aCj aA aB))
 | 0,_,_,h=>by cases h
 | m + 1,aC,r,h=>by
  rw [aCl] at h
  have aE:=kP (P:=PP) (cf:=evF PP T n) (fl:=0) (H:=[]) (f:=false) (c:=kF) (l:=aA)
  rcases cn h with ⟨aL,aD,h⟩ | ⟨aL,aD,h⟩
  rotate_left
  ·obtain rfl:=si h
   exact kX (some lv38) false (aCj aA aB) (qa 14 aD<|qb 13 aE<|q0) [] [] trivial
  obtain ⟨aG,aM,h⟩:=kE h
  have aH:=idxl (H:=[]) (f:=false) (c:=kF) aM (kS _)
  obtain ⟨aI,aN,h⟩:=kE h
  have aJ:=idxl (H:=[]) (f:=false) (c:=kF) aN (kS _)
  obtain ⟨aR,aK,h⟩:=kE h
  rcases cn h with ⟨aF,aO,h⟩ | ⟨aF,aO,h⟩
  rotate_left
  ·have aP:=by have q:=aKq n aG aI _ aK; rw [aF] at q; exact q
   obtain rfl:=si h
   exact kX (some lv38) false (aCk aA aB) (qa 25 aP<|qa 23 aJ<|qa 19 aH<|qa 14 aD<|qb 13 aE<|q0) [] [] trivial
  have aQ:=by have q:=aKq n aG aI _ aK; rw [aF] at q; exact q
  exact nx_q (aKt aA aB (IntKind.i64.wrap (aC + 1))) (qa 25 aQ<|qa 23 aJ<|qa 19 aH<|qa 14 aD<|qb 13 aE<|q0) [] [] trivial (aCi n aA aB m (IntKind.i64.wrap (aC + 1)) r h)
def f15 : Nat→(List GTxn)→(List GTxn)→Option Bool
 | 0,_,_=>none
 | n + 1,aA,aB=>(cnd (((aA.length : Nat) : Int) != ((aB.length : Nat) : Int)) (some false) (bnd2 (aCl n aA aB n 0) (fun aC=>(some false)) (fun aD=>(some true))))
theorem aKs (n : Nat) (aA : (List GTxn)) (aB : (List GTxn)) (r : Bool) (h : f15 n aA aB=some r) : pv PP T n 15 [(.sl false (List.map kF aA)),(.sl false (List.map kF aB))]=some (bv r):=by
 cases n with
 | zero=>cases h
 | succ n =>
  rw [f15] at h
  have aD:=kP (P:=PP) (cf:=evF PP T n) (fl:=0) (H:=[]) (f:=false) (c:=kF) (l:=aA)
  have aE:=kP (P:=PP) (cf:=evF PP T n) (fl:=0) (H:=[]) (f:=false) (c:=kF) (l:=aB)
  rcases cn h with ⟨aI,aC,h⟩ | ⟨aI,aC,h⟩
  ·obtain rfl:=si h
   exact pv_q F15 (qa 10 aC<|qb 9 aE<|qb 7 aD<|q0) [] []
  have aH : kV false 0 0 []:=trivial
  rcases kQ h with ⟨aJ,aF,h⟩ | ⟨aK,aF,h⟩
  ·have aG:=aCi n aA aB n 0 _ aF
   obtain rfl:=si h
   exact pv_q F15 (qp aG<|qp aH<|qa 10 aC<|qb 9 aE<|qb 7 aD<|q0) [(.ret,aCk aA aB)] []
  have aG:=aCi n aA aB n 0 _ aF
  obtain rfl:=si h
  exact pv_q F15 (qp aG<|qp aH<|qa 10 aC<|qb 9 aE<|qb 7 aD<|q0) [((.exit 0),aCj aA aB)] []
def f10 : Nat→GOffice→GOffice→Option Bool
 | 0,_,_=>none
 | n + 1,aA,aB=>(cnd (aA.ID == aB.ID) (bnd (f15 n aA.Txns aB.Txns) fun aC=>(cnd (aC) (some true) (some false))) (some false))
theorem aS7 (n : Nat) (aA : GOffice) (aB : GOffice) (r : Bool) (h : f10 n aA aB=some r) : pv PP T n 10 [(.agg (mZ aA)),(.agg (mZ aB))]=some (bv r):=by
 cases n with
 | zero=>cases h
 | succ n =>
  rw [f10] at h
  rcases cn h with ⟨aF,aC,h⟩ | ⟨aF,aC,h⟩
  rotate_left
  ·obtain rfl:=si h
   exact pv_q F10 (qa 9 aC<|q0) [] []
  obtain ⟨aJ,aE,h⟩:=kE h
  rcases cn h with ⟨aD,aG,h⟩ | ⟨aD,aG,h⟩
  ·have aH:=by have q:=aKs n aA.Txns aB.Txns _ aE; rw [aD] at q; exact q
   obtain rfl:=si h
   exact pv_q F10 (qa 15 aH<|qa 9 aC<|q0) [] []
  have aI:=by have q:=aKs n aA.Txns aB.Txns _ aE; rw [aD] at q; exact q
  obtain rfl:=si h
  exact pv_q F10 (qa 15 aI<|qa 9 aC<|q0) [] []
end Go.Proofs.YtkdnaejhpcibnaaGreatDoor.Av
namespace Go.Proofs.YtkdnaejhpcibnaaGreatDoor.Av
open Go
def f5 (n : Nat) : Option Bool:=if 10000 ≤ n then some true else none
theorem aGo (n : Nat) (r : Bool) (h : f5 n=some r) : pv PP T n 5 []=some (.lit (.bool r)):=by
 unfold f5 at h
 split at h
 ·rename_i hn; cases h; exact aH0 hn aPw
 ·cases h
def f0 : Nat→GOffice→Int→ByteArray→(List GEdit)→Option Bool
 | 0,_,_,_,_=>none
 | n + 1,aA,aD,aB,aC=>(bnd (f3 n aA.Txns) fun aI=>(cnd (aI) (bnd (f4 n aC) fun aJ=>(cnd (aJ) (cnd (decide (((aB.size : Nat) : Int) > 100)) (bnd (f5 n ) fun aK=>(cnd (aK) (some true) (some false))) (bnd (f6 n aA aD aB aC) fun aE=>(bnd (f7 n aA aD aB aC) fun aF=>(bnd (f8 n aA.ID) fun aG=>(bnd (f9 n aA.ID) fun aH=>(bnd (f5 n ) fun aL=>(cnd (aL) (bnd (f10 n aE.1 aF.1) fun aM=>(cnd (aM) (cnd (aE.2 == aF.2) (bnd (f10 n aG.1 aH.1) fun aN=>(cnd (aN) (cnd (aG.2 == aH.2) (some true) (some false)) (some false))) (some false)) (some false))) (some false)))))))) (bnd (f5 n ) fun aO=>(cnd (aO) (some true) (some false))))) (bnd (f5 n ) fun aP=>(cnd (aP) (some true) (some false)))))
def aFa (aA : (List GTxn)) (aB : Int) (aC : Int) (aD : Int) : St:=⟨[(.sl false (List.map kF aA)),(iv aB),(iv aC),U,U,U,U,(iv aD),U,U,U,U,U,U,U,U,U,U,U,U,U,U,U,U,U,U,U,U,U,U,U],[]⟩
def aCb (aB : (List GTxn)) (aC : Int) (aD : Int) (aA : Int) : St:=⟨[U,U,U,U,U,U,(iv aA),U,U,U,U,U,U,U,U,U,U,U,U,U,U,U,U,U,U,U,U,U,U,U,U],[]⟩
def aCa (aA : (List GTxn)) (aB : Int) (aC : Int) : St:=⟨[U,U,U,U,U,U,U,U,U,U,U,U,U,U,U,U,U,U,U,U,U,U,U,U,U,U,U,U,U,U,U],[]⟩
def tE (n : Nat) (aB : (List GTxn)) (aC : Int) (aD : Int) : Nat→Int→Option (Int ⊕ Unit)
 | 0,_=>none
 | m + 1,aA=>(cnd (decide (aA < ((aB.length : Nat) : Int))) (bnd (idx aB aA) fun aE=>(cnd (aE.Office == aC) (cnd (aE.Seq == aD) (some (Sum.inl aA)) (tE n aB aC aD m (IntKind.i64.wrap (aA + 1)))) (tE n aB aC aD m (IntKind.i64.wrap (aA + 1))))) (some (Sum.inr ())))
theorem wS (n : Nat) (aA : (List GTxn)) (aB : Int) (aC : Int) : ∀ (m : Nat) (aD : Int) (r : (Int ⊕ Unit)),tE n aA aB aC m aD=some r→lT [] lv4 false 0 0 (kW (kY (some lv40) false 0 0) (evC PP (evF PP T n) n 0 bB0) m (aFa aA aB aC aD))=(match r with | .inl r=>some (.ret,aCb aA aB aC r) | .inr r=>some ((.exit 0),aCa aA aB aC))
 | 0,_,_,h=>by cases h
 | m + 1,aD,r,h=>by
  rw [tE] at h
  have aF:=kP (P:=PP) (cf:=evF PP T n) (fl:=0) (H:=[]) (f:=false) (c:=kF) (l:=aA)
  rcases cn h with ⟨aL,aE,h⟩ | ⟨aL,aE,h⟩
  rotate_left
  ·obtain rfl:=si h
   exact kX (some lv40) false (aCa aA aB aC) (qa 11 aE<|qb 10 aF<|q0) [] [] trivial
  obtain ⟨aO,aJ,h⟩:=kE h
  have aH:=idxl (H:=[]) (f:=false) (c:=kF) aJ (kS _)
  rcases cn h with ⟨aM,aG,h⟩ | ⟨aM,aG,h⟩
  rotate_left
  ·exact nx_q (aFa aA aB aC (IntKind.i64.wrap (aD + 1))) (qa 20 aG<|qa 16 aH<|qa 11 aE<|qb 10 aF<|q0) [] [] trivial (wS n aA aB aC m (IntKind.i64.wrap (aD + 1)) r h)
  have aK:=idxl (H:=[]) (f:=false) (c:=kF) aJ (kS _)
  rcases cn h with ⟨aN,aI,h⟩ | ⟨aN,aI,h⟩
  ·obtain rfl:=si h
   exact kX (some lv40) false (aCb aA aB aC aD) (qa 28 aI<|qa 24 aK<|qa 20 aG<|qa 16 aH<|qa 11 aE<|qb 10 aF<|q0) [] [] trivial
  exact nx_q (aFa aA aB aC (IntKind.i64.wrap (aD + 1))) (qa 28 aI<|qa 24 aK<|qa 20 aG<|qa 16 aH<|qa 11 aE<|qb 10 aF<|q0) [] [] trivial (wS n aA aB aC m (IntKind.i64.wrap (aD + 1)) r h)
def f29 : Nat→(List GTxn)→Int→Int→Option Int
 | 0,_,_,_=>none
 | n + 1,aA,aB,aC=>(bnd2 (tE n aA aB aC n 0) (fun aD=>(some aD)) (fun aE=>(some (-1))))
theorem aYw (n : Nat) (aA : (List GTxn)) (aB : Int) (aC : Int) (r : Int) (h : f29 n aA aB aC=some r) : pv PP T n 29 [(.sl false (List.map kF aA)),(iv aB),(iv aC)]=some (iv r):=by
 cases n with
 | zero=>cases h
 | succ n =>
  rw [f29] at h
  have aF : kV false 0 0 []:=trivial
  rcases kQ h with ⟨aG,aD,h⟩ | ⟨aH,aD,h⟩
  rotate_left
  ·have aE:=wS n aA aB aC n 0 _ aD
   obtain rfl:=si h
   exact pv_q F29 (qp aE<|qp aF<|q0) [((.exit 0),aCa aA aB aC)] []
  have aE:=wS n aA aB aC n 0 _ aD
  obtain rfl:=si h
  exact pv_q F29 (qp aE<|qp aF<|q0) [(.ret,aCb aA aB aC aG)] []
def aFf (aB : (List GTxn)) (aA : GOffice) (aC : (List GTxn)) (aD : Int) : St:=⟨[U,(.sl false (List.map kF aB)),U,U,(.ptr 1 1 0 0),U,(.ptr 2 1 0 0),(iv aD),U,U,U,U,U,U,U,U,U,U,U,U,U,U,U,U,U,U,U,U,U,U,U,U,U,U,U,U,U,U,U,U,U,U,U,U,U,U,U,U,U,U,U,U,U,U,U,U,U,U,U,U,U,U,U,U,U,U,U,U,U,U,U,U,U,U,U,U,U],[(.blk 2 [[(iv aA.ID),(.sl false (List.map kF aA.Txns))]]),(.blk 2 [[(iv 0),(.lit nilS)]]),(.blk 2 [[(iv aA.ID),(.sl false (List.map kF aC))]])]⟩
def tL (aD : (List GTxn)) (aA : GOffice) (aB : (List GTxn)) (aC : Int) : St:=⟨[U,U,U,U,(.ptr 1 1 0 0),(iv aC),U,U,U,U,U,U,U,U,U,U,U,U,U,U,U,U,U,U,U,U,U,U,U,U,U,U,U,U,U,U,U,U,U,U,U,U,U,U,U,U,U,U,U,U,U,U,U,U,U,U,U,U,U,U,U,U,U,U,U,U,U,U,U,U,U,U,U,U,U,U,U],[(.blk 2 [[(iv aA.ID),(.sl false (List.map kF aA.Txns))]]),(.blk 2 [[(iv 0),(.lit nilS)]]),(.blk 2 [[(iv aA.ID),(.sl false (List.map kF aB))]])]⟩
def aCm (aC : (List GTxn)) (aA : GOffice) (aB : (List GTxn)) : St:=⟨[U,U,U,U,(.ptr 1 1 0 0),U,(.ptr 2 1 0 0),U,U,U,U,U,U,U,U,U,U,U,U,U,U,U,U,U,U,U,U,U,U,U,U,U,U,U,U,U,U,U,U,U,U,U,U,U,U,U,U,U,U,U,U,U,U,U,U,U,U,U,U,U,U,U,U,U,U,U,U,U,U,U,U,U,U,U,U,U,U],[(.blk 2 [[(iv aA.ID),(.sl false (List.map kF aA.Txns))]]),(.blk 2 [[(iv 0),(.lit nilS)]]),(.blk 2 [[(iv aA.ID),(.sl false (List.map kF aB))]])]⟩
abbrev hp90 (a6945 : GOffice) (l6992 : (List GTxn)) : Heap:=[(.blk 2 [[(iv a6945.ID),(.sl false (List.map kF a6945.Txns))]]),(.blk 2 [[(iv 0),(.lit nilS)]]),(.blk 2 [[(iv a6945.ID),(.sl false (List.map kF l6992))]])]
def tM (n : Nat) (aC : (List GTxn)) (aE : GOffice) : Nat→(List GTxn)→Int→Option (((List GTxn) × Int) ⊕ (List GTxn))
 | 0,_,_=>none
 | m + 1,aA,aD=>(cnd (decide (aD < ((aC.length : Nat) : Int))) (bnd (idx aC aD) fun aB=>(bnd (f26 n aB) fun aF=>(cnd (aF != 0) (some (Sum.inl (aA,aF))) (bnd (f29 n aA aB.Office aB.Seq) fun aG=>(cnd (decide (aG ≥ 0)) (bnd (idx aA aG) fun aH=>(bnd (f17 n aH aB) fun aI=>(cnd (aI) (tM n aC aE m aA (IntKind.i64.wrap (aD + 1))) (some (Sum.inl (aA,16)))))) (cnd (decide (((aA.length : Nat) : Int) ≥ 256)) (some (Sum.inl (aA,3))) (bnd (f27 n aA aB) fun aJ=>(tM n aC aE m aJ (IntKind.i64.wrap (aD + 1)))))))))) (some (Sum.inr aA)))
theorem xB (n : Nat) (aC : (List GTxn)) (aA : GOffice) : ∀ (m : Nat) (aB : (List GTxn)) (aD : Int) (r : (((List GTxn) × Int) ⊕ (List GTxn))),tM n aC aA m aB aD=some r→lT lv26 lv27 false 0 3 (kW (kY (some lv41) false 0 3) (evC PP (evF PP T n) n 0 bC6) m (aFf aC aA aB aD))=(match r with | .inl r=>some (.ret,tL aC aA r.1 r.2) | .inr r=>some ((.exit 0),aCm aC aA r))
 | 0,_,_,_,h=>by cases h
 | m + 1,aB,aD,r,h=>by
  rw [tM] at h
  have aF:=kP (P:=PP) (cf:=evF PP T n) (fl:=0) (H:=(hp90 aA aB)) (f:=false) (c:=kF) (l:=aC)
  rcases cn h with ⟨aX,aE,h⟩ | ⟨aX,aE,h⟩
  rotate_left
  ·obtain rfl:=si h
   exact kX (some lv41) false (aCm aC aA aB) (qa 24 aE<|qb 23 aF<|q0) [] [] trivial
  obtain ⟨aG,aI,h⟩:=kE h
  have aJ:=idxl (H:=(hp90 aA aB)) (f:=false) (c:=kF) aI (kS _)
  obtain ⟨aY,aZ,h⟩:=kE h
  have aK:=aS3 n aG _ aZ
  rcases cn h with ⟨aa,aH,h⟩ | ⟨aa,aH,h⟩
  ·obtain rfl:=si h
   exact kX (some lv41) false (tL aC aA aB aY) (qa 33 aH<|qa 31 aK<|qa 29 aJ<|qa 24 aE<|qb 23 aF<|q0) [] [none] trivial
  have aM:=idxl (H:=(hp90 aA aB)) (f:=false) (c:=kF) aI (kS _)
  have aN:=idxl (H:=(hp90 aA aB)) (f:=false) (c:=kF) aI (kS _)
  obtain ⟨al,ab,h⟩:=kE h
  have aO:=aYw n aB aG.Office aG.Seq _ ab
  rcases cn h with ⟨ac,aL,h⟩ | ⟨ac,aL,h⟩
  rotate_left
  ·have aR:=kP (P:=PP) (cf:=evF PP T n) (fl:=0) (H:=(hp90 aA aB)) (f:=false) (c:=kF) (l:=aB)
   rcases cn h with ⟨ad,aP,h⟩ | ⟨ad,aP,h⟩
   ·obtain rfl:=si h
    exact kX (some lv41) false (tL aC aA aB 3) (qa 66 aP<|qb 65 aR<|qa 50 aL<|qa 48 aO<|qa 45 aN<|qa 40 aM<|qa 33 aH<|qa 31 aK<|qa 29 aJ<|qa 24 aE<|qb 23 aF<|q0) [] [none] trivial
   have ae:=idxl (H:=(hp90 aA aB)) (f:=false) (c:=kF) aI (kS _)
   obtain ⟨aS,af,h⟩:=kE h
   have ag:=aYx n aB aG _ af
   exact nx_q (aFf aC aA aS (IntKind.i64.wrap (aD + 1))) (qa 74 ag<|qa 72 ae<|qa 66 aP<|qb 65 aR<|qa 50 aL<|qa 48 aO<|qa 45 aN<|qa 40 aM<|qa 33 aH<|qa 31 aK<|qa 29 aJ<|qa 24 aE<|qb 23 aF<|q0) [] [none] trivial (xB n aC aA m aS (IntKind.i64.wrap (aD + 1)) r h)
  obtain ⟨aT,ah,h⟩:=kE h
  have aU:=idxl (H:=(hp90 aA aB)) (f:=false) (c:=kF) ah (kS _)
  have aV:=idxl (H:=(hp90 aA aB)) (f:=false) (c:=kF) aI (kS _)
  obtain ⟨am,aW,h⟩:=kE h
  rcases cn h with ⟨aQ,ai,h⟩ | ⟨aQ,ai,h⟩
  rotate_left
  ·have aj:=by have q:=aKq n aT aG _ aW; rw [aQ] at q; exact q
   obtain rfl:=si h
   exact kX (some lv41) false (tL aC aA aB 16) (qa 60 aj<|qa 58 aV<|qa 54 aU<|qa 50 aL<|qa 48 aO<|qa 45 aN<|qa 40 aM<|qa 33 aH<|qa 31 aK<|qa 29 aJ<|qa 24 aE<|qb 23 aF<|q0) [] [none] trivial
  have ak:=by have q:=aKq n aT aG _ aW; rw [aQ] at q; exact q
  exact nx_q (aFf aC aA aB (IntKind.i64.wrap (aD + 1))) (qa 60 ak<|qa 58 aV<|qa 54 aU<|qa 50 aL<|qa 48 aO<|qa 45 aN<|qa 40 aM<|qa 33 aH<|qa 31 aK<|qa 29 aJ<|qa 24 aE<|qb 23 aF<|q0) [] [] trivial (xB n aC aA m aB (IntKind.i64.wrap (aD + 1)) r h)
def f12 : Nat→GOffice→(List GTxn)→Option (GOffice × Int)
 | 0,_,_=>none
 | n + 1,aA,aB=>(bnd (f25 n aA) fun aC=>(cnd (aC) (bnd (app ([] : List GTxn) aA.Txns) fun aD=>(bnd2 (tM n aB aA n aD 0) (fun aE=>(some ((GOffice.mk 0 []),aE.2))) (fun aF=>(some ((GOffice.mk aA.ID aF),0))))) (some ((GOffice.mk 0 []),19))))
theorem aY1 (n : Nat) (aA : GOffice) (aB : (List GTxn)) (r : (GOffice × Int)) (h : f12 n aA aB=some r) : pv PP T n 12 [(.agg (mZ aA)),(.sl false (List.map kF aB))]=some (.tup [(.agg (mZ r.1)),(iv r.2)]):=by
 cases n with
 | zero=>cases h
 | succ n =>
  rw [f12] at h
  obtain ⟨aP,aG,h⟩:=kE h
  rcases cn h with ⟨aC,aL,h⟩ | ⟨aC,aL,h⟩
  rotate_left
  ·have aM:=by have q:=aS4 n aA _ aG; rw [aC] at q; exact q
   obtain rfl:=si h
   exact pv_q F12 (qa 11 aM<|q0) [] [none]
  have aH:=by have q:=aS4 n aA _ aG; rw [aC] at q; exact q
  obtain ⟨aD,aN,h⟩:=kE h
  have aI:=aRy (P:=PP) (cf:=evF PP T n) (fl:=0) (H:=(hp30 aA)) (s:=5) (bytes:=64) (c:=kF) (f:=false) aN kS (by omega) (by omega) aMa
  have aJ : kV false 0 3 [(.blk 2 [[(iv aA.ID),(.sl false (List.map kF aA.Txns))]]),(.blk 2 [[(iv 0),(.lit nilS)]]),(.blk 2 [[(iv aA.ID),(.sl false (List.map kF aD))]])]:=trivial
  rcases kQ h with ⟨aK,aE,h⟩ | ⟨aO,aE,h⟩
  ·have aF:=xB n aB aA n aD 0 _ aE
   obtain rfl:=si h
   exact pv_q F12 (qp aF<|qp aJ<|qb 19 aI<|qa 11 aH<|q0) [(.ret,tL aB aA aK.1 aK.2)] [none]
  have aF:=xB n aB aA n aD 0 _ aE
  obtain rfl:=si h
  exact pv_q F12 (qp aF<|qp aJ<|qb 19 aI<|qa 11 aH<|q0) [((.exit 0),aCm aB aA aO)] [none,none]
def f79 : Nat→GClock→Int→Option Int
 | 0,_,_=>none
 | n + 1,aB,aA=>(cnd (decide (aA < 1)) (some 0) (cnd (decide (aA > 8)) (some 0) (cnd (decide (aA > ((aB.Counts.length : Nat) : Int))) (some 0) (bnd (idx aB.Counts (IntKind.i64.wrap (aA - 1))) fun aC=>(some (imax 0 aC))))))
theorem aXq (n : Nat) (aA : GClock) (aE : Int) (r : Int) (h : f79 n aA aE=some r) : pv PP T n 79 [(.agg (oS aA)),(iv aE)]=some (iv r):=by
 cases n with
 | zero=>cases h
 | succ n =>
  rw [f79] at h
  rcases cn h with ⟨aG,aB,h⟩ | ⟨aG,aB,h⟩
  ·obtain rfl:=si h
   exact pv_q F79 (qa 6 aB<|q0) [] []
  rcases cn h with ⟨aH,aC,h⟩ | ⟨aH,aC,h⟩
  ·obtain rfl:=si h
   exact pv_q F79 (qa 9 aC<|qa 6 aB<|q0) [] []
  have aF:=kP (P:=PP) (cf:=evF PP T n) (fl:=0) (H:=(hp50 aA)) (f:=false) (c:=kL) (l:=aA.Counts)
  rcases cn h with ⟨aI,aD,h⟩ | ⟨aI,aD,h⟩
  ·obtain rfl:=si h
   exact pv_q F79 (qa 16 aD<|qb 15 aF<|qa 9 aC<|qa 6 aB<|q0) [] []
  obtain ⟨aJ,aK,h⟩:=kE h
  have aL:=idxl (H:=(hp50 aA)) (f:=false) (c:=kL) aK (lS _)
  have aM:=aWl (P:=PP) (cf:=evF PP T n) (fl:=0) (H:=(hp50 aA)) (a:=0) (b:=aJ)
  obtain rfl:=si h
  exact pv_q F79 (qb 24 aM<|qa 22 aL<|qa 16 aD<|qb 15 aF<|qa 9 aC<|qa 6 aB<|q0) [] []
def f53 : Nat→GClock→Int→Int→Option Bool
 | 0,_,_,_=>none
 | n + 1,aB,aC,aA=>(cnd (decide (aA ≥ 1)) (bnd (f79 n aB aC) fun aD=>(cnd (decide (aA ≤ aD)) (some true) (some false))) (some false))
theorem aSx (n : Nat) (aB : GClock) (aC : Int) (aE : Int) (r : Bool) (h : f53 n aB aC aE=some r) : pv PP T n 53 [(.agg (oS aB)),(iv aC),(iv aE)]=some (bv r):=by
 cases n with
 | zero=>cases h
 | succ n =>
  rw [f53] at h
  rcases cn h with ⟨aG,aA,h⟩ | ⟨aG,aA,h⟩
  rotate_left
  ·obtain rfl:=si h
   exact pv_q F53 (qa 8 aA<|q0) [] []
  obtain ⟨aJ,aH,h⟩:=kE h
  have aF:=aXq n aB aC _ aH
  rcases cn h with ⟨aI,aD,h⟩ | ⟨aI,aD,h⟩
  ·obtain rfl:=si h
   exact pv_q F53 (qa 14 aD<|qa 13 aF<|qa 8 aA<|q0) [] []
  obtain rfl:=si h
  exact pv_q F53 (qa 14 aD<|qa 13 aF<|qa 8 aA<|q0) [] []
def aE9 (aB : (List GTxn)) (aC : GClock) (aA : (List GTxn)) (aD : Int) : St:=⟨[U,(.sl false (List.map kF aB)),(.ptr 0 1 0 0),U,U,(.ms 1 aA.length 0 aA.length),(iv aD),U,U,U,U,U,U,U,U,U,U,U,U,U,U,U,U,U,U,U,U,U,U,U,U,U,U,U],[(.blk 1 [[(.sl false (List.map kL aC.Counts))]]),(.blk 5 (List.map kF aA))]⟩
def aB9 (aC : (List GTxn)) (aB : GClock) (aA : (List GTxn)) : St:=⟨[U,U,U,U,U,(.ms 1 aA.length 0 aA.length),U,U,U,U,U,U,U,U,U,U,U,U,U,U,U,U,U,U,U,U,U,U,U,U,U,U,U,U],[(.blk 1 [[(.sl false (List.map kL aB.Counts))]]),(.blk 5 (List.map kF aA))]⟩
def yW (n : Nat) (aA : (List GTxn)) (aC : GClock) : Nat→(List GTxn)→Int→Option (List GTxn)
 | 0,_,_=>none
 | m + 1,aD,aB=>(cnd (decide (aB < ((aA.length : Nat) : Int))) (bnd (idx aA aB) fun aE=>(bnd (f53 n aC aE.Office aE.Seq) fun aF=>(cnd (aF) (yW n aA aC m aD (IntKind.i64.wrap (aB + 1))) (bnd (app aD [aE]) fun aG=>(yW n aA aC m aG (IntKind.i64.wrap (aB + 1))))))) (some aD))
theorem aB8 (n : Nat) (aC : (List GTxn)) (aA : GClock) : ∀ (m : Nat) (aB : (List GTxn)) (aD : Int) (r : (List GTxn)),yW n aC aA m aB aD=some r→lT lv43 lv1 false 0 2 (kW (kY (some lv42) false 0 2) (evC PP (evF PP T n) n 0 bBy) m (aE9 aC aA aB aD))=some ((.exit 0),aB9 aC aA r)
 | 0,_,_,_,h=>by cases h
 | m + 1,aB,aD,r,h=>by
  rw [yW] at h
  have aG:=kP (P:=PP) (cf:=evF PP T n) (fl:=0) (H:=(hp54 aA aB)) (f:=false) (c:=kF) (l:=aC)
  rcases cn h with ⟨aN,aE,h⟩ | ⟨aN,aE,h⟩
  rotate_left
  ·obtain rfl:=si h
   exact kX (some lv42) false (aB9 aC aA aB) (qa 10 aE<|qb 9 aG<|q0) [] [] trivial
  obtain ⟨aF,aH,h⟩:=kE h
  have aJ:=idxl (H:=(hp54 aA aB)) (f:=false) (c:=kF) aH (kS _)
  have aK:=idxl (H:=(hp54 aA aB)) (f:=false) (c:=kF) aH (kS _)
  obtain ⟨aU,aL,h⟩:=kE h
  rcases cn h with ⟨aI,aO,h⟩ | ⟨aI,aO,h⟩
  ·have aP:=by have q:=aSx n aA aF.Office aF.Seq _ aL; rw [aI] at q; exact q
   exact nx_q (aE9 aC aA aB (IntKind.i64.wrap (aD + 1))) (qa 24 aP<|qa 21 aK<|qa 16 aJ<|qa 10 aE<|qb 9 aG<|q0) [] [] trivial (aB8 n aC aA m aB (IntKind.i64.wrap (aD + 1)) r h)
  have aQ:=by have q:=aSx n aA aF.Office aF.Seq _ aL; rw [aI] at q; exact q
  have aR:=idxl (H:=(hp54 aA aB)) (f:=false) (c:=kF) aH (kS _)
  obtain ⟨aM,aS,h⟩:=kE h
  have aT:=xM (fl:=0) (H:=(hp54 aA aB)) (id:=1) (s:=5) (bytes:=64) (c:=kF) (l:=aB) aS rfl kS (by omega) (by omega) (by omega)
  exact nx_q (aE9 aC aA aM (IntKind.i64.wrap (aD + 1))) (qc 32 aT<|qa 29 aR<|qa 24 aQ<|qa 21 aK<|qa 16 aJ<|qa 10 aE<|qb 9 aG<|q0) [] [] trivial (aB8 n aC aA m aM (IntKind.i64.wrap (aD + 1)) r h)
def f31 : Nat→GClock→(List GTxn)→Option (List GTxn)
 | 0,_,_=>none
 | n + 1,aA,aB=>(bnd (yW n aB aA n [] 0) fun aC=>(some aC))
theorem aYu (n : Nat) (aB : GClock) (aC : (List GTxn)) (r : (List GTxn)) (h : f31 n aB aC=some r) : pv PP T n 31 [(.agg (oS aB)),(.sl false (List.map kF aC))]=some (.sl false (List.map kF r)):=by
 cases n with
 | zero=>cases h
 | succ n =>
  rw [f31] at h
  have aD : kV false 0 2 [(.blk 1 [[(.sl false (List.map kL aB.Counts))]]),(.blk 5 (List.map kF []))]:=trivial
  obtain ⟨aA,aE,h⟩:=kE h
  have aF:=aB8 n aC aB n [] 0 _ aE
  obtain rfl:=si h
  refine uO (kT F31 (qp aF<|qp aD<|q0) [((.exit 0),aB9 aC aB aA)] [] (r:=(.ms 1 aA.length 0 aA.length)) (H':=(hp54 aB aA))) ?_
  show (mV (hp54 aB aA) 0 (.ms 1 aA.length 0 aA.length))=_
  rw [oJ (H:=(hp54 aB aA)) (id:=1) (s:=5) (c:=kF) (l:=aA) rfl (pZ _ _ _)]
  first | done | rfl
def f14 : Nat→GOffice→GClock→Option (List GTxn)
 | 0,_,_=>none
 | n + 1,aA,aB=>(bnd (f31 n aB aA.Txns) fun aC=>(some aC))
theorem aYz (n : Nat) (aA : GOffice) (aB : GClock) (r : (List GTxn)) (h : f14 n aA aB=some r) : pv PP T n 14 [(.agg (mZ aA)),(.agg (oS aB))]=some (.sl false (List.map kF r)):=by
 cases n with
 | zero=>cases h
 | succ n =>
  rw [f14] at h
  obtain ⟨aE,aC,h⟩:=kE h
  have aD:=aYu n aB aA.Txns _ aC
  obtain rfl:=si h
  exact pv_q F14 (qa 8 aD<|q0) [] []
def f1 : Nat→GOffice→(List GTxn)→GClock→Option Bool
 | 0,_,_,_=>none
 | n + 1,aA,aB,aC=>(bnd (f3 n aA.Txns) fun aF=>(cnd (aF) (bnd (f3 n aB) fun aG=>(cnd (aG) (cnd (decide (((aC.Counts.length : Nat) : Int) > 20)) (bnd (f5 n ) fun aH=>(cnd (aH) (some true) (some false))) (bnd (f11 n aA aB) fun aD=>(bnd (f12 n aA aB) fun aE=>(bnd (f5 n ) fun aI=>(cnd (aI) (bnd (f10 n aD.1 aE.1) fun aJ=>(cnd (aJ) (cnd (aD.2 == aE.2) (bnd (f13 n aA aC) fun aK=>(bnd (f14 n aA aC) fun aL=>(bnd (f15 n aK aL) fun aM=>(cnd (aM) (some true) (some false))))) (some false)) (some false))) (some false)))))) (bnd (f5 n ) fun aN=>(cnd (aN) (some true) (some false))))) (bnd (f5 n ) fun aO=>(cnd (aO) (some true) (some false)))))
theorem bDy (n : Nat) (aA : GOffice) (aF : (List GTxn)) (aG : GClock) (r : Bool) (h : f1 n aA aF aG=some r) : pv PP T n 1 [(.agg (mZ aA)),(.sl false (List.map kF aF)),(.agg (oS aG))]=some (bv r):=by
 cases n with
 | zero=>cases h
 | succ n =>
  rw [f1] at h
  obtain ⟨bK,aU,h⟩:=kE h
  rcases cn h with ⟨aL,ak,h⟩ | ⟨aL,ak,h⟩
  rotate_left
  ·have aV:=by have q:=aRe n aA.Txns _ aU; rw [aL] at q; exact q
   obtain ⟨bL,aW,h⟩:=kE h
   rcases cn h with ⟨aM,al,h⟩ | ⟨aM,al,h⟩
   ·have am:=by have q:=aGo n  _ aW; rw [aM] at q; exact q
    obtain rfl:=si h
    exact pv_q F1 (qa 26 am<|qa 13 aV<|q0) [] []
   have an:=by have q:=aGo n  _ aW; rw [aM] at q; exact q
   obtain rfl:=si h
   exact pv_q F1 (qa 26 an<|qa 13 aV<|q0) [] []
  have aB:=by have q:=aRe n aA.Txns _ aU; rw [aL] at q; exact q
  obtain ⟨bM,aX,h⟩:=kE h
  rcases cn h with ⟨aN,ao,h⟩ | ⟨aN,ao,h⟩
  rotate_left
  ·have aY:=by have q:=aRe n aF _ aX; rw [aN] at q; exact q
   obtain ⟨bN,aZ,h⟩:=kE h
   rcases cn h with ⟨aO,ap,h⟩ | ⟨aO,ap,h⟩
   ·have aq:=by have q:=aGo n  _ aZ; rw [aO] at q; exact q
    obtain rfl:=si h
    exact pv_q F1 (qa 26 aq<|qa 17 aY<|qa 13 aB<|q0) [] []
   have ar:=by have q:=aGo n  _ aZ; rw [aO] at q; exact q
   obtain rfl:=si h
   exact pv_q F1 (qa 26 ar<|qa 17 aY<|qa 13 aB<|q0) [] []
  have aD:=by have q:=aRe n aF _ aX; rw [aN] at q; exact q
  have aE:=kP (P:=PP) (cf:=evF PP T n) (fl:=0) (H:=(hp62 aA aG)) (f:=false) (c:=kL) (l:=aG.Counts)
  rcases cn h with ⟨au,aC,h⟩ | ⟨au,aC,h⟩
  ·obtain ⟨bO,aa,h⟩:=kE h
   rcases cn h with ⟨aP,av,h⟩ | ⟨aP,av,h⟩
   ·have aw:=by have q:=aGo n  _ aa; rw [aP] at q; exact q
    obtain rfl:=si h
    exact pv_q F1 (qa 26 aw<|qa 24 aC<|qb 23 aE<|qa 17 aD<|qa 13 aB<|q0) [] []
   have ax:=by have q:=aGo n  _ aa; rw [aP] at q; exact q
   obtain rfl:=si h
   exact pv_q F1 (qa 26 ax<|qa 24 aC<|qb 23 aE<|qa 17 aD<|qa 13 aB<|q0) [] []
  obtain ⟨ab,ay,h⟩:=kE h
  have aH:=aY2 n aA aF _ ay
  obtain ⟨ac,az,h⟩:=kE h
  have aI:=aY1 n aA aF _ az
  obtain ⟨bP,ad,h⟩:=kE h
  rcases cn h with ⟨aQ,bA,h⟩ | ⟨aQ,bA,h⟩
  rotate_left
  ·have bB:=by have q:=aGo n  _ ad; rw [aQ] at q; exact q
   obtain rfl:=si h
   exact pv_q F1 (qa 39 bB<|qa 36 aI<|qa 30 aH<|qa 24 aC<|qb 23 aE<|qa 17 aD<|qa 13 aB<|q0) [] [none,none]
  have aJ:=by have q:=aGo n  _ ad; rw [aQ] at q; exact q
  obtain ⟨bQ,ae,h⟩:=kE h
  rcases cn h with ⟨aR,bC,h⟩ | ⟨aR,bC,h⟩
  rotate_left
  ·have bD:=by have q:=aS7 n ab.1 ac.1 _ ae; rw [aR] at q; exact q
   obtain rfl:=si h
   exact pv_q F1 (qa 43 bD<|qa 39 aJ<|qa 36 aI<|qa 30 aH<|qa 24 aC<|qb 23 aE<|qa 17 aD<|qa 13 aB<|q0) [] [none,none]
  have aS:=by have q:=aS7 n ab.1 ac.1 _ ae; rw [aR] at q; exact q
  rcases cn h with ⟨bE,aK,h⟩ | ⟨bE,aK,h⟩
  rotate_left
  ·obtain rfl:=si h
   exact pv_q F1 (qa 48 aK<|qa 43 aS<|qa 39 aJ<|qa 36 aI<|qa 30 aH<|qa 24 aC<|qb 23 aE<|qa 17 aD<|qa 13 aB<|q0) [] [none,none]
  obtain ⟨af,bF,h⟩:=kE h
  have ag:=aY0 n aA aG _ bF
  obtain ⟨ah,bG,h⟩:=kE h
  have ai:=aYz n aA aG _ bG
  obtain ⟨bR,aj,h⟩:=kE h
  rcases cn h with ⟨aT,bH,h⟩ | ⟨aT,bH,h⟩
  ·have bI:=by have q:=aKs n af ah _ aj; rw [aT] at q; exact q
   obtain rfl:=si h
   exact pv_q F1 (qa 57 bI<|qa 56 ai<|qa 53 ag<|qa 48 aK<|qa 43 aS<|qa 39 aJ<|qa 36 aI<|qa 30 aH<|qa 24 aC<|qb 23 aE<|qa 17 aD<|qa 13 aB<|q0) [] [none,none]
  have bJ:=by have q:=aKs n af ah _ aj; rw [aT] at q; exact q
  obtain rfl:=si h
  exact pv_q F1 (qa 57 bJ<|qa 56 ai<|qa 53 ag<|qa 48 aK<|qa 43 aS<|qa 39 aJ<|qa 36 aI<|qa 30 aH<|qa 24 aC<|qb 23 aE<|qa 17 aD<|qa 13 aB<|q0) [] [none,none]
def aRg (n : Nat) (aC : Int) (aD : GOffice) (aA : GOffice) (aE : (GOffice × Int)) (aF : (GOffice × Int)) : Nat→Int→Option (Bool ⊕ Unit)
 | 0,_=>none
 | m + 1,aB=>(cnd (decide (aB < ((aA.Txns.length : Nat) : Int))) (bnd (idx aD.Txns aC) fun aG=>(bnd (idx aA.Txns aB) fun aH=>(cnd (aG.Office == aH.Office) (cnd (aG.Seq == aH.Seq) (bnd (f17 n aG aH) fun aI=>(cnd (aI) (aRg n aC aD aA aE aF m (IntKind.i64.wrap (aB + 1))) (bnd (f5 n ) fun aJ=>(cnd (aJ) (some (Sum.inl true)) (some (Sum.inl false)))))) (aRg n aC aD aA aE aF m (IntKind.i64.wrap (aB + 1)))) (aRg n aC aD aA aE aF m (IntKind.i64.wrap (aB + 1)))))) (some (Sum.inr ())))
def aYv (n : Nat) (aA : GOffice) (aC : GOffice) (aD : (GOffice × Int)) (aE : (GOffice × Int)) : Nat→Int→Option (Bool ⊕ Unit)
 | 0,_=>none
 | m + 1,aB=>(cnd (decide (aB < ((aA.Txns.length : Nat) : Int))) (bnd2 (aRg n aB aA aC aD aE n 0) (fun aF=>(some (Sum.inl aF))) (fun aG=>(aYv n aA aC aD aE m (IntKind.i64.wrap (aB + 1))))) (some (Sum.inr ())))
def f2 : Nat→GOffice→GOffice→Option Bool
 | 0,_,_=>none
 | n + 1,aA,aB=>(cnd (decide (((aA.Txns.length : Nat) : Int) > 7)) (bnd (f5 n ) fun aE=>(cnd (aE) (some true) (some false))) (cnd (decide (((aB.Txns.length : Nat) : Int) > 7)) (bnd (f5 n ) fun aF=>(cnd (aF) (some true) (some false))) (bnd (f3 n aA.Txns) fun aG=>(cnd (aG) (bnd (f3 n aB.Txns) fun aH=>(cnd (aH) (bnd (f16 n aA.Txns) fun aI=>(bnd (f13 n aB aI) fun aJ=>(bnd (f11 n aA aJ) fun aC=>(bnd (f16 n aB.Txns) fun aK=>(bnd (f13 n aA aK) fun aL=>(bnd (f11 n aB aL) fun aD=>(cnd (aC.2 != 0) (bnd (f5 n ) fun aM=>(cnd (aM) (cnd ((IntKind.i64.wrap (((aC.1.Txns.length : Nat) : Int) * ((aD.1.Txns.length : Nat) : Int))) == 0) (some true) (some false)) (some false))) (cnd (aD.2 != 0) (bnd (f5 n ) fun aN=>(cnd (aN) (cnd ((IntKind.i64.wrap (((aC.1.Txns.length : Nat) : Int) * ((aD.1.Txns.length : Nat) : Int))) == 0) (some true) (some false)) (some false))) (bnd2 (aYv n aA aB aC aD n 0) (fun aO=>(some aO)) (fun aT=>(bnd (f5 n ) fun aP=>(cnd (aP) (bnd (f15 n aC.1.Txns aD.1.Txns) fun aQ=>(cnd (aQ) (some true) (some false))) (some false))))))))))))) (bnd (f5 n ) fun aR=>(cnd (aR) (some true) (some false))))) (bnd (f5 n ) fun aS=>(cnd (aS) (some true) (some false)))))))
end Go.Proofs.YtkdnaejhpcibnaaGreatDoor.Av
namespace Go.Proofs.YtkdnaejhpcibnaaGreatDoor.Av
open Go Go.Proofs
set_option maxRecDepth 100000
theorem aMn {P : Program} {n : Nat} {a b c : TypeId} {xs : List AV} (h : zS P n [a,b,c] xs) : ∃ x y z,xs=[x,y,z]∧(∃ ys,nV P n a ys∧x=yI P a ys)∧(∃ ys,nV P n b ys∧y=yI P b ys)∧(∃ ys,nV P n c ys∧z=yI P c ys) :=
 match xs,h with
 | [x,y,z],⟨h1,h2,h3,_⟩=>⟨x,y,z,rfl,h1,h2,h3⟩
theorem mY {n : Nat} {t : TypeId} {ys : List AV} (hu : PP.underlying t=some (.int .i64)) (h : nV PP (n + 1) t ys) : ∃ z,ys=[.lit (.int .i64 z)]:=by
 unfold nV at h
 rw [hu] at h
 exact h.imp fun z hz=>hz.2
theorem aFw {n : Nat} {t : TypeId} {ys : List AV} (hu : PP.underlying t=some .string) (h : nV PP (n + 1) t ys) : ∃ z,ys=[.lit (.string z)]:=by
 unfold nV at h
 rw [hu] at h
 exact h.imp fun z hz=>hz.2
theorem pO {α : Type} {c : α→List AV} {n : Nat} {t e : TypeId} {ys : List AV} (hu : PP.underlying t=some (.slice e)) (hc : ∀ x,nV PP n e x→∃ z,x=c z) (h : nV PP (n + 1) t ys) : ∃ l : List α,ys=[.sl false (l.map c)]:=by
 unfold nV at h
 rw [hu] at h
 obtain ⟨es,rfl,_,h2⟩:=h
 have : ∀ es : List (List AV),(∀ x ∈ es,nV PP n e x)→∃ l : List α,es=l.map c:=by
  intro es
  induction es with
  | nil=>exact fun _=>⟨[],rfl⟩
  | cons x r ih =>
   intro h
   obtain ⟨l,rfl⟩:=ih fun y hy=>h y (by simp [hy])
   obtain ⟨z,rfl⟩:=hc x (h x (by simp))
   exact ⟨z :: l,rfl⟩
 obtain ⟨l,rfl⟩:=this es h2
 exact ⟨l,rfl⟩
theorem zZ {n : Nat} {ys : List AV} (h : nV PP (n + 2) 47 ys) : ∃ z,ys=kI z:=by
 unfold nV at h
 have hu : PP.underlying 47 = some (.struct #[{ name := "X", type := 3, offset := 0, embedded := false, tag := "", pkgPath := "", byteOffset := 0 }, { name := "Y", type := 3, offset := 1, embedded := false, tag := "", pkgPath := "", byteOffset := 8 }]) := by kernel_rfl
 rw [hu] at h
 obtain ⟨ps,rfl,hl,h2⟩:=h
 match ps,hl with
 | [p,q],_ =>
  have hi : PP.underlying 3=some (.int .i64):=by kernel_rfl
  obtain ⟨x,rfl⟩:=mY hi (h2 0 _ p rfl rfl)
  obtain ⟨y,rfl⟩:=mY hi (h2 1 _ q rfl rfl)
  exact ⟨⟨x,y⟩,rfl⟩
theorem aLc {n : Nat} {ys : List AV} (h : nV PP (n + 4) 50 ys) : ∃ z,ys=kD z:=by
 unfold nV at h
 have hu : PP.underlying 50 = some (.struct #[{ name := "Kind", type := 3, offset := 0, embedded := false, tag := "", pkgPath := "", byteOffset := 0 }, { name := "ID", type := 3, offset := 1, embedded := false, tag := "", pkgPath := "", byteOffset := 8 }, { name := "A", type := 3, offset := 2, embedded := false, tag := "", pkgPath := "", byteOffset := 16 }, { name := "B", type := 3, offset := 3, embedded := false, tag := "", pkgPath := "", byteOffset := 24 }, { name := "C", type := 3, offset := 4, embedded := false, tag := "", pkgPath := "", byteOffset := 32 }, { name := "At", type := 47, offset := 5, embedded := false, tag := "", pkgPath := "", byteOffset := 40 }, { name := "Via", type := 48, offset := 7, embedded := false, tag := "", pkgPath := "", byteOffset := 56 }, { name := "Name", type := 9, offset := 8, embedded := false, tag := "", pkgPath := "", byteOffset := 80 }, { name := "Parts", type := 35, offset := 9, embedded := false, tag := "", pkgPath := "", byteOffset := 96 }]) := by kernel_rfl
 rw [hu] at h
 obtain ⟨ps,rfl,hl,h2⟩:=h
 match ps,hl with
 | [p0,p1,p2,p3,p4,p5,p6,p7,p8],_ =>
  have hi : PP.underlying 3=some (.int .i64):=by kernel_rfl
  obtain ⟨x0,rfl⟩:=mY hi (h2 0 _ p0 rfl rfl)
  obtain ⟨x1,rfl⟩:=mY hi (h2 1 _ p1 rfl rfl)
  obtain ⟨x2,rfl⟩:=mY hi (h2 2 _ p2 rfl rfl)
  obtain ⟨x3,rfl⟩:=mY hi (h2 3 _ p3 rfl rfl)
  obtain ⟨x4,rfl⟩:=mY hi (h2 4 _ p4 rfl rfl)
  obtain ⟨x5,rfl⟩:=zZ (h2 5 _ p5 rfl rfl)
  obtain ⟨x6,rfl⟩:=pO (c:=kI) (e:=47) (by kernel_rfl) (fun _ h=>zZ h) (h2 6 _ p6 rfl rfl)
  obtain ⟨x7,rfl⟩:=aFw (by kernel_rfl) (h2 7 _ p7 rfl rfl)
  obtain ⟨x8,rfl⟩:=pO (c:=kL) (e:=3) (by kernel_rfl) (fun _ h=>mY hi h) (h2 8 _ p8 rfl rfl)
  exact ⟨⟨x0,x1,x2,x3,x4,x5,x6,x7,x8⟩,rfl⟩
theorem aFv {n : Nat} {ys : List AV} (h : nV PP (n + 6) 44 ys) : ∃ z,ys=kF z:=by
 unfold nV at h
 have hu : PP.underlying 44 = some (.struct #[{ name := "Office", type := 3, offset := 0, embedded := false, tag := "", pkgPath := "", byteOffset := 0 }, { name := "Seq", type := 3, offset := 1, embedded := false, tag := "", pkgPath := "", byteOffset := 8 }, { name := "Time", type := 3, offset := 2, embedded := false, tag := "", pkgPath := "", byteOffset := 16 }, { name := "Source", type := 9, offset := 3, embedded := false, tag := "", pkgPath := "", byteOffset := 24 }, { name := "Edits", type := 25, offset := 4, embedded := false, tag := "", pkgPath := "", byteOffset := 40 }]) := by kernel_rfl
 rw [hu] at h
 obtain ⟨ps,rfl,hl,h2⟩:=h
 match ps,hl with
 | [p0,p1,p2,p3,p4],_ =>
  have hi : PP.underlying 3=some (.int .i64):=by kernel_rfl
  obtain ⟨x0,rfl⟩:=mY hi (h2 0 _ p0 rfl rfl)
  obtain ⟨x1,rfl⟩:=mY hi (h2 1 _ p1 rfl rfl)
  obtain ⟨x2,rfl⟩:=mY hi (h2 2 _ p2 rfl rfl)
  obtain ⟨x3,rfl⟩:=aFw (by kernel_rfl) (h2 3 _ p3 rfl rfl)
  obtain ⟨x4,rfl⟩:=pO (c:=kD) (e:=50) (by kernel_rfl) (fun _ h=>aLc h) (h2 4 _ p4 rfl rfl)
  exact ⟨⟨x0,x1,x2,x3,x4⟩,rfl⟩
theorem aFx {n : Nat} {ys : List AV} (h : nV PP (n + 8) 24 ys) : ∃ z,ys=mZ z:=by
 unfold nV at h
 have hu : PP.underlying 24 = some (.struct #[{ name := "ID", type := 3, offset := 0, embedded := false, tag := "", pkgPath := "", byteOffset := 0 }, { name := "Txns", type := 22, offset := 1, embedded := false, tag := "", pkgPath := "", byteOffset := 8 }]) := by kernel_rfl
 rw [hu] at h
 obtain ⟨ps,rfl,hl,h2⟩:=h
 match ps,hl with
 | [p0,p1],_ =>
  have hi : PP.underlying 3=some (.int .i64):=by kernel_rfl
  obtain ⟨x0,rfl⟩:=mY hi (h2 0 _ p0 rfl rfl)
  obtain ⟨x1,rfl⟩:=pO (c:=kF) (e:=44) (by kernel_rfl) (fun _ h=>aFv h) (h2 1 _ p1 rfl rfl)
  exact ⟨⟨x0,x1⟩,rfl⟩
theorem aHu {n : Nat} {ys : List AV} (h : nV PP (n + 3) 37 ys) : ∃ z,ys=oS z:=by
 unfold nV at h
 have hu : PP.underlying 37 = some (.struct #[{ name := "Counts", type := 35, offset := 0, embedded := false, tag := "", pkgPath := "", byteOffset := 0 }]) := by kernel_rfl
 rw [hu] at h
 obtain ⟨ps,rfl,hl,h2⟩:=h
 match ps,hl with
 | [p0],_ =>
  have hi : PP.underlying 3=some (.int .i64):=by kernel_rfl
  obtain ⟨x0,rfl⟩:=pO (c:=kL) (e:=3) (by kernel_rfl) (fun _ h=>mY hi h) (h2 0 _ p0 rfl rfl)
  exact ⟨⟨x0⟩,rfl⟩
theorem aMb {x : AV} (h : ∃ ys,nV PP 10 24 ys∧x=yI PP 24 ys) : ∃ a,x=.agg (mZ a):=by
 obtain ⟨ys,h1,rfl⟩:=h
 obtain ⟨a,rfl⟩:=aFx h1
 exact ⟨a,by simp only [yI,isAgg]; rfl⟩
theorem aRw {x : AV} (h : ∃ ys,nV PP 10 22 ys∧x=yI PP 22 ys) : ∃ a,x=.sl false (List.map kF a):=by
 obtain ⟨ys,h1,rfl⟩:=h
 obtain ⟨a,rfl⟩:=pO (c:=kF) (e:=44) (by kernel_rfl) (fun _ h=>aFv h) h1
 exact ⟨a,by simp only [yI,isAgg]; rfl⟩
theorem aPx {x : AV} (h : ∃ ys,nV PP 10 37 ys∧x=yI PP 37 ys) : ∃ a,x=.agg (oS a):=by
 obtain ⟨ys,h1,rfl⟩:=h
 obtain ⟨a,rfl⟩:=aHu h1
 exact ⟨a,by simp only [yI,isAgg]; rfl⟩
end Go.Proofs.YtkdnaejhpcibnaaGreatDoor.Av
namespace Go.Proofs.YtkdnaejhpcibnaaGreatDoor.Av
open Go Go.Proofs Go.RowKit Go.Shelf
set_option maxRecDepth 100000
def cren : Ren where
 f:=fun x=>match x with
  | 144=>96
  | 143=>132
  | 219=>158
  | 217=>184
  | 225=>185
  | 224=>186
  | 267=>187
  | 266=>219
  | 314=>220
  | n=>n
 t:=fun x=>match x with
  | 9=>9
  | 4=>4
  | 3=>3
  | 5=>5
  | 46=>111
  | 146=>232
  | 51=>231
  | n=>n
 g:=fun x=>match x with
  | 1=>1
  | n=>n
theorem bD8 : Lays.n144 PP cren where
 mixed:=by kernel_rfl
 f143:=Tryz.func132.trans (congrArg some (by kernel_rfl))
 f144:=Tryz.func96.trans (congrArg some (by kernel_rfl))
 f217:=Tryz.func184.trans (congrArg some (by kernel_rfl))
 f219:=Tryz.func158.trans (congrArg some (by kernel_rfl))
 f224:=Tryz.func186.trans (congrArg some (by kernel_rfl))
 f225:=Tryz.func185.trans (congrArg some (by kernel_rfl))
 f266:=Tryz.func219.trans (congrArg some (by kernel_rfl))
 f267:=Tryz.func187.trans (congrArg some (by kernel_rfl))
 f314:=Tryz.func220.trans (congrArg some (by kernel_rfl))
 t3:=Tryz.underlying3
 a3:=Tryz.isAgg3
 z3:=Tryz.sizeOf3
 v3:=Tryz.zeroValue3
 t4:=Tryz.underlying4
 a4:=Tryz.isAgg4
 z4:=Tryz.sizeOf4
 v4:=Tryz.zeroValue4
 t5:=Tryz.underlying5
 a5:=Tryz.isAgg5
 z5:=Tryz.sizeOf5
 v5:=Tryz.zeroValue5
 t9:=Tryz.underlying9
 a9:=Tryz.isAgg9
 z9:=Tryz.sizeOf9
 v9:=Tryz.zeroValue9
 t46:=Tryz.underlying111
 a46:=Tryz.isAgg111
 z46:=Tryz.sizeOf111
 v46:=Tryz.zeroValue111
 t51:=Tryz.underlying231
 a51:=Tryz.isAgg231
 z51:=Tryz.sizeOf231
 v51:=Tryz.zeroValue231
 t146:=Tryz.underlying232
 a146:=Tryz.isAgg232
 z146:=Tryz.sizeOf232
 v146:=Tryz.zeroValue232
 g1:=by kernel_rfl
end Go.Proofs.YtkdnaejhpcibnaaGreatDoor.Av
namespace Go.Proofs.YtkdnaejhpcibnaaGreatDoor.Av
open Go Go.Proofs Go.RowKit Go.Shelf
set_option maxRecDepth 100000
theorem mixed : PP.follows .mixedOrders=true:=by kernel_rfl
def insR : Ren where
 f:=fun x=>match x with
  | 22=>49
  | 29=>78
  | 30=>79
  | n=>n
 t:=fun x=>match x with
  | 24=>22
  | 9=>44
  | n=>n
 g:=fun n=>n
theorem insL : InsL PP insR #[.int .i64 0,.int .i64 0,.int .i64 0,.string ⟨#[]⟩,.slice none 0 0] 64 where
 mixed:=mixed
 f22 := ⟨ "slices.Insert[[]mapsheets/api.Txn,mapsheets/api.Txn]", by decide, Tryz.func49.trans (congrArg some (by kernel_rfl))⟩
 ov:=fun args w=>by
  exact run_callFunc_extern Tryz.func78 (by kernel_rfl) (by kernel_rfl) (by kernel_rfl) (e:=Extern.SlicesOverlaps.overlaps #[22,22] #[4]) (by kernel_rfl) args w
 t3:=Tryz.underlying3
 a3:=Tryz.isAgg3
 z3:=Tryz.sizeOf3
 v3:=Tryz.zeroValue3
 t4:=Tryz.underlying4
 a4:=Tryz.isAgg4
 z4:=Tryz.sizeOf4
 v4:=Tryz.zeroValue4
 z9:=Tryz.sizeOf44
 t24:=Tryz.underlying22
 a24:=Tryz.isAgg22
 z24:=Tryz.sizeOf22
 v24:=Tryz.zeroValue22
 i9:=by kernel_rfl
 zl:=rfl
theorem aF1 {fl vi : Nat} {args : List AV} {H H' : Heap} {r : AV} (h : aH1 fl vi args H=some (r,H')) : (vi=86∧aI3 fl args H=some (r,H')) ∨ (vi=43∧insA fl args H=some (r,H')):=by
 unfold aH1 at h
 have e : (GlobT.prim vi : Option _)=(match Nat.beq vi 86 with | true=>some aI3 | false=>match Nat.beq vi 43 with | true=>some insA | false=>none):=rfl
 rw [e] at h
 cases hb : Nat.beq vi 86 with
 | true=>rw [hb] at h; exact .inl ⟨Nat.eq_of_beq_eq_true hb,h⟩
 | false =>
  rw [hb] at h
  cases hd : Nat.beq vi 43 with
  | true=>rw [hd] at h; exact .inr ⟨Nat.eq_of_beq_eq_true hd,h⟩
  | false=>rw [hd] at h; cases h
theorem aG7 {fl : Nat} {args : List AV} {H H' : Heap} {r : AV} (h : aI3 fl args H=some (r,H')) :
  ∃ s t : ByteArray,args=[.lit (.string s),.lit (.string t)]∧s.size < 4294967281∧r=.lit (.bool (Lib.contains s.data.toList t.data.toList))∧H'=H:=by
 unfold aI3 at h
 repeat' split at h
 all_goals first
  | (cases h; done)
  | skip
 rename_i hb
 cases h
 exact ⟨_,_,rfl,Nat.le_of_ble_eq_true hb,rfl,rfl⟩
theorem aT9 : PrimOK PP T where
 fl:=fun fl vi args H r H' hle hev=>by
  rcases aF1 hev with ⟨_,h⟩ | ⟨_,h⟩
  ·obtain ⟨s,t,_,_,_,rfl⟩:=aG7 h
   exact ⟨rfl,hle⟩
  ·obtain ⟨id,id2,i,es,row,_,h1,h2,h3,h4,h5,h6,h7,rfl⟩:=aJu h
   exact ⟨List.take_set_of_le h1,by simpa using hle⟩
 ok:=fun fl vi f args r H' c vs hev hf hs hfl hargs=>by
  rcases aF1 hev with ⟨rfl,h⟩ | ⟨rfl,h⟩
  ·obtain ⟨s,t,rfl,hsz,rfl,rfl⟩:=aG7 h
   obtain rfl : 96=f:=Option.some.inj ((show ftOf T 86=some 96 by kernel_rfl).symm.trans hf)
   have hv : vs=#[.string s,.string t]:=by
    obtain ⟨h1,h2⟩:=hargs
    obtain ⟨v0,g0,k0⟩:=h2 0 _ rfl
    obtain ⟨v1,g1,k1⟩:=h2 1 _ rfl
    have e0:=k0.lit_inv
    have e1:=k1.lit_inv
    subst e0 e1
    apply Array.ext
    ·simpa using h1
    ·intro i hi1 hi2
     have hi3 : i < 2:=by simpa using hi2
     match i,hi3 with
     | 0,_=>exact Option.some.inj ((Array.getElem?_eq_getElem hi1).symm.trans g0)
     | 1,_=>exact Option.some.inj ((Array.getElem?_eq_getElem hi1).symm.trans g1)
   subst hv
   obtain ⟨cc,t',fz,vals,_,hheap,hok,_,_⟩:=hs.gl 1 [.undef] rfl
   obtain ⟨m,hm⟩:=hok rfl
   have hcell : c.w.cell? ⟨1,0,none⟩=some (.int .i64 m):=by simp [World.cell?,hheap,hm]
   exact (Any.strings_Contains bD8 s t m c.w hsz hcell).mono fun e w' ⟨he,hw⟩=>⟨_,c,he,hw.symm,rfl,rfl,Step.refl fl c,hs,.lit _⟩
  ·obtain ⟨id,id2,i,es,row,rfl,h1,h2,h3,h4,h5,h6,rfl,rfl⟩:=aJu h
   obtain rfl : 49=f:=Option.some.inj ((show ftOf T 43=some 49 by kernel_rfl).symm.trans hf)
   refine (aXa (ρ:=insR) insL (by decide) hs h1 h2 h3 h4 h5 h6 hargs).mono fun e w' ⟨v,he,c',k1,k2,k3,k4,k5,k6⟩=>?_
   exact ⟨v,c',he,k1,k2,k3,k4,k5,k6⟩
end Go.Proofs.YtkdnaejhpcibnaaGreatDoor.Av
namespace Go.Proofs.YtkdnaejhpcibnaaGreatDoor.Av
open Go Go.Proofs Go.RowKit
set_option maxRecDepth 100000
theorem aE0 {H : Type} {enc : TypeId × Value→H} {a : Assume} {C : Go.Checked} {os : Os} {f : FuncId} {fn : Func} {s : ChangeSpec} {conds : List PathCond} {apart fresh handsOn again : Bool} {X : World→Array Value→Prop}
  (hX : ∀ (w w' : World) (args : Array Value),w.heap=w'.heap→X w args→X w' args)
  (own : ownKnob C.prog.godebug=none) (started : os.Started) (noInit : C.prog.inits.idxOf? f=none) (hfn : C.prog.funcs[f]? = some fn)
  (witness : ∃ (w : World) (tape : Tape) (i : Input),w.os=os∧(w.forCall tape i).Shaped C.prog∧i.vars=[]∧Input.okWide C.prog (w.forCall tape i) .any w.heap.size f i ∧
   ((s.pre enc C.prog fn conds apart (w.forCall tape i).memory i.args∧X (w.forCall tape i).memory i.args)∧sizedMet enc C.prog fn (OpenSpec.ofChange s) apart (w.forCall tape i).memory i.args)∧a.holds C.prog (lone (Frame.enter C.prog f i.args .normal) [] (w.forCall tape i)))
  (contract : ∀ (W : World) (base : Nat) (args : Array Value) (ds gs : List (DataW H)) (before : List MemPlace),
   (∀ (j : Nat) t v,fn.params[j]? = some t→args[j]? = some v→Value.okWide C.prog W .any base t v) →
   DataW.Whole enc C.prog fn.params.toList s.vars apart W args.toList ds gs before→X W args→W.ShapedOpen C.prog →
   Calls C.prog f args W fun e W'=>∃ v,e=.returned v∧s.post enc C.prog fn apart fresh handsOn again W args v W') :
  ReturnsInHanded a C os f .any (fun w args=>(s.pre enc C.prog fn conds apart w args∧X w args)∧sizedMet enc C.prog fn (OpenSpec.ofChange s) apart w args) (s.post enc C.prog fn apart fresh handsOn again):=by
 refine returnsInHanded_of_calls own started noInit witness ?_
 intro w tape i _ hsh _ hok hpre _
 obtain ⟨_,_,_,fn',hfn',_,_,_,_,hval⟩:=hok
 have e : fn'=fn:=Option.some.inj (hfn'.symm.trans hfn)
 subst e
 obtain ⟨⟨⟨ds,gs,before,hw,_⟩,hx⟩,_⟩:=hpre
 have hw':=DataW.Whole.of_heap (w':=w.forCall tape i) (by rfl) hw
 refine (contract (w.forCall tape i) w.heap.size i.args ds gs before hval hw' (hX _ _ _ (by rfl) hx) hsh).mono fun e W' ⟨v,he,hp⟩=>?_
 subst he
 exact ChangeSpec.post_blind hp
def litV : DataW Unit→List Value
 | .lit (.int k z)=>[.int k z]
 | _=>[]
def aQ1 : DataW Unit→List Value
 | .agg ps=>ps.flatMap litV
 | _=>[]
def aXc : DataW Unit→List Value
 | .agg ps=>ps.flatMap aQ1
 | _=>[]
section
variable {P : Program} {w : World} {base : Nat} {sp : Nat→Bool} {held : Bool} {enc : TypeId × Value→Unit}
theorem aMh {fuel : Nat} {t ta tb tc : TypeId} {ka kb kc : IntKind} {f0 f1 f2 : Field} {cs : List Value} {x : DataW Unit × List MemPlace}
  (hu : P.underlying t=some (.struct #[f0,f1,f2])) (hc : P.cellsOf t=3) (t0 : f0.type=ta) (t1 : f1.type=tb) (t2 : f2.type=tc) (o0 : f0.offset=0) (o1 : f1.offset=1) (o2 : f2.offset=2)
  (ua : P.underlying ta=some (.int ka)) (ub : P.underlying tb=some (.int kb)) (uc : P.underlying tc=some (.int kc)) (ca : P.cellsOf ta=1) (cb : P.cellsOf tb=1) (cc : P.cellsOf tc=1)
  (h : DataW.trod enc P w base sp held fuel t cs=some x) : cs=aQ1 x.1:=by
 obtain ⟨xs,n,_,rfl,hl,hxl,hat⟩:=DataW.trod_struct hu h
 rw [hc] at hl
 match cs,hl with
 | [a,b,c],_ =>
  match xs,hxl with
  | [y0,y1,y2],_ =>
   have h0:=hat 0 f0 rfl
   have h1:=hat 1 f1 rfl
   have h2:=hat 2 f2 rfl
   rw [t0,o0,ca] at h0
   rw [t1,o1,cb] at h1
   rw [t2,o2,cc] at h2
   obtain ⟨z0,e0,q0,_⟩:=DataW.trod_int ua h0
   obtain ⟨z1,e1,q1,_⟩:=DataW.trod_int ub h1
   obtain ⟨z2,e2,q2,_⟩:=DataW.trod_int uc h2
   have e0' : a=.int ka z0:=by simpa using e0
   have e1' : b=.int kb z1:=by simpa using e1
   have e2' : c=.int kc z2:=by simpa using e2
   subst e0' e1' e2' q0 q1 q2
   rfl
theorem aK8 {fuel m : Nat} {t e ta tb tc : TypeId} {ka kb kc : IntKind} {f0 f1 f2 : Field} {cs : List Value} {x : DataW Unit × List MemPlace}
  (ha : P.underlying t=some (.array m e)) (hca : P.cellsOf t=m * 3)
  (hu : P.underlying e=some (.struct #[f0,f1,f2])) (hc : P.cellsOf e=3) (t0 : f0.type=ta) (t1 : f1.type=tb) (t2 : f2.type=tc) (o0 : f0.offset=0) (o1 : f1.offset=1) (o2 : f2.offset=2)
  (ua : P.underlying ta=some (.int ka)) (ub : P.underlying tb=some (.int kb)) (uc : P.underlying tc=some (.int kc)) (ca : P.cellsOf ta=1) (cb : P.cellsOf tb=1) (cc : P.cellsOf tc=1)
  (h : DataW.trod enc P w base sp held fuel t cs=some x) : cs=aXc x.1:=by
 obtain ⟨xs,n,_,rfl,hl,hxl,hat⟩:=DataW.trod_array ha h
 have e':=yH 3 m 0 cs (by rw [hl,hca]; omega)
 rw [List.drop_zero] at e'
 have key : ∀ i,i < m→∃ y,xs[i]? = some y∧(cs.drop (0 + i * 3)).take 3=aQ1 y.1:=by
  intro i hi
  have h1:=hat i hi
  rw [hc] at h1
  have h2 : xs[i]? = some xs[i]:=List.getElem?_eq_getElem (by omega)
  rw [h2] at h1
  refine ⟨_,h2,?_⟩
  rw [Nat.zero_add]
  exact aMh hu hc t0 t1 t2 o0 o1 o2 ua ub uc ca cb cc h1
 rw [e']
 show _=(xs.map (·.1)).flatMap aQ1
 rw [List.flatMap_def,List.map_map]
 congr 1
 apply List.ext_getElem?
 intro i
 rw [List.getElem?_map,List.getElem?_map]
 rcases Nat.lt_or_ge i m with hi | hi
 ·obtain ⟨y,h1,h2⟩:=key i hi
  rw [List.getElem?_range hi,h1]
  simp only [Option.map_some,Function.comp]
  rw [h2]
 ·rw [List.getElem?_eq_none (by simpa using hi),List.getElem?_eq_none (by omega)]
  rfl
end
end Go.Proofs.YtkdnaejhpcibnaaGreatDoor.Av
namespace Go.Proofs.YtkdnaejhpcibnaaGreatDoor.Av
open Go Go.Proofs
set_option maxRecDepth 100000
theorem own : ownKnob PP.godebug=none:=by kernel_rfl
theorem laid : laidOutB PP=true:=by kernel_rfl
def scrV : List Value:=aXc (Go.Proofs.YtkdnaejhpcibnaaGreatDoor.Rows.laid_mapsheets_glyph_scripts)
open Go.Proofs.YtkdnaejhpcibnaaGreatDoor in
theorem aQz {W : World} (hl : laidMetH Tryz.prog Rows.officeEditsRow.laid W) (hsh : W.ShapedOpen Tryz.prog) : GlobInv (top W):=by
 intro g cs hcs
 match g with
 | 0 =>
  obtain rfl : scrT=cs:=Option.some.inj hcs
  obtain ⟨ps, hv, _, _⟩ : laidMet Tryz.prog [("mapsheets/glyph.scripts", Rows.laid_mapsheets_glyph_scripts)] W := hl
  obtain ⟨g,t,cv,fuel,p,q,h1,h2,h3,h4,_,_⟩:=hv
  obtain rfl : 0 = g := Option.some.inj ((show Tryz.prog.globalNamed "mapsheets/glyph.scripts" = some 0 by kernel_rfl).symm.trans h1)
  obtain rfl : 147=t:=Option.some.inj ((show (Tryz.prog.globals[0]?).map (·.type)=some 147 by kernel_rfl).symm.trans h2)
  have hcv : cv.toList = scrV := aK8 (m := 13) (e := 146) (ta := 21) (tb := 21) (tc := 3) (ka := .i32) (kb := .i32) (kc := .i64) (f0 := { name := "first", type := 21, offset := 0, embedded := false, tag := "", pkgPath := "mapsheets/glyph", byteOffset := 0 }) (f1 := { name := "last", type := 21, offset := 1, embedded := false, tag := "", pkgPath := "mapsheets/glyph", byteOffset := 4 }) (f2 := { name := "script", type := 3, offset := 2, embedded := false, tag := "", pkgPath := "mapsheets/glyph", byteOffset := 8 }) (by kernel_rfl) (by kernel_rfl) (by kernel_rfl) (by kernel_rfl) rfl rfl rfl rfl rfl rfl (by kernel_rfl) (by kernel_rfl) (by kernel_rfl) (by kernel_rfl) (by kernel_rfl) (by kernel_rfl) h4
  have hheap : ∃ T fz,W.heap[0]? = some (.cells cv T fz):=by
   unfold World.var? at h3
   rw [h1] at h3
   simp only [Option.bind_some] at h3
   split at h3
   ·rename_i c T fz hb
    cases h3
    exact ⟨T,fz,hb⟩
   ·cases h3
  obtain ⟨T,fz,hheap⟩:=hheap
  have key : ∀ (j : Nat) (x : AV),scrT[j]? = some x→∃ v,scrV[j]? = some v∧lB v=true∧x=AV.lit v:=by
   have e : scrT=scrV.map AV.lit:=by kernel_rfl
   have hs : scrV.all lB=true:=by kernel_rfl
   intro j x hx
   rw [e,List.getElem?_map,Option.map_eq_some_iff] at hx
   obtain ⟨v,h5,rfl⟩:=hx
   exact ⟨v,h5,List.all_eq_true.1 hs v (List.mem_of_getElem? h5),rfl⟩
  refine ⟨cv,T,fz,fun j=>(scrV[j]?).getD undef,aHp W 0,hheap,(fun h=>absurd h (by decide)),?_,?_⟩
  ·intro j x hx
   obtain ⟨v,k1,k2,_⟩:=key j x hx
   have e : (scrV[j]?).getD undef=v:=by rw [k1]; rfl
   show cv[0 + j]? = some ((scrV[j]?).getD undef)∧lB ((scrV[j]?).getD undef)=true
   rw [e,Nat.zero_add,← Array.getElem?_toList,hcv]
   exact ⟨k1,k2⟩
  ·intro j x hx
   obtain ⟨v,k1,_,rfl⟩:=key j x hx
   have e : (scrV[j]?).getD undef=v:=by rw [k1]; rfl
   show RP _ _ (AV.lit v) ((scrV[j]?).getD undef)
   rw [e]
   exact .lit _
 | 1 =>
  obtain rfl : [AV.undef]=cs:=Option.some.inj hcs
  obtain ⟨m,hm⟩:=cell_of_shapedOpen_int (g:=1) (t:=3) (zero:=#[.int .i64 0]) (k:=.i64) hsh (of_decide_eq_true (by kernel_rfl)) (by kernel_rfl) rfl (by kernel_rfl) (by kernel_rfl) (by kernel_rfl)
  obtain ⟨c,T,fz,hb,_,hc⟩:=cell?_inv hm
  refine ⟨c,T,fz,fun _=>.int .i64 m,aHp W 1,hb,fun _=>⟨m,hc⟩,?_,?_⟩
  ·intro j x hx
   cases j with
   | zero=>exact ⟨hc,rfl⟩
   | succ j=>simp at hx
  ·intro j x hx
   cases j with
   | zero =>
    simp only [List.getElem?_cons_zero,Option.some.injEq] at hx
    subst hx
    exact .undef _
   | succ j=>simp at hx
 | n + 2=>cases hcs
end Go.Proofs.YtkdnaejhpcibnaaGreatDoor.Av
namespace Go.Proofs.YtkdnaejhpcibnaaGreatDoor.Av
open Go Go.IntWalk
def aEl (r : Int) : List GT146→Int
 | []=>-1
 | x :: l=>if x.first ≤ r∧r ≤ x.last then x.script else aEl r l
def scr (r : Int) : Int:=aEl r tab0
theorem aVl (n : Nat) (r : Int) : f119 (n + 1) r=some (decide (48 ≤ r∧r ≤ 57)):=by
 simp only [f119,sF,decide_eq_true_eq]
 split
 ·split
  ·rw [decide_eq_true (by omega)]
  ·rw [decide_eq_false (by omega)]
 ·rw [decide_eq_false (by omega)]
set_option maxHeartbeats 2000000 in
theorem aSm (n : Nat) (r : Int) : f94 (n + 2) r=some (scr r):=by
 rw [f94,aVl]
 simp only [scr,tab0,aEl,sF,bnd,decide_eq_true_eq,beq_iff_eq,bne_iff_ne,ne_eq]
 have hk : ∀ (p : Prop) [Decidable p] (a b c : Option Int),(p→a=c)→(¬ p→b=c)→(if p then a else b)=c:=by
  intro p _ a b c h1 h2
  split
  ·exact h1 (by assumption)
  ·exact h2 (by assumption)
 have hk2 : ∀ (p : Prop) [Decidable p] (a : Option Int) (b c : Int),(p→a=some b)→(¬ p→a=some c)→a=some (if p then b else c):=by
  intro p _ a b c h1 h2
  split
  ·exact h1 (by assumption)
  ·exact h2 (by assumption)
 repeat' (apply hk <;> intro _)
 all_goals repeat' (apply hk2 <;> intro _)
 all_goals first | rfl | (exfalso; omega)
theorem aOi (n : Nat) (r : Int) (hr : IntKind.i32.wrap r=r) : ∀ (d m : Nat) (i : Nat),i + d=13→d < m→∃ z,wG n r m (i : Int)=some z∧(match z with | .inl v=>v.2.2.2=aEl r (tab0.drop i) | .inr _=>aEl r (tab0.drop i)=-1):=by
 intro d
 induction d with
 | zero =>
  intro m i hi hm
  obtain ⟨m,rfl⟩ : ∃ k,m=k + 1:=⟨m - 1,by omega⟩
  obtain rfl : i=13:=by omega
  exact ⟨.inr (),by simp [wG,cnd],rfl⟩
 | succ d ih =>
  intro m i hi hm
  obtain ⟨m,rfl⟩ : ∃ k,m=k + 1:=⟨m - 1,by omega⟩
  obtain ⟨z,h1,h2⟩:=ih m (i + 1) (by omega) (by omega)
  have hlt : i < tab0.length:=by show i < 13; omega
  have hdrop : tab0.drop i=tab0[i] :: tab0.drop (i + 1):=List.drop_eq_getElem_cons hlt
  have hidx : idx tab0 (i : Int)=some tab0[i]:=by rw [aOb,List.getElem?_eq_getElem hlt]
  have hw : IntKind.i64.wrap ((i : Int) + 1)=((i + 1 : Nat) : Int):=by rw [i64_in _ (by omega)]; push_cast; rfl
  have hlt2 : decide ((i : Int) < 13)=true:=decide_eq_true (by omega)
  simp only [wG,hlt2,cnd,kK hidx,hr,hw,h1,hdrop,aEl]
  generalize tab0[i]=x at *
  by_cases c1 : x.first ≤ r
  ·by_cases c2 : r ≤ x.last
   ·exact ⟨.inl (x.first,x.last,x.script,x.script),by simp only [decide_eq_true c1,decide_eq_true c2],by simp [c1,c2]⟩
   ·refine ⟨z,by simp only [decide_eq_true c1,decide_eq_false c2],?_⟩
    rw [if_neg (fun h=>c2 h.2)]; exact h2
  ·refine ⟨z,by simp only [decide_eq_false c1],?_⟩
   rw [if_neg (fun h=>c1 h.1)]; exact h2
theorem aMr (r : Int) (h : r < 0 ∨ 1114111 < r) : scr r=-1:=by
 simp only [scr,tab0,aEl]
 iterate 13 rw [if_neg (by omega)]
theorem aSo (n : Nat) (r : Int) (hn : 15 ≤ n) : f87 n r=some (scr r):=by
 obtain ⟨n,rfl⟩ : ∃ k,n=k + 1:=⟨n - 1,by omega⟩
 simp only [f87]
 by_cases c1 : r < 0
 ·simp only [decide_eq_true c1,cnd,aMr r (.inl c1)]
 ·by_cases c2 : r > 1114111
  ·simp only [decide_eq_false c1,decide_eq_true c2,cnd,aMr r (.inr c2)]
  ·simp only [decide_eq_false c1,decide_eq_false c2,cnd]
   obtain ⟨z,h1,h2⟩:=aOi n r (i32_in r (by omega)) 13 n 0 rfl (by omega)
   have h1' : wG n r n 0=some z:=h1
   rw [h1']
   cases z with
   | inl v=>simp only [bnd2]; simp only at h2; rw [h2]; rfl
   | inr v=>simp only [bnd2]; simp only at h2; exact congrArg some h2.symm
end Go.Proofs.YtkdnaejhpcibnaaGreatDoor.Av
namespace Go.Proofs.YtkdnaejhpcibnaaGreatDoor.Av
open Go Go.IntWalk
theorem ba_ext {s t : ByteArray} : s=t ↔ s.data.toList=t.data.toList:=by
 constructor
 ·intro h; rw [h]
 ·intro h
  cases s; cases t
  simp only [Array.toList_inj] at h
  rw [h]
theorem qQ (s : ByteArray) : s.size=s.data.toList.length:=by rw [Array.length_toList]; rfl
theorem aRi (s : ByteArray) (a b : Nat) : (s.extract a b).data.toList=(s.data.toList.drop a).take (b - a):=by
 simp [ByteArray.data_extract,Array.toList_extract,List.extract_eq_take_drop]
theorem zR {s : ByteArray} {k j : Nat} (h : k + j ≤ s.size) : cutS s (k : Int) ((k + j : Nat) : Int)=some (s.extract k (k + j))∧(s.extract k (k + j)).data.toList=(s.data.toList.drop k).take j:=by
 constructor
 ·unfold cutS
  rw [if_pos ⟨by omega,by omega,by rw [Int.toNat_natCast]; exact h⟩,Int.toNat_natCast,Int.toNat_natCast]
 ·rw [aRi]; congr 1; omega
theorem b_lt (b : UInt8) : b.toNat < 256:=b.toNat_lt
theorem qD {s : ByteArray} {l : List UInt8} (h : s.data.toList=l) (i : Nat) (b : UInt8) (hb : l[i]? = some b) : sat s (i : Int)=some (b.toNat : Int):=by
 unfold sat
 rw [if_pos (by omega),h]
 simp [hb]
theorem rH (a b : Nat) : Int.tmod (a : Int) (b : Int)=((a % b : Nat) : Int):=(Int.ofNat_tmod a b).symm
theorem aI9 (a b : Nat) : Int.tdiv (a : Int) (b : Int)=((a / b : Nat) : Int):=(Int.ofNat_tdiv a b).symm
theorem bDx (n : Nat) {t : ByteArray} {b0 : UInt8} (h : t.data.toList=[b0]) : f93 (n + 1) t=some (b0.toNat : Int):=by
 have h0:=b_lt b0
 have hs : t.size=1:=by rw [qQ,h]; rfl
 have e0 : sat t 0=some (b0.toNat : Int):=qD h 0 b0 rfl
 simp only [f93,hs,show ((((1 : Nat) : Int)) == 1)=true from rfl,cnd,kK e0]
 rw [i64_in _ (by omega)]
theorem bDw (n : Nat) {t : ByteArray} {b0 b1 : UInt8} (h : t.data.toList=[b0,b1]) : f93 (n + 1) t=some ((b0.toNat % 32 * 64 + b1.toNat % 64 : Nat) : Int):=by
 have h0:=b_lt b0
 have h1:=b_lt b1
 have hs : t.size=2:=by rw [qQ,h]; rfl
 have e0 : sat t 0=some (b0.toNat : Int):=qD h 0 b0 rfl
 have e1 : sat t 1=some (b1.toNat : Int):=qD h 1 b1 rfl
 simp only [f93,hs,show ((((2 : Nat) : Int)) == 1)=false from rfl,show ((((2 : Nat) : Int)) == 2)=true from rfl,cnd,kK e0,kK e1]
 rw [i64_in (b0.toNat : Int) (by omega),i64_in (b1.toNat : Int) (by omega)]
 have q0 : Int.tmod (b0.toNat : Int) 32=((b0.toNat % 32 : Nat) : Int):=rH _ 32
 have q1 : Int.tmod (b1.toNat : Int) 64=((b1.toNat % 64 : Nat) : Int):=rH _ 64
 rw [q0,q1,i64_in (((b0.toNat % 32 : Nat) : Int) * 64) (by omega),i64_in _ (by omega)]
 rfl
theorem bDv (n : Nat) {t : ByteArray} {b0 b1 b2 : UInt8} (h : t.data.toList=[b0,b1,b2]) : f93 (n + 1) t=some ((b0.toNat % 16 * 4096 + b1.toNat % 64 * 64 + b2.toNat % 64 : Nat) : Int):=by
 have h0:=b_lt b0
 have h1:=b_lt b1
 have h2:=b_lt b2
 have hs : t.size=3:=by rw [qQ,h]; rfl
 have e0 : sat t 0=some (b0.toNat : Int):=qD h 0 b0 rfl
 have e1 : sat t 1=some (b1.toNat : Int):=qD h 1 b1 rfl
 have e2 : sat t 2=some (b2.toNat : Int):=qD h 2 b2 rfl
 simp only [f93,hs,show ((((3 : Nat) : Int)) == 1)=false from rfl,show ((((3 : Nat) : Int)) == 2)=false from rfl,cnd,kK e0,kK e1,kK e2]
 rw [i64_in (b0.toNat : Int) (by omega),i64_in (b1.toNat : Int) (by omega),i64_in (b2.toNat : Int) (by omega)]
 have q0 : Int.tmod (b0.toNat : Int) 16=((b0.toNat % 16 : Nat) : Int):=rH _ 16
 have q1 : Int.tmod (b1.toNat : Int) 64=((b1.toNat % 64 : Nat) : Int):=rH _ 64
 have q2 : Int.tmod (b2.toNat : Int) 64=((b2.toNat % 64 : Nat) : Int):=rH _ 64
 rw [q0,q1,q2,i64_in (((b0.toNat % 16 : Nat) : Int) * 4096) (by omega),i64_in (((b1.toNat % 64 : Nat) : Int) * 64) (by omega),i64_in (((b0.toNat % 16 : Nat) : Int) * 4096 + ((b1.toNat % 64 : Nat) : Int) * 64) (by omega),i64_in _ (by omega)]
 rfl
def sM (c : Nat) : List UInt8 :=
 if c < 128 then [UInt8.ofNat c]
 else if c < 2048 then [UInt8.ofNat (192 + c / 64),UInt8.ofNat (128 + c % 64)]
 else [UInt8.ofNat (224 + c / 4096),UInt8.ofNat (128 + c / 64 % 64),UInt8.ofNat (128 + c % 64)]
theorem aXj (n c : Nat) (hc : c < 65536) : ∃ t,f95 (n + 1) (c : Int)=some t∧t.data.toList=sM c:=by
 have q0 : Int.tdiv (c : Int) 64=((c / 64 : Nat) : Int):=aI9 c 64
 have q1 : Int.tmod (c : Int) 64=((c % 64 : Nat) : Int):=rH c 64
 have q2 : Int.tdiv (c : Int) 4096=((c / 4096 : Nat) : Int):=aI9 c 4096
 have q3 : Int.tmod ((c / 64 : Nat) : Int) 64=((c / 64 % 64 : Nat) : Int):=rH (c / 64) 64
 simp only [f95,sM]
 by_cases c1 : c < 128
 ·rw [decide_eq_true (show (c : Int) < 128 by omega),if_pos c1]
  refine ⟨_,rfl,?_⟩
  rw [u8_in _ (by omega)]
  rfl
 ·rw [decide_eq_false (show ¬ (c : Int) < 128 by omega),if_neg c1]
  by_cases c2 : c < 2048
  ·rw [decide_eq_true (show (c : Int) < 2048 by omega),if_pos c2]
   refine ⟨_,rfl,?_⟩
   rw [q0,q1,i64_in ((c / 64 : Nat) : Int) (by omega),i64_in _ (by omega),i64_in _ (by omega),u8_in _ (by omega),u8_in _ (by omega)]
   rfl
  ·rw [decide_eq_false (show ¬ (c : Int) < 2048 by omega),if_neg c2]
   refine ⟨_,rfl,?_⟩
   rw [q0,q1,q2,i64_in ((c / 64 : Nat) : Int) (by omega),i64_in ((c / 4096 : Nat) : Int) (by omega),q3,i64_in _ (by omega),i64_in _ (by omega),i64_in _ (by omega),u8_in _ (by omega),u8_in _ (by omega),u8_in _ (by omega)]
   rfl
theorem rO {a : Nat} {b : UInt8} (ha : a < 256) : UInt8.ofNat a=b ↔ a=b.toNat:=by
 rw [← UInt8.toNat_inj,UInt8.toNat_ofNat',Nat.mod_eq_of_lt ha]
end Go.Proofs.YtkdnaejhpcibnaaGreatDoor.Av
namespace Go.Proofs.YtkdnaejhpcibnaaGreatDoor.Av
open Go Go.IntWalk
theorem aAb {r : Int} (h : 0 ≤ scr r) : r < 55296:=by
 apply Classical.byContradiction
 intro hr
 have : scr r=-1:=by
  simp only [scr,tab0,aEl]
  iterate 13 rw [if_neg (by omega)]
 omega
theorem aE1 (s : ByteArray) {l : List UInt8} (h : s.data.toList=l) {i : Nat} {b : UInt8} (hb : l[i]? = some b) : s.get! i=b:=by
 subst h
 have : s.data[i]? = some b:=by simpa using hb
 have hlt : i < s.data.size:=(Array.getElem?_eq_some_iff.1 this).1
 show s.data[i]! = b
 rw [getElem!_pos s.data i hlt]
 exact (Array.getElem?_eq_some_iff.1 this).2
theorem tQ {s : ByteArray} {k : Nat} {b0 : UInt8} {r : List UInt8} (h : s.data.toList.drop k=b0 :: r) :
  (b0.toNat < 128→Utf8.decode s k=(b0.toNat,1)) ∧
  (∀ b1 q,r=b1 :: q→b0.toNat / 32=6→b1.toNat / 64=2→128 ≤ b0.toNat % 32 * 64 + b1.toNat % 64→Utf8.decode s k=(b0.toNat % 32 * 64 + b1.toNat % 64,2)) ∧
  (∀ b1 b2 q,r=b1 :: b2 :: q→b0.toNat / 16=14→b1.toNat / 64=2→b2.toNat / 64=2→2048 ≤ b0.toNat % 16 * 4096 + b1.toNat % 64 * 64 + b2.toNat % 64→b0.toNat % 16 * 4096 + b1.toNat % 64 * 64 + b2.toNat % 64 < 55296→Utf8.decode s k=(b0.toNat % 16 * 4096 + b1.toNat % 64 * 64 + b2.toNat % 64,3)) ∧
  (0 ≤ scr ((Utf8.decode s k).1 : Int)→b0.toNat < 128 ∨ (∃ b1 q,r=b1 :: q∧b0.toNat / 32=6∧b1.toNat / 64=2∧128 ≤ b0.toNat % 32 * 64 + b1.toNat % 64) ∨
   (∃ b1 b2 q,r=b1 :: b2 :: q∧b0.toNat / 16=14∧b1.toNat / 64=2∧b2.toNat / 64=2∧2048 ≤ b0.toNat % 16 * 4096 + b1.toNat % 64 * 64 + b2.toNat % 64)):=by
 have hget : ∀ j b,(b0 :: r)[j]? = some b→s.get! (k + j)=b:=by
  intro j b hb
  apply aE1 s rfl
  rw [← h,List.getElem?_drop] at hb
  exact hb
 have hsz : s.size=k + (b0 :: r).length:=by
  have:=congrArg List.length h
  rw [List.length_drop] at this
  rw [qQ]
  simp at this ⊢
  omega
 have g0 : s.get! (k + 0)=b0:=hget 0 b0 rfl
 have hb0:=b_lt b0
 refine ⟨?_,?_,?_,?_⟩
 ·intro h0
  simp only [Utf8.decode,g0,h0,if_true]
 ·intro b1 q hr h0 h1 hc
  have hb1:=b_lt b1
  have g1 : s.get! (k + 1)=b1:=hget 1 b1 (by rw [hr]; rfl)
  have hlt : k + 1 < s.size:=by rw [hsz,hr]; simp
  have n0 : ¬ b0.toNat < 128:=by omega
  simp only [Utf8.decode,g0,g1,n0,if_false,h0,h1,hlt,decide_true,Bool.and_self,beq_self_eq_true,if_true]
  rw [if_pos (by simpa using hc)]
 ·intro b1 b2 q hr h0 h1 h2 hc hv
  have hb1:=b_lt b1
  have hb2:=b_lt b2
  have g1 : s.get! (k + 1)=b1:=hget 1 b1 (by rw [hr]; rfl)
  have g2 : s.get! (k + 2)=b2:=hget 2 b2 (by rw [hr]; rfl)
  have hlt : k + 1 < s.size:=by rw [hsz,hr]; simp
  have hlt2 : k + 2 < s.size:=by rw [hsz,hr]; simp
  have n0 : ¬ b0.toNat < 128:=by omega
  have n1 : (b0.toNat / 32 == 6)=false:=by simp; omega
  have hval : Utf8.valid (b0.toNat % 16 * 4096 + b1.toNat % 64 * 64 + b2.toNat % 64 : Nat)=true:=by
   simp only [Utf8.valid,Bool.or_eq_true,Bool.and_eq_true,decide_eq_true_eq]
   left; omega
  simp only [Utf8.decode,g0,g1,g2,n0,if_false,n1,Bool.false_and,Bool.false_eq_true,h0,h1,h2,hlt,hlt2,decide_true,Bool.and_self,beq_self_eq_true,if_true]
  rw [if_pos (by rw [hval]; simpa using hc)]
 ·intro hs
  by_cases c0 : b0.toNat < 128
  ·exact .inl c0
  right
  have hbad : ¬ 0 ≤ scr ((65533 : Nat) : Int):=fun h=>by have:=aAb h; omega
  have eC : ∀ j,(decide (k + j < s.size) && (s.get! (k + j)).toNat / 64 == 2)=true→∃ b,(b0 :: r)[j]? = some b∧b.toNat / 64=2:=by
   intro j hj
   simp only [Bool.and_eq_true,decide_eq_true_eq,beq_iff_eq] at hj
   have hjl : j < (b0 :: r).length:=by omega
   refine ⟨(b0 :: r)[j],List.getElem?_eq_getElem hjl,?_⟩
   rw [← hget j _ (List.getElem?_eq_getElem hjl)]
   exact hj.2
  unfold Utf8.decode at hs
  simp only [Utf8.runeError,g0,c0,if_false] at hs
  split at hs
  ·rename_i hc
   rw [Bool.and_eq_true,beq_iff_eq] at hc
   split at hs
   ·rename_i hge
    left
    obtain ⟨b1,e1,e2⟩:=eC 1 hc.2
    cases r with
    | nil=>simp at e1
    | cons b q =>
     simp only [List.getElem?_cons_succ,List.getElem?_cons_zero,Option.some.injEq] at e1
     subst e1
     refine ⟨b,q,rfl,hc.1,e2,?_⟩
     have g1 : s.get! (k + 1)=b:=hget 1 b rfl
     rw [g1] at hge
     exact hge
   ·exact (hbad hs).elim
  ·split at hs
   ·rename_i hc
    rw [Bool.and_eq_true,Bool.and_eq_true,beq_iff_eq] at hc
    split at hs
    ·rename_i hge
     right
     obtain ⟨b1,e1,e2⟩:=eC 1 hc.1.2
     obtain ⟨b2,e3,e4⟩:=eC 2 hc.2
     match r,e1,e3 with
     | b :: d :: q,e1,e3 =>
      simp only [List.getElem?_cons_succ,List.getElem?_cons_zero,Option.some.injEq] at e1 e3
      subst e1
      subst e3
      have g1 : s.get! (k + 1)=b:=hget 1 b rfl
      have g2 : s.get! (k + 2)=d:=hget 2 d rfl
      rw [g1,g2,Bool.and_eq_true,decide_eq_true_eq] at hge
      exact ⟨b,d,q,rfl,hc.1.1,e2,e4,hge.1⟩
    ·exact (hbad hs).elim
   ·split at hs
    ·split at hs
     ·rename_i hge
      have:=aAb hs
      simp only [Bool.and_eq_true,decide_eq_true_eq] at hge
      omega
     ·exact (hbad hs).elim
    ·exact (hbad hs).elim
end Go.Proofs.YtkdnaejhpcibnaaGreatDoor.Av
namespace Go.Proofs.YtkdnaejhpcibnaaGreatDoor.Av
open Go Go.IntWalk
structure DecC (s : ByteArray) (k : Nat) (b0 : UInt8) (r : List UInt8) : Prop where
 d1 : b0.toNat < 128→Utf8.decode s k=(b0.toNat,1)
 d2 : ∀ b1 q,r=b1 :: q→b0.toNat / 32=6→b1.toNat / 64=2→128 ≤ b0.toNat % 32 * 64 + b1.toNat % 64→Utf8.decode s k=(b0.toNat % 32 * 64 + b1.toNat % 64,2)
 d3 : ∀ b1 b2 q,r=b1 :: b2 :: q→b0.toNat / 16=14→b1.toNat / 64=2→b2.toNat / 64=2→2048 ≤ b0.toNat % 16 * 4096 + b1.toNat % 64 * 64 + b2.toNat % 64→b0.toNat % 16 * 4096 + b1.toNat % 64 * 64 + b2.toNat % 64 < 55296→Utf8.decode s k=(b0.toNat % 16 * 4096 + b1.toNat % 64 * 64 + b2.toNat % 64,3)
 d4 : 0 ≤ scr ((Utf8.decode s k).1 : Int)→b0.toNat < 128 ∨ (∃ b1 q,r=b1 :: q∧b0.toNat / 32=6∧b1.toNat / 64=2∧128 ≤ b0.toNat % 32 * 64 + b1.toNat % 64) ∨
   (∃ b1 b2 q,r=b1 :: b2 :: q∧b0.toNat / 16=14∧b1.toNat / 64=2∧b2.toNat / 64=2∧2048 ≤ b0.toNat % 16 * 4096 + b1.toNat % 64 * 64 + b2.toNat % 64)
theorem unit1 {b0 : UInt8} : sM b0.toNat=[b0] ↔ b0.toNat < 128:=by
 have h0:=b_lt b0
 unfold sM
 split
 ·rename_i h; simp [rO h0,h]
 ·rename_i h; split <;> simp [h]
theorem unit2 {b0 b1 : UInt8} : sM (b0.toNat % 32 * 64 + b1.toNat % 64)=[b0,b1] ↔ 128 ≤ b0.toNat % 32 * 64 + b1.toNat % 64∧b0.toNat / 32=6∧b1.toNat / 64=2:=by
 have h0:=b_lt b0
 have h1:=b_lt b1
 unfold sM
 split
 ·rename_i h; simp; omega
 ·rename_i h
  rw [if_pos (by omega)]
  simp only [List.cons.injEq,and_true]
  rw [rO (by omega),rO (by omega)]
  omega
theorem unit3 {b0 b1 b2 : UInt8} : sM (b0.toNat % 16 * 4096 + b1.toNat % 64 * 64 + b2.toNat % 64)=[b0,b1,b2] ↔ 2048 ≤ b0.toNat % 16 * 4096 + b1.toNat % 64 * 64 + b2.toNat % 64∧b0.toNat / 16=14∧b1.toNat / 64=2∧b2.toNat / 64=2:=by
 have h0:=b_lt b0
 have h1:=b_lt b1
 have h2:=b_lt b2
 unfold sM
 split
 ·rename_i h; simp; omega
 ·split
  ·rename_i h; simp; omega
  ·rename_i h
   simp only [List.cons.injEq,and_true]
   rw [rO (by omega),rO (by omega),rO (by omega)]
   omega
theorem aLs (n : Nat) (s : ByteArray) (k : Int) (m : Nat) (l : List Int) (u i : Int) (hu : u ≠ 0) : oM n s k (m + 1) l u i=some (l,u):=by
 have h0 : (u == 0)=false:=beq_eq_false_iff_ne.2 hu
 simp only [oM,h0]
 cases decide (i ≤ 3) with
 | false=>rfl
 | true=>cases decide (IntKind.i64.wrap (k + i) ≤ ((s.size : Nat) : Int)) <;> rfl
theorem aAv (n : Nat) (s : ByteArray) (k j m : Nat) (l : List Int) (h : 3 < j ∨ s.size < k + j) (hk : k + j ≤ 1000) : oM n s (k : Int) (m + 1) l 0 (j : Int)=some (l,0):=by
 have hw : IntKind.i64.wrap ((k : Int) + (j : Int))=(k : Int) + j:=i64_in _ (by omega)
 simp only [oM,hw]
 rcases h with h | h
 ·rw [decide_eq_false (show ¬ (j : Int) ≤ 3 by omega)]; rfl
 ·rw [decide_eq_false (show ¬ (k : Int) + (j : Int) ≤ ((s.size : Nat) : Int) by omega)]
  cases decide ((j : Int) ≤ 3) <;> rfl
theorem vI (n : Nat) (s : ByteArray) (k j m c : Nat) (l : List Int) (hj : j ≤ 3) (hkj : k + j ≤ s.size) (hsz : s.size ≤ 40) (hl : l.length ≤ 1000) (hv : f93 (n + 2) (s.extract k (k + j))=some (c : Int)) (hc : c < 65536) (hj0 : 1 ≤ j) :
  oM (n + 2) s (k : Int) (m + 2) l 0 (j : Int)=if 0 ≤ scr (c : Int)∧sM c=(s.data.toList.drop k).take j then some (l++[(c : Int)],(j : Int)) else oM (n + 2) s (k : Int) (m + 1) l 0 ((j + 1 : Nat) : Int):=by
 have hw : IntKind.i64.wrap ((k : Int) + (j : Int))=((k + j : Nat) : Int):=by rw [i64_in _ (by omega)]; push_cast; rfl
 have hw2 : IntKind.i64.wrap ((j : Int) + 1)=((j + 1 : Nat) : Int):=by rw [i64_in _ (by omega)]; push_cast; rfl
 obtain ⟨hcut,hlist⟩:=zR hkj
 obtain ⟨t,ht1,ht2⟩:=aXj (n + 1) c hc
 have happ : app l [(c : Int)]=some (l++[(c : Int)]):=qK (by simp; omega)
 rw [oM,decide_eq_true (show (j : Int) ≤ 3 by omega),hw,decide_eq_true (show ((k + j : Nat) : Int) ≤ ((s.size : Nat) : Int) by omega)]
 simp only [cnd,show ((0 : Int) == 0)=true from rfl,kK hcut,kK hv,kK (aSm n (c : Int)),hw2,kK happ]
 by_cases c1 : 0 ≤ scr (c : Int)
 ·rw [decide_eq_true (show scr (c : Int) ≥ 0 from c1)]
  have ht1' : f95 (n + 2) (c : Int)=some t:=ht1
  simp only [kK ht1']
  by_cases c2 : t=s.extract k (k + j)
  ·rw [decide_eq_true c2,if_pos ⟨c1,by rw [← ht2,c2,hlist]⟩]
   exact aLs _ _ _ _ _ _ _ (by omega)
  ·rw [decide_eq_false c2,if_neg (fun h=>c2 (ba_ext.2 (by rw [ht2,h.2,hlist])))]
 ·rw [decide_eq_false (show ¬ scr (c : Int) ≥ 0 from c1),if_neg (fun h=>c1 h.1)]
theorem bDs (n : Nat) (s : ByteArray) (k m : Nat) (l : List Int) (hk : k < s.size) (hsz : s.size ≤ 40) (hl : l.length ≤ 1000) (hm : 5 ≤ m) (hn : 2 ≤ n) :
  oM n s (k : Int) m l 0 1=some (if 0 ≤ scr ((Utf8.decode s k).1 : Int) then (l++[((Utf8.decode s k).1 : Int)],((Utf8.decode s k).2 : Int)) else (l,0)):=by
 obtain ⟨n,rfl⟩ : ∃ z,n=z + 2:=⟨n - 2,by omega⟩
 obtain ⟨m,rfl⟩ : ∃ z,m=z + 5:=⟨m - 5,by omega⟩
 have hlt : k < s.data.toList.length:=by rw [← qQ]; exact hk
 have hd : s.data.toList.drop k=s.data.toList[k] :: s.data.toList.drop (k + 1):=List.drop_eq_getElem_cons hlt
 have hlen : (s.data.toList.drop (k + 1)).length=s.size - (k + 1):=by rw [List.length_drop,← qQ]
 generalize s.data.toList[k]=b0 at hd
 generalize s.data.toList.drop (k + 1)=r at hd hlen
 have D : DecC s k b0 r:=⟨(tQ hd).1,(tQ hd).2.1,(tQ hd).2.2.1,(tQ hd).2.2.2⟩
 have h0:=b_lt b0
 have e1 : (s.extract k (k + 1)).data.toList=[b0]:=by rw [(zR (s:=s) (k:=k) (j:=1) (by omega)).2,hd]; rfl
 have r1:=vI n s k 1 (m + 3) b0.toNat l (by omega) (by omega) hsz hl (bDx (n + 1) e1) (by omega) (by omega)
 have t1 : (s.data.toList.drop k).take 1=[b0]:=by rw [hd]; rfl
 rw [t1] at r1
 have g1 : oM (n + 2) s (k : Int) (m + 5) l 0 1=_:=r1
 rw [g1]
 by_cases A1 : 0 ≤ scr (b0.toNat : Int)∧sM b0.toNat=[b0]
 ·rw [if_pos A1,D.d1 (unit1.1 A1.2),if_pos A1.1]
 ·rw [if_neg A1]
  match r,hd,hlen,D with
  | [],hd,hlen,D =>
   have hl0 : s.size=k + 1:=by simp at hlen; omega
   rw [aAv (n + 2) s k 2 (m + 3) l (.inr (by omega)) (by omega),if_neg]
   intro hs
   rcases D.d4 hs with q | ⟨_,_,q,_⟩ | ⟨_,_,_,q,_⟩
   ·rw [D.d1 q] at hs; exact A1 ⟨hs,unit1.2 q⟩
   ·cases q
   ·cases q
  | b1 :: q,hd,hlen,D =>
   have h1:=b_lt b1
   have hsz2 : k + 2 ≤ s.size:=by simp at hlen; omega
   have e2 : (s.extract k (k + 2)).data.toList=[b0,b1]:=by rw [(zR (s:=s) (k:=k) (j:=2) hsz2).2,hd]; rfl
   have r2:=vI n s k 2 (m + 2) _ l (by omega) hsz2 hsz hl (bDw (n + 1) e2) (by omega) (by omega)
   have t2 : (s.data.toList.drop k).take 2=[b0,b1]:=by rw [hd]; rfl
   rw [t2] at r2
   have g2 : oM (n + 2) s (k : Int) (m + 4) l 0 ((1 + 1 : Nat) : Int)=_:=r2
   show oM (n + 2) s (k : Int) (m + 4) l 0 ((1 + 1 : Nat) : Int)=_
   rw [g2]
   by_cases A2 : 0 ≤ scr ((b0.toNat % 32 * 64 + b1.toNat % 64 : Nat) : Int)∧sM (b0.toNat % 32 * 64 + b1.toNat % 64)=[b0,b1]
   ·have B:=unit2.1 A2.2
    rw [if_pos A2,D.d2 b1 q rfl B.2.1 B.2.2 B.1,if_pos A2.1]
   ·rw [if_neg A2]
    match q,hd,hlen,D with
    | [],hd,hlen,D =>
     have hl0 : s.size=k + 2:=by simp at hlen; omega
     rw [show ((2 + 1 : Nat) : Int)=((3 : Nat) : Int) from rfl,aAv (n + 2) s k 3 (m + 2) l (.inr (by omega)) (by omega),if_neg]
     intro hs
     rcases D.d4 hs with z | ⟨x,y,z,z1,z2,z3⟩ | ⟨_,_,_,z,_⟩
     ·rw [D.d1 z] at hs; exact A1 ⟨hs,unit1.2 z⟩
     ·cases z
      rw [D.d2 _ _ rfl z1 z2 z3] at hs
      exact A2 ⟨hs,unit2.2 ⟨z3,z1,z2⟩⟩
     ·cases z
    | b2 :: q,hd,hlen,D =>
     have h2:=b_lt b2
     have hsz3 : k + 3 ≤ s.size:=by simp at hlen; omega
     have e3 : (s.extract k (k + 3)).data.toList=[b0,b1,b2]:=by rw [(zR (s:=s) (k:=k) (j:=3) hsz3).2,hd]; rfl
     have r3:=vI n s k 3 (m + 1) _ l (by omega) hsz3 hsz hl (bDv (n + 1) e3) (by omega) (by omega)
     have t3 : (s.data.toList.drop k).take 3=[b0,b1,b2]:=by rw [hd]; rfl
     rw [t3] at r3
     show oM (n + 2) s (k : Int) (m + 1 + 2) l 0 ((3 : Nat) : Int)=_
     rw [r3]
     by_cases A3 : 0 ≤ scr ((b0.toNat % 16 * 4096 + b1.toNat % 64 * 64 + b2.toNat % 64 : Nat) : Int)∧sM (b0.toNat % 16 * 4096 + b1.toNat % 64 * 64 + b2.toNat % 64)=[b0,b1,b2]
     ·have hv:=aAb A3.1
      have B:=unit3.1 A3.2
      rw [if_pos A3,D.d3 b1 b2 q rfl B.2.1 B.2.2.1 B.2.2.2 B.1 (by omega),if_pos A3.1]
     ·rw [if_neg A3,aAv (n + 2) s k 4 (m + 1) l (.inl (by omega)) (by omega),if_neg]
      intro hs
      rcases D.d4 hs with z | ⟨x,y,z,z1,z2,z3⟩ | ⟨x,y,w,z,z1,z2,z3,z4⟩
      ·rw [D.d1 z] at hs; exact A1 ⟨hs,unit1.2 z⟩
      ·cases z
       rw [D.d2 _ _ rfl z1 z2 z3] at hs
       exact A2 ⟨hs,unit2.2 ⟨z3,z1,z2⟩⟩
      ·cases z
       by_cases hv : b0.toNat % 16 * 4096 + b1.toNat % 64 * 64 + b2.toNat % 64 < 55296
       ·rw [D.d3 _ _ _ rfl z1 z2 z3 z4 hv] at hs
        exact A3 ⟨hs,unit3.2 ⟨z4,z1,z2,z3⟩⟩
       ·have hb:=b_lt b0
        have hdec : (Utf8.decode s k).1=65533 ∨ (Utf8.decode s k).1=b0.toNat % 16 * 4096 + b1.toNat % 64 * 64 + b2.toNat % 64:=by
         have hget : ∀ j b,(b0 :: b1 :: b2 :: q)[j]? = some b→s.get! (k + j)=b:=by
          intro j b hb
          apply aE1 s rfl
          rw [← hd,List.getElem?_drop] at hb
          exact hb
         have g0 : s.get! (k + 0)=b0:=hget 0 b0 rfl
         have g1 : s.get! (k + 1)=b1:=hget 1 b1 rfl
         have g2 : s.get! (k + 2)=b2:=hget 2 b2 rfl
         have n0 : ¬ b0.toNat < 128:=by omega
         have n1 : (b0.toNat / 32 == 6)=false:=by simp; omega
         have l1 : k + 1 < s.size:=by omega
         have l2 : k + 2 < s.size:=by omega
         simp only [Utf8.decode,g0,g1,g2,n0,if_false,n1,Bool.false_and,Bool.false_eq_true,z1,z2,z3,l1,l2,decide_true,Bool.and_self,beq_self_eq_true,if_true]
         split
         ·exact .inr rfl
         ·exact .inl rfl
        rcases hdec with q | q
        ·rw [q] at hs; have:=aAb hs; omega
        ·rw [q] at hs; have:=aAb hs; omega
end Go.Proofs.YtkdnaejhpcibnaaGreatDoor.Av
namespace Go.Proofs.YtkdnaejhpcibnaaGreatDoor.Av
open Go Go.IntWalk
theorem aFj (s : ByteArray) (k : Nat) : 1 ≤ (Utf8.decode s k).2∧(Utf8.decode s k).2 ≤ 4∧(Utf8.decode s k).1 < 2097152:=by
 have h0:=b_lt (s.get! (k + 0))
 have h1:=b_lt (s.get! (k + 1))
 have h2:=b_lt (s.get! (k + 2))
 have h3:=b_lt (s.get! (k + 3))
 unfold Utf8.decode
 simp only [Utf8.runeError]
 have hk : ∀ (p : Prop) [Decidable p] (a b : Nat × Nat),(p→(1 ≤ a.2∧a.2 ≤ 4∧a.1 < 2097152))→(1 ≤ b.2∧b.2 ≤ 4∧b.1 < 2097152)→(1 ≤ (if p then a else b).2∧(if p then a else b).2 ≤ 4∧(if p then a else b).1 < 2097152):=by
  intro p _ a b h1 h2
  split
  ·exact h1 (by assumption)
  ·exact h2
 repeat' (first | (apply hk; intro _) | apply hk)
 all_goals (simp only []; omega)
def dl (s : ByteArray) : Nat→Nat→Option (List Int)
 | 0,_=>none
 | f + 1,k=>if k < s.size then (if 0 ≤ scr ((Utf8.decode s k).1 : Int) then (match dl s f (k + (Utf8.decode s k).2) with | some r=>some (((Utf8.decode s k).1 : Int) :: r) | none=>none) else none) else some []
theorem aOj (n : Nat) (hn : 15 ≤ n) (s : ByteArray) (hs : s.size ≤ 40) : ∀ (m : Nat) (l : List Int) (k : Nat),s.size - k < m→l.length + (s.size - k) ≤ 100 →
  ∃ z,aDp n s m l k=some z∧(match dl s m k with | some r=>∃ q,z=.inr (l++r,q) | none=>∃ q,z=.inl q):=by
 intro m
 induction m with
 | zero=>intro l k h; omega
 | succ m ih =>
  intro l k h hl
  obtain ⟨w1,w2,w3⟩:=aFj s k
  simp only [aDp,dl]
  by_cases hk : k < s.size
  ·rw [decide_eq_true hk,if_pos hk]
   have hw : IntKind.i64.wrap (((Utf8.decode s k).1 : Nat) : Int)=((Utf8.decode s k).1 : Int):=i64_in _ (by omega)
   have happ : app l [((Utf8.decode s k).1 : Int)]=some (l++[((Utf8.decode s k).1 : Int)]):=qK (by simp; omega)
   simp only [cnd,hw,kK (aSo n _ hn),kK happ]
   by_cases hc : 0 ≤ scr ((Utf8.decode s k).1 : Int)
   ·rw [decide_eq_false (show ¬ scr ((Utf8.decode s k).1 : Int) < 0 by omega),if_pos hc]
    obtain ⟨z,z1,z2⟩:=ih (l++[((Utf8.decode s k).1 : Int)]) (k + (Utf8.decode s k).2) (by omega) (by simp; omega)
    refine ⟨z,z1,?_⟩
    cases hd : dl s m (k + (Utf8.decode s k).2) with
    | none=>rw [hd] at z2; exact z2
    | some r =>
     rw [hd] at z2
     obtain ⟨q,rfl⟩:=z2
     exact ⟨q,by simp⟩
   ·rw [decide_eq_true (show scr ((Utf8.decode s k).1 : Int) < 0 by omega),if_neg hc]
    exact ⟨_,rfl,_,rfl⟩
  ·rw [decide_eq_false hk,if_neg hk]
   exact ⟨_,rfl,_,by rw [List.append_nil]⟩
theorem aOx (n : Nat) (hn : 10 ≤ n) (s : ByteArray) (hs : s.size ≤ 40) : ∀ (m : Nat) (l : List Int) (k : Nat),s.size - k < m→l.length + (s.size - k) ≤ 100→k ≤ 100 →
  ∃ z,aBn n s m l (k : Int)=some z∧(match dl s m k with | some r=>z=.inr (l++r) | none=>∃ q,z=.inl q):=by
 intro m
 induction m with
 | zero=>intro l k h; omega
 | succ m ih =>
  intro l k h hl hk0
  obtain ⟨w1,w2,w3⟩:=aFj s k
  simp only [aBn,dl]
  by_cases hk : k < s.size
  ·rw [decide_eq_true (show (k : Int) < ((s.size : Nat) : Int) by omega),if_pos hk]
   simp only [cnd,kK (bDs n s k n l hk hs (by omega) (by omega) (by omega))]
   by_cases hc : 0 ≤ scr ((Utf8.decode s k).1 : Int)
   ·have hw : IntKind.i64.wrap ((k : Int) + ((Utf8.decode s k).2 : Int))=((k + (Utf8.decode s k).2 : Nat) : Int):=by rw [i64_in _ (by omega)]; push_cast; rfl
    have hne : (((Utf8.decode s k).2 : Int) == 0)=false:=beq_eq_false_iff_ne.2 (by omega)
    rw [if_pos hc,if_pos hc]
    simp only [hw,hne]
    obtain ⟨z,z1,z2⟩:=ih (l++[((Utf8.decode s k).1 : Int)]) (k + (Utf8.decode s k).2) (by omega) (by simp; omega) (by omega)
    refine ⟨z,z1,?_⟩
    cases hd : dl s m (k + (Utf8.decode s k).2) with
    | none=>rw [hd] at z2; exact z2
    | some r =>
     rw [hd] at z2
     rw [z2]; simp
   ·rw [if_neg hc,if_neg hc]
    exact ⟨_,rfl,_,rfl⟩
  ·rw [decide_eq_false (show ¬ (k : Int) < ((s.size : Nat) : Int) by omega),if_neg hk]
   exact ⟨_,rfl,by simp⟩
theorem aPi (s : ByteArray) : ∀ (m m' k : Nat),s.size - k < m→s.size - k < m'→dl s m k=dl s m' k:=by
 intro m
 induction m with
 | zero=>intro m' k h; omega
 | succ m ih =>
  intro m' k h h'
  obtain ⟨m',rfl⟩ : ∃ z,m'=z + 1:=⟨m' - 1,by omega⟩
  obtain ⟨w1,_,_⟩:=aFj s k
  simp only [dl]
  by_cases hk : k < s.size
  ·rw [if_pos hk,if_pos hk,ih m' (k + (Utf8.decode s k).2) (by omega) (by omega)]
  ·rw [if_neg hk,if_neg hk]
def dls (s : ByteArray) : Option (List Int):=dl s (s.size + 1) 0
theorem aXm (n : Nat) (hn : 50 ≤ n) (s : ByteArray) (hs : s.size ≤ 40) : f85 n s=some (match dls s with | some r=>(r,0) | none=>([],4)):=by
 obtain ⟨n,rfl⟩ : ∃ z,n=z + 1:=⟨n - 1,by omega⟩
 obtain ⟨z,h1,h2⟩:=aOj n (by omega) s hs n [] 0 (by omega) (by simp; omega)
 rw [aPi s n (s.size + 1) 0 (by omega) (by omega)] at h2
 simp only [f85,h1,dls]
 cases hd : dl s (s.size + 1) 0 with
 | none=>rw [hd] at h2; obtain ⟨q,rfl⟩:=h2; rfl
 | some r=>rw [hd] at h2; obtain ⟨q,rfl⟩:=h2; rfl
theorem aX7 (n : Nat) (hn : 50 ≤ n) (s : ByteArray) (hs : s.size ≤ 40) : f70 n s=some (match dls s with | some r=>(r,0) | none=>([],4)):=by
 obtain ⟨n,rfl⟩ : ∃ z,n=z + 1:=⟨n - 1,by omega⟩
 obtain ⟨z,h1,h2⟩:=aOx n (by omega) s hs n [] 0 (by omega) (by simp; omega) (by omega)
 rw [aPi s n (s.size + 1) 0 (by omega) (by omega)] at h2
 have h1' : aBn n s n [] 0=some z:=h1
 simp only [f70,h1',dls]
 cases hd : dl s (s.size + 1) 0 with
 | none=>rw [hd] at h2; obtain ⟨q,rfl⟩:=h2; rfl
 | some r=>rw [hd] at h2; subst h2; rfl
end Go.Proofs.YtkdnaejhpcibnaaGreatDoor.Av
namespace Go.Proofs.YtkdnaejhpcibnaaGreatDoor.Av
open Go Go.IntWalk
def adj {α : Type} [DecidableEq α] (z : α) : List α→Bool
 | []=>false
 | a :: r=>(decide (a=z) && decide (r.head? = some z)) || adj z r
theorem aG6 (l : List UInt8) : Lib.contains l [32,32]=adj 32 l:=by
 induction l with
 | nil=>rfl
 | cons b l ih =>
  unfold Lib.contains at ih ⊢
  unfold Lib.index
  have hp : ([32,32] : List UInt8).isPrefixOf (b :: l)=(decide (b=32) && decide (l.head? = some 32)):=by
   cases l with
   | nil=>simp [List.isPrefixOf]
   | cons c r =>
    simp only [List.isPrefixOf,Bool.and_true,List.head?_cons,Option.some.injEq]
    congr 1
    ·rw [Bool.eq_iff_iff,beq_iff_eq,decide_eq_true_eq]; exact eq_comm
    ·rw [Bool.eq_iff_iff,beq_iff_eq,decide_eq_true_eq]; exact eq_comm
  rw [hp]
  simp only [adj]
  rw [← ih]
  have hge:=Lib.index_ge l [32,32]
  cases (decide (b=32) && decide (l.head? = some 32)) with
  | true=>simp
  | false =>
   simp only [Bool.false_eq_true,if_false,Bool.false_or]
   by_cases h : Lib.index l [32,32]=-1
   ·simp [h]
   ·have : (Lib.index l [32,32] == -1)=false:=beq_eq_false_iff_ne.2 h
    rw [this]
    simp only [Bool.false_eq_true,if_false]
    rw [decide_eq_true (by omega),decide_eq_true (by omega)]
def UB (c : Int) : List UInt8:=sM c.toNat
def good (c : Int) : Prop:=0 ≤ scr c
theorem aQy {c : Int} (h : good c) : 32 ≤ c∧c < 55296:=by
 refine ⟨?_,aAb h⟩
 apply Classical.byContradiction
 intro hc
 have : scr c=-1:=by
  simp only [scr,tab0,aEl]
  iterate 13 rw [if_neg (by omega)]
 unfold good at h
 omega
theorem aVy : UB 32=[32]:=rfl
theorem bA2 {c : Int} (h : good c) : UB c ≠ []:=by
 unfold UB sM
 split
 ·simp
 ·split <;> simp
theorem aP0 {c : Int} (h : good c) (hc : c ≠ 32) : ∀ b ∈ UB c,b ≠ 32:=by
 obtain ⟨h1,h2⟩:=aQy h
 have key : ∀ a : Nat,a < 256→a ≠ 32→UInt8.ofNat a ≠ 32:=by
  intro a ha hne e
  apply hne
  have:=(rO (b:=32) ha).1 e
  simpa using this
 unfold UB sM
 intro b hb
 split at hb
 ·simp only [List.mem_singleton] at hb
  subst hb
  exact key _ (by omega) (by omega)
 ·split at hb
  ·simp only [List.mem_cons,List.not_mem_nil,or_false] at hb
   rcases hb with rfl | rfl
   ·exact key _ (by omega) (by omega)
   ·exact key _ (by omega) (by omega)
  ·simp only [List.mem_cons,List.not_mem_nil,or_false] at hb
   rcases hb with rfl | rfl | rfl
   ·exact key _ (by omega) (by omega)
   ·exact key _ (by omega) (by omega)
   ·exact key _ (by omega) (by omega)
theorem aGf (l : List Int) (hl : ∀ c ∈ l,good c) : (l.flatMap UB).head? = some 32 ↔ l.head? = some 32:=by
 cases l with
 | nil=>simp
 | cons c r =>
  have hg:=hl c (by simp)
  rw [List.flatMap_cons]
  by_cases hc : c=32
  ·subst hc; simp [aVy]
  ·cases hu : UB c with
   | nil=>exact (bA2 hg hu).elim
   | cons b q =>
    have:=aP0 hg hc b (by rw [hu]; simp)
    simp [this,hc]
theorem aRz (xs ys : List UInt8) (h : ∀ b ∈ xs,b ≠ 32) : adj 32 (xs++ys)=adj 32 ys:=by
 induction xs with
 | nil=>rfl
 | cons b q ih =>
  have hb:=h b (by simp)
  simp only [List.cons_append,adj,hb,decide_false,Bool.false_and,Bool.false_or]
  exact ih fun b hb=>h b (by simp [hb])
theorem aR0 (l : List Int) (hl : ∀ c ∈ l,good c) : adj 32 (l.flatMap UB)=adj 32 l:=by
 induction l with
 | nil=>rfl
 | cons c r ih =>
  have hg:=hl c (by simp)
  have hr : ∀ c ∈ r,good c:=fun c hc=>hl c (by simp [hc])
  rw [List.flatMap_cons]
  by_cases hc : c=32
  ·subst hc
   rw [aVy]
   simp only [List.cons_append,List.nil_append,adj,ih hr,decide_true,Bool.true_and]
   congr 1
   rw [Bool.eq_iff_iff]
   simp only [decide_eq_true_eq]
   exact aGf r hr
  ·rw [aRz _ _ (aP0 hg hc),ih hr]
   simp [adj,hc]
theorem aNr (l : List Int) (hl : ∀ c ∈ l,good c) : (l.flatMap UB).getLast? = some 32 ↔ l.getLast? = some 32:=by
 rcases List.eq_nil_or_concat l with rfl | ⟨q,c,rfl⟩
 ·simp
 ·have hg:=hl c (by simp)
  rw [List.concat_eq_append,List.flatMap_append,List.flatMap_cons,List.flatMap_nil,List.append_nil,List.getLast?_append,List.getLast?_append]
  simp only [List.getLast?_singleton,Option.some_or,Option.some.injEq]
  by_cases hc : c=32
  ·subst hc; simp [aVy]
  ·have hne:=bA2 hg
   rw [List.getLast?_eq_some_getLast hne]
   simp only [Option.some_or,Option.some.injEq,hc,iff_false]
   exact aP0 hg hc _ (List.getLast_mem hne)
theorem aMj {s : ByteArray} {k : Nat} (hk : k < s.size) (hs : 0 ≤ scr ((Utf8.decode s k).1 : Int)) :
  s.data.toList.drop k=UB ((Utf8.decode s k).1 : Int)++s.data.toList.drop (k + (Utf8.decode s k).2):=by
 have hlt : k < s.data.toList.length:=by rw [← qQ]; exact hk
 have hd : s.data.toList.drop k=s.data.toList[k] :: s.data.toList.drop (k + 1):=List.drop_eq_getElem_cons hlt
 generalize s.data.toList[k]=b0 at hd
 generalize hr : s.data.toList.drop (k + 1)=r at hd
 have hdd : ∀ j,s.data.toList.drop (k + 1 + j)=r.drop j:=by
  intro j
  rw [← hr,List.drop_drop]
 obtain ⟨D1,D2,D3,D4⟩:=tQ hd
 rcases D4 hs with z | ⟨b1,q,z,z1,z2,z3⟩ | ⟨b1,b2,q,z,z1,z2,z3,z4⟩
 ·rw [D1 z,hd]
  show b0 :: r=sM b0.toNat++s.data.toList.drop (k + 1)
  rw [unit1.2 z,hr]; rfl
 ·rw [D2 b1 q z z1 z2 z3,hd]
  show b0 :: r=sM (b0.toNat % 32 * 64 + b1.toNat % 64)++s.data.toList.drop (k + 1 + 1)
  rw [unit2.2 ⟨z3,z1,z2⟩,hdd 1,z]; rfl
 ·by_cases hv : b0.toNat % 16 * 4096 + b1.toNat % 64 * 64 + b2.toNat % 64 < 55296
  ·rw [D3 b1 b2 q z z1 z2 z3 z4 hv,hd]
   show b0 :: r=sM (b0.toNat % 16 * 4096 + b1.toNat % 64 * 64 + b2.toNat % 64)++s.data.toList.drop (k + 1 + 2)
   rw [unit3.2 ⟨z4,z1,z2,z3⟩,hdd 2,z]; rfl
  ·exfalso
   clear D1 D2 D3 D4
   have hget : ∀ j b,(b0 :: r)[j]? = some b→s.get! (k + j)=b:=by
    intro j b hb
    apply aE1 s rfl
    rw [← hd,List.getElem?_drop] at hb
    exact hb
   have hsz : s.size=k + (b0 :: r).length:=by
    have:=congrArg List.length hd
    rw [List.length_drop] at this
    rw [qQ]
    simp only [List.length_cons] at this ⊢
    omega
   subst z
   have g0 : s.get! (k + 0)=b0:=hget 0 b0 rfl
   have g1 : s.get! (k + 1)=b1:=hget 1 b1 rfl
   have g2 : s.get! (k + 2)=b2:=hget 2 b2 rfl
   have n0 : ¬ b0.toNat < 128:=by omega
   have hb0:=b_lt b0
   have n1 : (b0.toNat / 32 == 6)=false:=by simp; omega
   have l1 : k + 1 < s.size:=by rw [hsz]; simp
   have l2 : k + 2 < s.size:=by rw [hsz]; simp
   have hdec : (Utf8.decode s k).1=65533 ∨ (Utf8.decode s k).1=b0.toNat % 16 * 4096 + b1.toNat % 64 * 64 + b2.toNat % 64:=by
    simp only [Utf8.decode,g0,g1,g2,n0,if_false,n1,Bool.false_and,Bool.false_eq_true,z1,z2,z3,l1,l2,decide_true,Bool.and_self,beq_self_eq_true,if_true]
    split
    ·exact .inr rfl
    ·exact .inl rfl
   have:=aAb hs
   rcases hdec with q | q <;> rw [q] at this <;> omega
theorem aVo (s : ByteArray) : ∀ (m k : Nat) (r : List Int),dl s m k=some r→s.data.toList.drop k=r.flatMap UB∧(∀ c ∈ r,good c)∧r.length ≤ s.size - k:=by
 intro m
 induction m with
 | zero=>intro k r h; cases h
 | succ m ih =>
  intro k r h
  simp only [dl] at h
  split at h
  ·rename_i hk
   split at h
   ·rename_i hc
    split at h
    ·rename_i q hq
     cases h
     obtain ⟨h1,h2,h3⟩:=ih _ _ hq
     obtain ⟨w1,_,_⟩:=aFj s k
     refine ⟨?_,?_,?_⟩
     ·rw [List.flatMap_cons,← h1]; exact aMj hk hc
     ·intro c hc'
      rcases List.mem_cons.1 hc' with rfl | hc'
      ·exact hc
      ·exact h2 c hc'
     ·simp only [List.length_cons]; omega
    ·cases h
   ·cases h
  ·rename_i hk
   cases h
   refine ⟨?_,by simp,by simp⟩
   rw [List.drop_eq_nil_of_le (by rw [← qQ]; omega)]
   rfl
end Go.Proofs.YtkdnaejhpcibnaaGreatDoor.Av
namespace Go.Proofs.YtkdnaejhpcibnaaGreatDoor.Av
open Go Go.IntWalk
def anyS (l : List Int) : Bool:=l.any fun c=>decide (scr c ≠ 0)
theorem aHj (a : Int) (r : List Int) : anyS (a :: r)=(decide (scr a ≠ 0) || anyS r):=rfl
theorem pN {α : Type} {l : List α} {i : Nat} (h : i < l.length) : l.drop i=l[i] :: l.drop (i + 1):=List.drop_eq_getElem_cons h
theorem nI {α : Type} {l : List α} {i : Nat} (h : i < l.length) : idx l (i : Int)=some l[i]:=by rw [aOb,List.getElem?_eq_getElem h]
theorem lE {i : Nat} (h : i < 100000) : IntKind.i64.wrap ((i : Int) + 1)=((i + 1 : Nat) : Int):=by rw [i64_in _ (by omega)]; push_cast; rfl
theorem sQ {i : Nat} (h : i < 100000) (h1 : 1 ≤ i) : IntKind.i64.wrap ((i : Int) - 1)=((i - 1 : Nat) : Int):=by rw [i64_in _ (by omega)]; omega
theorem aO0 (n : Nat) (hn : 15 ≤ n) (v : List Int × Int) : ∀ (d m i : Nat),i + d=v.1.length→d < m→v.1.length ≤ 1000→yU n v m (i : Int)=some (if anyS (v.1.drop i) then .inl () else .inr ()):=by
 intro d
 induction d with
 | zero =>
  intro m i hi hm hl
  obtain ⟨m,rfl⟩ : ∃ z,m=z + 1:=⟨m - 1,by omega⟩
  rw [yU,decide_eq_false (by omega),List.drop_eq_nil_of_le (by omega)]
  rfl
 | succ d ih =>
  intro m i hi hm hl
  obtain ⟨m,rfl⟩ : ∃ z,m=z + 1:=⟨m - 1,by omega⟩
  have hlt : i < v.1.length:=by omega
  rw [yU,decide_eq_true (by omega),pN hlt]
  simp only [cnd,kK (nI hlt),kK (aSo n _ hn),lE (show i < 100000 by omega),ih m (i + 1) (by omega) (by omega) hl]
  rw [aHj]
  by_cases hc : scr v.1[i]=0
  ·rw [show (scr v.1[i] != 0)=false by simp [hc],decide_eq_false (fun h=>h hc),Bool.false_or]
  ·rw [show (scr v.1[i] != 0)=true by simp [hc],decide_eq_true hc]; rfl
theorem aOv (n : Nat) (hn : 2 ≤ n) (v : List Int) : ∀ (d m i : Nat),i + d=v.length→d < m→v.length ≤ 1000→yT n v m (i : Int)=some (if anyS (v.drop i) then .inl () else .inr ()):=by
 intro d
 obtain ⟨n,rfl⟩ : ∃ z,n=z + 2:=⟨n - 2,by omega⟩
 induction d with
 | zero =>
  intro m i hi hm hl
  obtain ⟨m,rfl⟩ : ∃ z,m=z + 1:=⟨m - 1,by omega⟩
  rw [yT,decide_eq_false (by omega),List.drop_eq_nil_of_le (by omega)]
  rfl
 | succ d ih =>
  intro m i hi hm hl
  obtain ⟨m,rfl⟩ : ∃ z,m=z + 1:=⟨m - 1,by omega⟩
  have hlt : i < v.length:=by omega
  rw [yT,decide_eq_true (by omega),pN hlt]
  simp only [cnd,kK (nI hlt),kK (aSm n _),lE (show i < 100000 by omega),ih m (i + 1) (by omega) (by omega) hl]
  rw [aHj]
  by_cases hc : scr v[i]=0
  ·rw [show (scr v[i] != 0)=false by simp [hc],decide_eq_false (fun h=>h hc),Bool.false_or]
  ·rw [show (scr v[i] != 0)=true by simp [hc],decide_eq_true hc]; rfl
theorem aOw (n : Nat) (v : List Int) : ∀ (d m i : Nat),i + d=v.length→d < m→v.length ≤ 1000→1 ≤ i→wI n v m (i : Int)=some (if adj 32 (v.drop (i - 1)) then .inl () else .inr ()):=by
 intro d
 induction d with
 | zero =>
  intro m i hi hm hl h1
  obtain ⟨m,rfl⟩ : ∃ z,m=z + 1:=⟨m - 1,by omega⟩
  have hlt : i - 1 < v.length:=by omega
  rw [wI,decide_eq_false (by omega),pN hlt,List.drop_eq_nil_of_le (by omega)]
  simp [cnd,adj]
 | succ d ih =>
  intro m i hi hm hl h1
  obtain ⟨m,rfl⟩ : ∃ z,m=z + 1:=⟨m - 1,by omega⟩
  have hlt : i < v.length:=by omega
  have hlt' : i - 1 < v.length:=by omega
  have e : i - 1 + 1=i:=by omega
  rw [wI,decide_eq_true (by omega),pN hlt']
  have ihh:=ih m (i + 1) (by omega) (by omega) hl (by omega)
  rw [show i + 1 - 1=i from rfl] at ihh
  simp only [cnd,kK (nI hlt),sQ (show i < 100000 by omega) h1,kK (nI hlt'),lE (show i < 100000 by omega),ihh,e,adj]
  have hh : (v.drop i).head? = some v[i]:=by rw [pN hlt]; rfl
  rw [hh]
  by_cases hc : v[i]=32
  ·rw [show (v[i] == 32)=true by simp [hc]]
   by_cases hc' : v[i - 1]=32
   ·rw [show (v[i - 1] == 32)=true by simp [hc']]
    simp [hc,hc']
   ·rw [show (v[i - 1] == 32)=false by simp [hc']]
    simp [hc,hc']
  ·rw [show (v[i] == 32)=false by simp [hc]]
   simp [hc]
theorem aX4 (n : Nat) (hn : 100 ≤ n) (v : List Int) (hv : v.length ≤ 40) : f72 n v=some (!anyS v):=by
 obtain ⟨n,rfl⟩ : ∃ z,n=z + 1:=⟨n - 1,by omega⟩
 have h:=aOv n (by omega) v v.length n 0 (by omega) (by omega) (by omega)
 have h' : yT n v n 0=_:=h
 rw [f72,h',List.drop_zero]
 cases anyS v <;> rfl
theorem aX5 (n : Nat) (hn : 100 ≤ n) (v : List Int) (hv : v.length ≤ 40) (h0 : v ≠ []) : f71 n v=some (decide (v.head? = some 32) || decide (v.getLast? = some 32) || adj 32 v):=by
 obtain ⟨n,rfl⟩ : ∃ z,n=z + 1:=⟨n - 1,by omega⟩
 have hl : 0 < v.length:=List.length_pos_iff.2 h0
 have h:=aOw n v (v.length - 1) n 1 (by omega) (by omega) (by omega) (by omega)
 have h' : wI n v n 1=_:=h
 have i0 : idx v 0=some v[0]:=nI hl
 have hlt : v.length - 1 < v.length:=by omega
 have i1 : idx v (IntKind.i64.wrap (((v.length : Nat) : Int) - 1))=some v[v.length - 1]:=by
  rw [sQ (by omega) (by omega)]; exact nI hlt
 have e0 : v.head? = some v[0]:=by rw [List.head?_eq_getElem?,List.getElem?_eq_getElem hl]
 have e1 : v.getLast? = some v[v.length - 1]:=by rw [List.getLast?_eq_getElem?,List.getElem?_eq_getElem hlt]
 rw [f71]
 simp only [kK i0,kK i1,h',e0,e1,Option.some.injEq]
 by_cases c0 : v[0]=32
 ·rw [show (v[0] == 32)=true by simp [c0]]; simp [c0,cnd]
 ·rw [show (v[0] == 32)=false by simp [c0]]
  by_cases c1 : v[v.length - 1]=32
  ·rw [show (v[v.length - 1] == 32)=true by simp [c1]]; simp [c1,cnd]
  ·rw [show (v[v.length - 1] == 32)=false by simp [c1]]
   simp only [cnd,c0,c1,decide_false,Bool.or_self,Bool.false_or]
   show bnd2 (some (if adj 32 (v.drop (1 - 1))=true then Sum.inl () else Sum.inr ())) _ _=_
   rw [show v.drop (1 - 1)=v from rfl]
   cases adj 32 v <;> rfl
def aLp (s : ByteArray) : Int :=
 if s=⟨#[]⟩ then 14 else if 40 < s.size then 3 else match dls s with
  | none=>4
  | some l=>if (decide (l.head? = some 32) || decide (l.getLast? = some 32) || adj 32 l) then 14 else if anyS l then 0 else 14
theorem aTb {s : ByteArray} (h : s ≠ ⟨#[]⟩) {l : List Int} (hd : dls s=some l) : l ≠ []∧s.data.toList=l.flatMap UB∧(∀ c ∈ l,good c)∧l.length ≤ s.size:=by
 obtain ⟨h1,h2,h3⟩:=aVo s _ 0 l hd
 rw [List.drop_zero] at h1
 refine ⟨?_,h1,h2,by omega⟩
 rintro rfl
 apply h
 rw [ba_ext,h1]; rfl
theorem aSz (n : Nat) (hn : 200 ≤ n) (s : ByteArray) : f45 n s=some (aLp s):=by
 obtain ⟨n,rfl⟩ : ∃ z,n=z + 1:=⟨n - 1,by omega⟩
 rw [f45,aLp]
 by_cases c0 : s=⟨#[]⟩
 ·rw [decide_eq_true c0,if_pos c0]; rfl
 ·rw [decide_eq_false c0,if_neg c0]
  by_cases c1 : 40 < s.size
  ·rw [decide_eq_true (by omega),if_pos c1]; rfl
  ·rw [decide_eq_false (by omega),if_neg c1]
   simp only [cnd,kK (aX7 n (by omega) s (by omega))]
   cases hd : dls s with
   | none=>rfl
   | some l =>
    obtain ⟨g1,g2,g3,g4⟩:=aTb c0 hd
    have hl : ((((l.length : Nat) : Int)) == 0)=false:=beq_eq_false_iff_ne.2 (by have:=List.length_pos_iff.2 g1; omega)
    simp only [hl,kK (aX5 n (by omega) l (by omega) g1),kK (aX4 n (by omega) l (by omega)),show ((0 : Int) != 0)=false from rfl]
    cases (decide (l.head? = some 32) || decide (l.getLast? = some 32) || adj 32 l) with
    | true=>rfl
    | false=>cases anyS l <;> rfl
theorem aS0 (n : Nat) (hn : 200 ≤ n) (s : ByteArray) : f40 n s=some (aLp s):=by
 obtain ⟨n,rfl⟩ : ∃ z,n=z + 2:=⟨n - 2,by omega⟩
 rw [f40,f65,aLp]
 by_cases c0 : s=⟨#[]⟩
 ·rw [decide_eq_true c0,if_pos c0]; rfl
 ·rw [decide_eq_false c0,if_neg c0]
  by_cases c1 : 40 < s.size
  ·rw [decide_eq_true (by omega),if_pos c1]; rfl
  ·rw [decide_eq_false (by omega),if_neg c1]
   simp only [cnd,kK (aXm n (by omega) s (by omega))]
   cases hd : dls s with
   | none=>rfl
   | some l =>
    obtain ⟨g1,g2,g3,g4⟩:=aTb c0 hd
    have hpos : 0 < s.data.toList.length:=by
     rcases Nat.eq_zero_or_pos s.data.toList.length with h | h
     ·exfalso; apply c0; rw [ba_ext]; exact List.eq_nil_of_length_eq_zero h
     ·exact h
    have hsz : s.size=s.data.toList.length:=qQ s
    have hlt : s.data.toList.length - 1 < s.data.toList.length:=by omega
    have i0 : sat s 0=some ((s.data.toList[0]).toNat : Int):=qD rfl 0 _ (List.getElem?_eq_getElem hpos)
    have i1 : sat s (IntKind.i64.wrap (((s.size : Nat) : Int) - 1))=some ((s.data.toList[s.data.toList.length - 1]).toNat : Int):=by
     rw [sQ (by omega) (by omega),hsz]; exact qD rfl _ _ (List.getElem?_eq_getElem hlt)
    have h46 : f86 n s ⟨#[32,32]⟩=some (adj 32 l):=by
     obtain ⟨n,rfl⟩ : ∃ z,n=z + 1:=⟨n - 1,by omega⟩
     have hb : Nat.blt s.size 4294967281=true:=by
      rw [Nat.blt_eq]; omega
     simp only [f86,hb]
     show some (Lib.contains s.data.toList [32,32])=_
     rw [aG6,g2,aR0 l g3]
    have hL:=aO0 n (by omega) (l,0) l.length n 0 (by simp) (by omega) (by simp; omega)
    have hL' : yU n (l,0) n 0=some (if anyS l then .inl () else .inr ()):=hL
    have hb32 : ∀ b : UInt8,((b.toNat : Int) == 32)=decide (b=32):=by
     intro b
     rw [Bool.eq_iff_iff,beq_iff_eq,decide_eq_true_eq,← UInt8.toNat_inj]
     show (b.toNat : Int)=32 ↔ b.toNat=32
     omega
    have eh : decide (s.data.toList[0]=32)=decide (l.head? = some 32):=by
     rw [Bool.eq_iff_iff,decide_eq_true_eq,decide_eq_true_eq,← aGf l g3,← g2,List.head?_eq_getElem?,List.getElem?_eq_getElem hpos,Option.some.injEq]
    have el : decide (s.data.toList[s.data.toList.length - 1]=32)=decide (l.getLast? = some 32):=by
     rw [Bool.eq_iff_iff,decide_eq_true_eq,decide_eq_true_eq,← aNr l g3,← g2,List.getLast?_eq_getElem?,List.getElem?_eq_getElem hlt,Option.some.injEq]
    simp only [show ((0 : Int) != 0)=false from rfl,kK i0,kK i1,kK h46,hL',hb32,eh,el]
    cases decide (l.head? = some 32) with
    | true=>rfl
    | false =>
     cases decide (l.getLast? = some 32) with
     | true=>rfl
     | false =>
      cases adj 32 l with
      | true=>rfl
      | false=>cases anyS l <;> rfl
end Go.Proofs.YtkdnaejhpcibnaaGreatDoor.Av
namespace Go.Proofs.YtkdnaejhpcibnaaGreatDoor.Av
open Go Go.IntWalk
def idB (n : Int) : Bool:=decide (1 ≤ n∧n ≤ 1073741824)
def ptB (p : GPoint) : Bool:=decide (-1048576 ≤ p.X∧p.X ≤ 1048576∧-1048576 ≤ p.Y∧p.Y ≤ 1048576)
theorem aSk (n : Nat) (a : Int) : f96 (n + 1) a=some (idB a):=by
 rw [f96]
 by_cases c1 : a ≥ 1
 ·rw [decide_eq_true c1]
  by_cases c2 : a ≤ 1073741824
  ·rw [decide_eq_true c2]; simp only [cnd,idB]; rw [decide_eq_true ⟨c1,c2⟩]
  ·rw [decide_eq_false c2]; simp only [cnd,idB]; rw [decide_eq_false (fun h=>c2 h.2)]
 ·rw [decide_eq_false c1]; simp only [cnd,idB]; rw [decide_eq_false (fun h=>c1 h.1)]
theorem aSj (n : Nat) (p : GPoint) : f97 (n + 1) p=some (ptB p):=by
 rw [f97]
 by_cases c1 : p.X ≥ -1048576
 ·by_cases c2 : p.X ≤ 1048576
  ·by_cases c3 : p.Y ≥ -1048576
   ·by_cases c4 : p.Y ≤ 1048576
    ·rw [decide_eq_true c1,decide_eq_true c2,decide_eq_true c3,decide_eq_true c4,show ptB p=true from decide_eq_true (by omega)]; rfl
    ·rw [decide_eq_true c1,decide_eq_true c2,decide_eq_true c3,decide_eq_false c4,show ptB p=false from decide_eq_false (by omega)]; rfl
   ·rw [decide_eq_true c1,decide_eq_true c2,decide_eq_false c3,show ptB p=false from decide_eq_false (by omega)]; rfl
  ·rw [decide_eq_true c1,decide_eq_false c2,show ptB p=false from decide_eq_false (by omega)]; rfl
 ·rw [decide_eq_false c1,show ptB p=false from decide_eq_false (by omega)]; rfl
theorem aO9 (n : Nat) (p : GPoint) : f116 (n + 1) (GBox.mk (-1048576) (-1048576) 1048576 1048576) p=some (ptB p):=by
 rw [f116]
 by_cases c1 : -1048576 ≤ p.X
 ·by_cases c2 : p.X ≤ 1048576
  ·by_cases c3 : -1048576 ≤ p.Y
   ·by_cases c4 : p.Y ≤ 1048576
    ·rw [decide_eq_true c1,decide_eq_true c2,decide_eq_true c3,decide_eq_true c4,show ptB p=true from decide_eq_true (by omega)]; rfl
    ·rw [decide_eq_true c1,decide_eq_true c2,decide_eq_true c3,decide_eq_false c4,show ptB p=false from decide_eq_false (by omega)]; rfl
   ·rw [decide_eq_true c1,decide_eq_true c2,decide_eq_false c3,show ptB p=false from decide_eq_false (by omega)]; rfl
  ·rw [decide_eq_true c1,decide_eq_false c2,show ptB p=false from decide_eq_false (by omega)]; rfl
 ·rw [decide_eq_false c1,show ptB p=false from decide_eq_false (by omega)]; rfl
theorem uC (n : Nat) : prd (n + 1)=some n:=rfl
theorem aOm (n : Nat) (a : GEdit) : ∀ (d m i : Nat),i + d=a.Via.length→d < m→a.Via.length ≤ 1000→qY (n + 1) a m (i : Int)=some (cnd ((a.Via.drop i).all ptB) (.inr ()) (.inl ())):=by
 intro d
 induction d with
 | zero =>
  intro m i hi hm hl
  obtain ⟨m,rfl⟩ : ∃ z,m=z + 1:=⟨m - 1,by omega⟩
  rw [qY,decide_eq_false (by omega),List.drop_eq_nil_of_le (by omega)]
  rfl
 | succ d ih =>
  intro m i hi hm hl
  obtain ⟨m,rfl⟩ : ∃ z,m=z + 1:=⟨m - 1,by omega⟩
  have hlt : i < a.Via.length:=by omega
  rw [qY,decide_eq_true (by omega),pN hlt]
  simp only [cnd,kK (nI hlt),kK (aSj n _),lE (show i < 100000 by omega),ih m (i + 1) (by omega) (by omega) hl,List.all_cons]
  cases ptB a.Via[i] <;> rfl
theorem aOl (n : Nat) (a : GEdit) : ∀ (d m i : Nat),i + d=a.Parts.length→d < m→a.Parts.length ≤ 1000→qX (n + 1) a m (i : Int)=some (cnd ((a.Parts.drop i).all idB) (.inr ()) (.inl ())):=by
 intro d
 induction d with
 | zero =>
  intro m i hi hm hl
  obtain ⟨m,rfl⟩ : ∃ z,m=z + 1:=⟨m - 1,by omega⟩
  rw [qX,decide_eq_false (by omega),List.drop_eq_nil_of_le (by omega)]
  rfl
 | succ d ih =>
  intro m i hi hm hl
  obtain ⟨m,rfl⟩ : ∃ z,m=z + 1:=⟨m - 1,by omega⟩
  have hlt : i < a.Parts.length:=by omega
  rw [qX,decide_eq_true (by omega),pN hlt]
  simp only [cnd,kK (nI hlt),kK (aSk n _),lE (show i < 100000 by omega),ih m (i + 1) (by omega) (by omega) hl,List.all_cons]
  cases idB a.Parts[i] <;> rfl
theorem aC4 (n : Nat) (a : GEdit) : ∀ (d m i : Nat),i + d=a.Via.length→d < m→a.Via.length ≤ 1000 →
  ∃ z,mG (n + 2) a m (i : Int)=some z∧(match z with | .inr _=>(a.Via.drop i).all ptB=true | .inl j=>(a.Via.drop i).all ptB=false∧0 ≤ j):=by
 intro d
 induction d with
 | zero =>
  intro m i hi hm hl
  obtain ⟨m,rfl⟩ : ∃ z,m=z + 1:=⟨m - 1,by omega⟩
  rw [mG,decide_eq_false (by omega),List.drop_eq_nil_of_le (by omega)]
  exact ⟨.inr (),rfl,rfl⟩
 | succ d ih =>
  intro m i hi hm hl
  obtain ⟨m,rfl⟩ : ∃ z,m=z + 1:=⟨m - 1,by omega⟩
  have hlt : i < a.Via.length:=by omega
  obtain ⟨z,h1,h2⟩:=ih m (i + 1) (by omega) (by omega) hl
  rw [mG,decide_eq_true (by omega),pN hlt]
  simp only [cnd,kK (nI hlt),kK (uC (n + 1)),kK (aO9 n _),lE (show i < 100000 by omega),h1,List.all_cons]
  cases ptB a.Via[i] with
  | true=>exact ⟨z,rfl,by simpa using h2⟩
  | false=>exact ⟨.inl (i : Int),rfl,rfl,by omega⟩
theorem aC3 (n : Nat) (a : GEdit) : ∀ (d m i : Nat),i + d=a.Parts.length→d < m→a.Parts.length ≤ 1000 →
  ∃ z,lM (n + 2) a m (i : Int)=some z∧(match z with | .inr _=>(a.Parts.drop i).all idB=true | .inl j=>(a.Parts.drop i).all idB=false∧0 ≤ j):=by
 intro d
 induction d with
 | zero =>
  intro m i hi hm hl
  obtain ⟨m,rfl⟩ : ∃ z,m=z + 1:=⟨m - 1,by omega⟩
  rw [lM,decide_eq_false (by omega),List.drop_eq_nil_of_le (by omega)]
  exact ⟨.inr (),rfl,rfl⟩
 | succ d ih =>
  intro m i hi hm hl
  obtain ⟨m,rfl⟩ : ∃ z,m=z + 1:=⟨m - 1,by omega⟩
  have hlt : i < a.Parts.length:=by omega
  obtain ⟨z,h1,h2⟩:=ih m (i + 1) (by omega) (by omega) hl
  rw [lM,decide_eq_true (by omega),pN hlt]
  simp only [cnd,kK (nI hlt),kK (uC (n + 1)),kK (uC n),lE (show i < 100000 by omega),h1,List.all_cons]
  by_cases c1 : 1 ≤ a.Parts[i]
  ·by_cases c2 : a.Parts[i] ≤ 1073741824
   ·rw [decide_eq_true c1,decide_eq_true c2,show idB a.Parts[i]=true from decide_eq_true ⟨c1,c2⟩]
    exact ⟨z,rfl,by simpa using h2⟩
   ·rw [decide_eq_true c1,decide_eq_false c2,show idB a.Parts[i]=false from decide_eq_false (fun h=>c2 h.2)]
    exact ⟨.inl (i : Int),rfl,rfl,by omega⟩
  ·rw [decide_eq_false c1,show idB a.Parts[i]=false from decide_eq_false (fun h=>c1 h.1)]
   exact ⟨.inl (i : Int),rfl,rfl,by omega⟩
def aHq (a : GEdit) : Bool:=a.Via.all ptB && a.Parts.all idB
def aMw (a : GEdit) : Bool :=
 idB a.ID && ((if a.Kind=4 then idB a.A && idB a.B else if a.Kind=12 then idB a.A else if a.Kind=7 ∨ a.Kind=10 then decide (1 ≤ a.B∧a.B ≤ 9) else true) && (decide (-1073741824 ≤ a.C∧a.C ≤ 1073741824) && (ptB a.At && aHq a)))
theorem bDm (n : Nat) (a : GEdit) (hn : 100 ≤ n) (hv : a.Via.length ≤ 64) (hp : a.Parts.length ≤ 64) :
  (bnd (prd n) fun n1=>bnd (prd n1) fun n2=>bnd2 (mG n2 a n2 0) (fun v=>cnd (decide (v ≥ 0)) (some false) (bnd (prd n) fun n3=>bnd (prd n3) fun n4=>bnd2 (lM n4 a n4 0) (fun v=>cnd (decide (v ≥ 0)) (some false) (some true)) (fun _=>some true))) (fun _=>bnd (prd n) fun n3=>bnd (prd n3) fun n4=>bnd2 (lM n4 a n4 0) (fun v=>cnd (decide (v ≥ 0)) (some false) (some true)) (fun _=>some true)))=some (aHq a):=by
 obtain ⟨n,rfl⟩ : ∃ z,n=z + 4:=⟨n - 4,by omega⟩
 obtain ⟨z,h1,h2⟩:=aC4 n a a.Via.length (n + 2) 0 (by omega) (by omega) (by omega)
 obtain ⟨y,g1,g2⟩:=aC3 n a a.Parts.length (n + 2) 0 (by omega) (by omega) (by omega)
 have h1' : mG (n + 2) a (n + 2) 0=some z:=h1
 have g1' : lM (n + 2) a (n + 2) 0=some y:=g1
 rw [List.drop_zero] at h2 g2
 simp only [kK (uC (n + 3)),kK (uC (n + 2)),h1',g1',aHq]
 cases z with
 | inl j =>
  simp only at h2
  simp only [bnd2]
  rw [decide_eq_true (show j ≥ 0 from h2.2),h2.1]; rfl
 | inr u =>
  simp only at h2
  simp only [bnd2]
  rw [h2]
  cases y with
  | inl j =>
   simp only at g2
   rw [g2.1]
   simp only
   rw [decide_eq_true (show j ≥ 0 from g2.2)]; rfl
  | inr u=>simp only at g2; rw [g2]; rfl
theorem aV5 (n : Nat) (a : GEdit) (hn : 100 ≤ n) (hv : a.Via.length ≤ 64) (hp : a.Parts.length ≤ 64) :
  bnd2 (qY n a n 0) (fun _=>some false) (fun _=>bnd2 (qX n a n 0) (fun _=>some false) (fun _=>bnd (f97 n a.At) fun v=>cnd v (some true) (some false)))=some (ptB a.At && aHq a):=by
 obtain ⟨n,rfl⟩ : ∃ z,n=z + 1:=⟨n - 1,by omega⟩
 have h1:=aOm n a a.Via.length (n + 1) 0 (by omega) (by omega) (by omega)
 have g1:=aOl n a a.Parts.length (n + 1) 0 (by omega) (by omega) (by omega)
 have h1' : qY (n + 1) a (n + 1) 0=_:=h1
 have g1' : qX (n + 1) a (n + 1) 0=_:=g1
 rw [List.drop_zero] at h1' g1'
 rw [h1',g1',aSj,aHq]
 cases a.Via.all ptB <;> cases a.Parts.all idB <;> cases ptB a.At <;> rfl
end Go.Proofs.YtkdnaejhpcibnaaGreatDoor.Av
namespace Go.Proofs.YtkdnaejhpcibnaaGreatDoor.Av
open Go Go.IntWalk
theorem aW9 (p : Prop) [Decidable p] {α : Type} (a b c : α) (h1 : p→a=c) (h2 : ¬ p→b=c) : (if p then a else b)=c:=by
 split
 ·exact h1 (by assumption)
 ·exact h2 (by assumption)
theorem aX8 (n : Nat) (a : GEdit) (hn : 200 ≤ n) (hv : a.Via.length ≤ 64) (hp : a.Parts.length ≤ 64) : f68 n a=some (aMw a):=by
 obtain ⟨z,rfl⟩ : ∃ z,n=z + 1:=⟨n - 1,by omega⟩
 rw [f68]
 simp only [bDm z a (by omega) hv hp]
 obtain ⟨y,rfl⟩ : ∃ y,z=y + 2:=⟨z - 2,by omega⟩
 simp only [kK (uC (y + 1)),kK (aO9 y _),sF,decide_eq_true_eq,beq_iff_eq]
 cases hpt : ptB a.At <;> cases htl : aHq a <;>
 (repeat' (apply aW9 <;> intro _)) <;> simp_all [aMw,idB] <;> omega
theorem aXs (n : Nat) (a : GEdit) (hn : 200 ≤ n) (hv : a.Via.length ≤ 64) (hp : a.Parts.length ≤ 64) : f76 n a=some (aMw a):=by
 obtain ⟨z,rfl⟩ : ∃ z,n=z + 1:=⟨n - 1,by omega⟩
 rw [f76]
 simp only [aV5 z a (by omega) hv hp]
 obtain ⟨y,rfl⟩ : ∃ y,z=y + 1:=⟨z - 1,by omega⟩
 simp only [kK (aSk y _),sF,decide_eq_true_eq,beq_iff_eq]
 cases hpt : ptB a.At <;> cases htl : aHq a <;>
 (repeat' (apply aW9 <;> intro _)) <;> simp_all [aMw,idB] <;> omega
end Go.Proofs.YtkdnaejhpcibnaaGreatDoor.Av
namespace Go.Proofs.YtkdnaejhpcibnaaGreatDoor.Av
open Go Go.IntWalk
def xL (a : GEdit) : Bool :=
 (decide (a.Kind=1 ∨ a.Kind=3) || decide (a.At=GPoint.mk 0 0)) && ((decide (a.Kind=4 ∨ a.Kind=7 ∨ a.Kind=12) || decide (a.A=0)) && ((decide (a.Kind=4 ∨ a.Kind=7 ∨ a.Kind=10) || decide (a.B=0)) && ((decide (a.Kind=4) || decide (a.C=0)) &&
  ((decide (a.Kind=4 ∨ a.Kind=6) || decide (a.Via.length=0)) && ((decide (a.Kind=7 ∨ a.Kind=9) || decide (a.Name=(⟨#[]⟩ : ByteArray))) && (decide (a.Kind=7 ∨ a.Kind=11) || decide (a.Parts.length=0)))))))
theorem aUl (n : Nat) : decide (((n : Nat) : Int) > 0)=!decide (n=0):=by
 by_cases h : n=0
 ·subst h; rfl
 ·rw [decide_eq_true (by omega),decide_eq_false h]; rfl
theorem oR (n : Nat) : (((n : Nat) : Int) == 0)=decide (n=0):=by
 rw [Bool.eq_iff_iff,beq_iff_eq,decide_eq_true_eq]; omega
theorem qA (a : Int) : (a != 0)=!decide (a=0):=by
 by_cases h : a=0
 ·subst h; rfl
 ·rw [decide_eq_false h,bne_iff_ne.2 h]; rfl
theorem aDj (k : Int) : k=1 ∨ k=3 ∨ k=4 ∨ k=6 ∨ k=7 ∨ k=9 ∨ k=10 ∨ k=11 ∨ k=12 ∨ (k ≠ 1∧k ≠ 3∧k ≠ 4∧k ≠ 6∧k ≠ 7∧k ≠ 9∧k ≠ 10∧k ≠ 11∧k ≠ 12):=by omega
set_option maxHeartbeats 4000000 in
theorem aX9 (n : Nat) (a : GEdit) : f67 (n + 1) a=some (!xL a):=by
 rw [f67]
 simp only [aUl,qA,xL]
 generalize decide (a.A=0)=bA
 generalize decide (a.B=0)=bB
 generalize decide (a.C=0)=bC
 generalize decide (a.At=GPoint.mk 0 0)=bT
 generalize decide (a.Name=(⟨#[]⟩ : ByteArray))=bN
 generalize decide (a.Via.length=0)=bV
 generalize decide (a.Parts.length=0)=bP
 generalize a.Kind=k
 rcases aDj k with rfl | rfl | rfl | rfl | rfl | rfl | rfl | rfl | rfl | ⟨h1,h2,h3,h4,h5,h6,h7,h8,h9⟩
 iterate 9 (simp [cnd]; cases bA <;> cases bB <;> cases bC <;> cases bT <;> cases bN <;> cases bV <;> cases bP <;> rfl)
 have e : ∀ c : Int,k ≠ c→(k == c)=false:=fun c h=>beq_eq_false_iff_ne.2 h
 simp only [e _ h1,e _ h2,e _ h3,e _ h4,e _ h5,e _ h6,e _ h7,e _ h8,e _ h9,cnd]
 simp only [h1,h2,h3,h4,h5,h6,h7,h8,h9,or_self,decide_false,Bool.false_or]
 cases bA <;> cases bB <;> cases bC <;> cases bT <;> cases bN <;> cases bV <;> cases bP <;> rfl
end Go.Proofs.YtkdnaejhpcibnaaGreatDoor.Av
namespace Go.Proofs.YtkdnaejhpcibnaaGreatDoor.Av
open Go Go.IntWalk
theorem qN {k n : Nat} (h : k ≤ n) : prdk k n=some (n - k):=by rw [prdk,if_pos h]
theorem aX0 (n : Nat) (a : GEdit) : f75 n a (⟨#[]⟩ : ByteArray)=aOu n a:=by
 rw [f75]
 rw [if_pos rfl]
theorem aSr (n : Nat) (a : GEdit) : f75 n a (⟨#[116]⟩ : ByteArray)=aL0 n a:=by
 rw [f75]
 rw [if_neg (by decide)]
 rw [if_pos rfl]
theorem aXz (n : Nat) (a : GEdit) : f75 n a (⟨#[97,98,99,118]⟩ : ByteArray)=aOt n a:=by
 rw [f75]
 rw [if_neg (by decide)]
 rw [if_neg (by decide)]
 rw [if_pos rfl]
theorem aXy (n : Nat) (a : GEdit) : f75 n a (⟨#[118]⟩ : ByteArray)=aOs n a:=by
 rw [f75]
 rw [if_neg (by decide)]
 rw [if_neg (by decide)]
 rw [if_neg (by decide)]
 rw [if_pos rfl]
theorem aXx (n : Nat) (a : GEdit) : f75 n a (⟨#[97,98,110,112]⟩ : ByteArray)=aOr n a:=by
 rw [f75]
 rw [if_neg (by decide)]
 rw [if_neg (by decide)]
 rw [if_neg (by decide)]
 rw [if_neg (by decide)]
 rw [if_pos rfl]
theorem aXw (n : Nat) (a : GEdit) : f75 n a (⟨#[110]⟩ : ByteArray)=aOq n a:=by
 rw [f75]
 rw [if_neg (by decide)]
 rw [if_neg (by decide)]
 rw [if_neg (by decide)]
 rw [if_neg (by decide)]
 rw [if_neg (by decide)]
 rw [if_pos rfl]
theorem aXv (n : Nat) (a : GEdit) : f75 n a (⟨#[98]⟩ : ByteArray)=aOp n a:=by
 rw [f75]
 rw [if_neg (by decide)]
 rw [if_neg (by decide)]
 rw [if_neg (by decide)]
 rw [if_neg (by decide)]
 rw [if_neg (by decide)]
 rw [if_neg (by decide)]
 rw [if_pos rfl]
theorem aXu (n : Nat) (a : GEdit) : f75 n a (⟨#[112]⟩ : ByteArray)=aOo n a:=by
 rw [f75]
 rw [if_neg (by decide)]
 rw [if_neg (by decide)]
 rw [if_neg (by decide)]
 rw [if_neg (by decide)]
 rw [if_neg (by decide)]
 rw [if_neg (by decide)]
 rw [if_neg (by decide)]
 rw [if_pos rfl]
theorem aXt (n : Nat) (a : GEdit) : f75 n a (⟨#[97]⟩ : ByteArray)=aOn n a:=by
 rw [f75]
 rw [if_neg (by decide)]
 rw [if_neg (by decide)]
 rw [if_neg (by decide)]
 rw [if_neg (by decide)]
 rw [if_neg (by decide)]
 rw [if_neg (by decide)]
 rw [if_neg (by decide)]
 rw [if_neg (by decide)]
 rw [if_pos rfl]
set_option maxHeartbeats 4000000 in
theorem aX1 (n : Nat) (a : GEdit) (hn : 20 ≤ n) : ∃ s,f74 n a.Kind=some s∧f75 n a s=some (xL a):=by
 obtain ⟨n,rfl⟩ : ∃ z,n=z + 1:=⟨n - 1,by omega⟩
 rcases aDj a.Kind with h | h | h | h | h | h | h | h | h | ⟨h1,h2,h3,h4,h5,h6,h7,h8,h9⟩
 ·refine ⟨(⟨#[116]⟩ : ByteArray),by rw [f74,h]; rfl,?_⟩
  rw [aSr,aL0,qN (show 2 ≤ n by omega)]
  simp only [bnd,oR,qA,xL,h]
  generalize decide (a.A=0)=bA
  generalize decide (a.B=0)=bB
  generalize decide (a.C=0)=bC
  generalize decide (a.At=GPoint.mk 0 0)=bT
  generalize decide (a.Name=(⟨#[]⟩ : ByteArray))=bN
  generalize decide (a.Via.length=0)=bV
  generalize decide (a.Parts.length=0)=bP
  simp
  cases bA <;> cases bB <;> cases bC <;> cases bT <;> cases bN <;> cases bV <;> cases bP <;> rfl
 ·refine ⟨(⟨#[116]⟩ : ByteArray),by rw [f74,h]; rfl,?_⟩
  rw [aSr,aL0,qN (show 2 ≤ n by omega)]
  simp only [bnd,oR,qA,xL,h]
  generalize decide (a.A=0)=bA
  generalize decide (a.B=0)=bB
  generalize decide (a.C=0)=bC
  generalize decide (a.At=GPoint.mk 0 0)=bT
  generalize decide (a.Name=(⟨#[]⟩ : ByteArray))=bN
  generalize decide (a.Via.length=0)=bV
  generalize decide (a.Parts.length=0)=bP
  simp
  cases bA <;> cases bB <;> cases bC <;> cases bT <;> cases bN <;> cases bV <;> cases bP <;> rfl
 ·refine ⟨(⟨#[97,98,99,118]⟩ : ByteArray),by rw [f74,h]; rfl,?_⟩
  rw [aXz,aOt,qN (show 5 ≤ n by omega)]
  simp only [bnd,oR,qA,xL,h]
  generalize decide (a.A=0)=bA
  generalize decide (a.B=0)=bB
  generalize decide (a.C=0)=bC
  generalize decide (a.At=GPoint.mk 0 0)=bT
  generalize decide (a.Name=(⟨#[]⟩ : ByteArray))=bN
  generalize decide (a.Via.length=0)=bV
  generalize decide (a.Parts.length=0)=bP
  simp
  cases bA <;> cases bB <;> cases bC <;> cases bT <;> cases bN <;> cases bV <;> cases bP <;> rfl
 ·refine ⟨(⟨#[118]⟩ : ByteArray),by rw [f74,h]; rfl,?_⟩
  rw [aXy,aOs,qN (show 2 ≤ n by omega)]
  simp only [bnd,oR,qA,xL,h]
  generalize decide (a.A=0)=bA
  generalize decide (a.B=0)=bB
  generalize decide (a.C=0)=bC
  generalize decide (a.At=GPoint.mk 0 0)=bT
  generalize decide (a.Name=(⟨#[]⟩ : ByteArray))=bN
  generalize decide (a.Via.length=0)=bV
  generalize decide (a.Parts.length=0)=bP
  simp
  cases bA <;> cases bB <;> cases bC <;> cases bT <;> cases bN <;> cases bV <;> cases bP <;> rfl
 ·refine ⟨(⟨#[97,98,110,112]⟩ : ByteArray),by rw [f74,h]; rfl,?_⟩
  rw [aXx,aOr,qN (show 5 ≤ n by omega)]
  simp only [bnd,oR,qA,xL,h]
  generalize decide (a.A=0)=bA
  generalize decide (a.B=0)=bB
  generalize decide (a.C=0)=bC
  generalize decide (a.At=GPoint.mk 0 0)=bT
  generalize decide (a.Name=(⟨#[]⟩ : ByteArray))=bN
  generalize decide (a.Via.length=0)=bV
  generalize decide (a.Parts.length=0)=bP
  simp
  cases bA <;> cases bB <;> cases bC <;> cases bT <;> cases bN <;> cases bV <;> cases bP <;> rfl
 ·refine ⟨(⟨#[110]⟩ : ByteArray),by rw [f74,h]; rfl,?_⟩
  rw [aXw,aOq,qN (show 2 ≤ n by omega)]
  simp only [bnd,oR,qA,xL,h]
  generalize decide (a.A=0)=bA
  generalize decide (a.B=0)=bB
  generalize decide (a.C=0)=bC
  generalize decide (a.At=GPoint.mk 0 0)=bT
  generalize decide (a.Name=(⟨#[]⟩ : ByteArray))=bN
  generalize decide (a.Via.length=0)=bV
  generalize decide (a.Parts.length=0)=bP
  simp
  cases bA <;> cases bB <;> cases bC <;> cases bT <;> cases bN <;> cases bV <;> cases bP <;> rfl
 ·refine ⟨(⟨#[98]⟩ : ByteArray),by rw [f74,h]; rfl,?_⟩
  rw [aXv,aOp,qN (show 2 ≤ n by omega)]
  simp only [bnd,oR,qA,xL,h]
  generalize decide (a.A=0)=bA
  generalize decide (a.B=0)=bB
  generalize decide (a.C=0)=bC
  generalize decide (a.At=GPoint.mk 0 0)=bT
  generalize decide (a.Name=(⟨#[]⟩ : ByteArray))=bN
  generalize decide (a.Via.length=0)=bV
  generalize decide (a.Parts.length=0)=bP
  simp
  cases bA <;> cases bB <;> cases bC <;> cases bT <;> cases bN <;> cases bV <;> cases bP <;> rfl
 ·refine ⟨(⟨#[112]⟩ : ByteArray),by rw [f74,h]; rfl,?_⟩
  rw [aXu,aOo,qN (show 2 ≤ n by omega)]
  simp only [bnd,oR,qA,xL,h]
  generalize decide (a.A=0)=bA
  generalize decide (a.B=0)=bB
  generalize decide (a.C=0)=bC
  generalize decide (a.At=GPoint.mk 0 0)=bT
  generalize decide (a.Name=(⟨#[]⟩ : ByteArray))=bN
  generalize decide (a.Via.length=0)=bV
  generalize decide (a.Parts.length=0)=bP
  simp
  cases bA <;> cases bB <;> cases bC <;> cases bT <;> cases bN <;> cases bV <;> cases bP <;> rfl
 ·refine ⟨(⟨#[97]⟩ : ByteArray),by rw [f74,h]; rfl,?_⟩
  rw [aXt,aOn,qN (show 2 ≤ n by omega)]
  simp only [bnd,oR,qA,xL,h]
  generalize decide (a.A=0)=bA
  generalize decide (a.B=0)=bB
  generalize decide (a.C=0)=bC
  generalize decide (a.At=GPoint.mk 0 0)=bT
  generalize decide (a.Name=(⟨#[]⟩ : ByteArray))=bN
  generalize decide (a.Via.length=0)=bV
  generalize decide (a.Parts.length=0)=bP
  simp
  cases bA <;> cases bB <;> cases bC <;> cases bT <;> cases bN <;> cases bV <;> cases bP <;> rfl
 ·refine ⟨(⟨#[]⟩ : ByteArray),?_,?_⟩
  ·have e : ∀ c : Int,a.Kind ≠ c→(a.Kind == c)=false:=fun c h=>beq_eq_false_iff_ne.2 h
   rw [f74]
   simp only [e _ h1,e _ h2,e _ h3,e _ h4,e _ h5,e _ h6,e _ h7,e _ h8,e _ h9,cnd]
  rw [aX0,aOu,qN (show 1 ≤ n by omega)]
  simp only [bnd,oR,qA,xL,h1,h2,h3,h4,h5,h6,h7,h8,h9,or_self,decide_false,Bool.false_or]
  generalize decide (a.A=0)=bA
  generalize decide (a.B=0)=bB
  generalize decide (a.C=0)=bC
  generalize decide (a.At=GPoint.mk 0 0)=bT
  generalize decide (a.Name=(⟨#[]⟩ : ByteArray))=bN
  generalize decide (a.Via.length=0)=bV
  generalize decide (a.Parts.length=0)=bP
  cases bA <;> cases bB <;> cases bC <;> cases bT <;> cases bN <;> cases bV <;> cases bP <;> rfl
end Go.Proofs.YtkdnaejhpcibnaaGreatDoor.Av
namespace Go.Proofs.YtkdnaejhpcibnaaGreatDoor.Av
open Go Go.IntWalk
theorem aGr (n n' : Nat) (a : GEdit) : ∀ (m : Nat) (i : Int),yV n a m i=qH n' a.Parts m i
 | 0,i=>rfl
 | m + 1,i=>by simp only [yV,qH,aGr n n' a m]
theorem aL1 (n : Nat) (l : List Int) : ∀ (d m i : Nat),i + d=l.length→d < m→l.length ≤ 1000→1 ≤ i→∃ z,qH n l m (i : Int)=some z:=by
 intro d
 induction d with
 | zero =>
  intro m i hi hm hl h1
  obtain ⟨m,rfl⟩ : ∃ z,m=z + 1:=⟨m - 1,by omega⟩
  rw [qH,decide_eq_false (by omega)]
  exact ⟨_,rfl⟩
 | succ d ih =>
  intro m i hi hm hl h1
  obtain ⟨m,rfl⟩ : ∃ z,m=z + 1:=⟨m - 1,by omega⟩
  have hlt : i < l.length:=by omega
  have hlt' : i - 1 < l.length:=by omega
  obtain ⟨z,hz⟩:=ih m (i + 1) (by omega) (by omega) hl (by omega)
  rw [qH,decide_eq_true (by omega)]
  simp only [cnd,kK (nI hlt),sQ (show i < 100000 by omega) h1,kK (nI hlt'),lE (show i < 100000 by omega),hz]
  cases decide (l[i - 1] ≥ l[i]) with
  | true=>exact ⟨_,rfl⟩
  | false=>exact ⟨_,rfl⟩
theorem aOz (n : Nat) (l : List Int) (hn : 100 ≤ n) (hl : l.length ≤ 64) : ∃ z,qH n l n 1=some z:=by
 rcases Nat.eq_zero_or_pos l.length with h | h
 ·obtain ⟨n,rfl⟩ : ∃ z,n=z + 1:=⟨n - 1,by omega⟩
  rw [qH,decide_eq_false (by omega)]
  exact ⟨_,rfl⟩
 ·exact aL1 n l (l.length - 1) n 1 (by omega) (by omega) (by omega) (by omega)
theorem bDl (n : Nat) (a : GEdit) (hn : 300 ≤ n) : ∃ v : Int,
  (bnd (f67 n a) fun v1=>(cnd v1 (some 1) (cnd (decide (((a.Via.length : Nat) : Int) > 64)) (some 3) (cnd (decide (((a.Parts.length : Nat) : Int) > 64)) (some 3) (bnd (f68 n a) fun v2=>(cnd v2 (bnd (f69 n a.Parts) fun v3=>(cnd v3 (cnd (decide (a.Name=(⟨#[]⟩ : ByteArray))) (some 0) (bnd (f40 n a.Name) fun v4=>(cnd (v4 != 0) (some 14) (some 0)))) (some 10))) (some 2)))))))=some v ∧
  (bnd (f74 n a.Kind) fun v1=>(bnd (f75 n a v1) fun v2=>(cnd v2 (cnd (decide (((a.Via.length : Nat) : Int) > 64)) (some 3) (cnd (decide (((a.Parts.length : Nat) : Int) > 64)) (some 3) (bnd (f76 n a) fun v3=>(cnd v3 (bnd2 (yV n a n 1) (fun _=>(some 10)) (fun _=>(cnd (decide (a.Name=(⟨#[]⟩ : ByteArray))) (some 0) (bnd (f45 n a.Name) fun v4=>(cnd (v4 != 0) (some 14) (some 0)))))) (some 2))))) (some 1))))=some v:=by
 obtain ⟨s,h1,h2⟩:=aX1 n a (by omega)
 obtain ⟨m,rfl⟩ : ∃ z,n=z + 1:=⟨n - 1,by omega⟩
 rw [aX9,h1]
 simp only [bnd,h2]
 cases hb : xL a with
 | false=>exact ⟨1,rfl,rfl⟩
 | true =>
  simp only [Bool.not_true,cnd]
  by_cases c1 : ((a.Via.length : Nat) : Int) > 64
  ·rw [decide_eq_true c1]; exact ⟨3,rfl,rfl⟩
  ·rw [decide_eq_false c1]
   by_cases c2 : ((a.Parts.length : Nat) : Int) > 64
   ·rw [decide_eq_true c2]; exact ⟨3,rfl,rfl⟩
   ·rw [decide_eq_false c2]
    simp only [aX8 (m + 1) a (by omega) (by omega) (by omega),aXs (m + 1) a (by omega) (by omega) (by omega),aS0 (m + 1) (by omega) a.Name,aSz (m + 1) (by omega) a.Name]
    cases aMw a with
    | false=>exact ⟨2,rfl,rfl⟩
    | true =>
     obtain ⟨z,hz⟩:=aOz m a.Parts (by omega) (by omega)
     obtain ⟨y,hy⟩:=aOz (m + 1) a.Parts (by omega) (by omega)
     have hyz : y=z:=by
      have key : ∀ (k : Nat) (i : Int) (r : Unit ⊕ Unit),qH m a.Parts k i=some r→qH (m + 1) a.Parts (k + 1) i=some r:=by
       intro k
       induction k with
       | zero=>intro i r h; cases h
       | succ k ih =>
        intro i r h
        rw [qH] at h ⊢
        cases hi : decide (i < ((a.Parts.length : Nat) : Int)) with
        | false=>rw [hi] at h; exact h
        | true =>
         rw [hi] at h
         simp only [cnd] at h ⊢
         obtain ⟨x,e1,h⟩:=kE h
         obtain ⟨x',e2,h⟩:=kE h
         rw [kK e1,kK e2]
         cases hd : decide (x ≥ x') with
         | true=>rw [hd] at h; exact h
         | false=>rw [hd] at h; exact ih _ _ h
      have:=key m 1 z hz
      rw [hy] at this
      exact Option.some.inj this
     subst hyz
     rw [f69,hz,aGr (m + 1) (m + 1) a,hy]
     cases y with
     | inl u=>exact ⟨10,rfl,rfl⟩
     | inr u =>
      simp only [bnd2]
      cases decide (a.Name=(⟨#[]⟩ : ByteArray)) with
      | true=>exact ⟨0,rfl,rfl⟩
      | false =>
       simp only
       cases (aLp a.Name != 0) with
       | true=>exact ⟨14,rfl,rfl⟩
       | false=>exact ⟨0,rfl,rfl⟩
theorem aX3 (n : Nat) (k : Int) : f73 n k=f66 n k:=by cases n <;> rfl
theorem aVk (n : Nat) (k : Int) : ∃ v,f66 (n + 1) k=some v:=by
 simp only [f66,sF]
 repeat' split
 all_goals exact ⟨_,rfl⟩
theorem bAz (n : Nat) (a : GEdit) (hn : 400 ≤ n) : ∃ v,f41 n a=some v∧f46 n a=some v:=by
 obtain ⟨n,rfl⟩ : ∃ z,n=z + 1:=⟨n - 1,by omega⟩
 obtain ⟨v,t1,t2⟩:=bDl n a (by omega)
 rw [f41,f46,t1,t2]
 cases decide (a.Kind < 1) with
 | true=>exact ⟨9,rfl,rfl⟩
 | false =>
  cases decide (a.Kind > 12) with
  | true=>exact ⟨9,rfl,rfl⟩
  | false =>
   cases (a.Kind == 7) with
   | false=>exact ⟨v,rfl,rfl⟩
   | true =>
    obtain ⟨m,rfl⟩ : ∃ z,n=z + 1:=⟨n - 1,by omega⟩
    obtain ⟨w,hw⟩:=aVk m a.A
    simp only [cnd,aX3,hw,bnd]
    cases (w == 0) with
    | true=>exact ⟨9,rfl,rfl⟩
    | false=>exact ⟨v,rfl,rfl⟩
end Go.Proofs.YtkdnaejhpcibnaaGreatDoor.Av
