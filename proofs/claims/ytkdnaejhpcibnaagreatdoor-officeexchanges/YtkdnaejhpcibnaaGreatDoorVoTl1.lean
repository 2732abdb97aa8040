/- A part of the proofs of laws of the chapter office: an evaluator of the program, proved sound, and what it says. -/
import Derived.Test.YtkdnaejhpcibnaaGreatDoorVoTl0
set_option linter.unusedVariables false
set_option linter.unusedSimpArgs false
namespace Go.Proofs.YtkdnaejhpcibnaaGreatDoor.Av
open Go
theorem aKo (n : Nat) (aA : GTxn) (r : Int) (h : f22 n aA=some r) : pv PP T n 22 [(.agg (kF aA))]=some (iv r):=by
 cases n with
 | zero=>cases h
 | succ n =>
  rw [f22] at h
  rcases cn h with ⟨ae,aB,h⟩ | ⟨ae,aB,h⟩
  ·obtain rfl:=si h
   exact pv_q F22 (qa 7 aB<|q0) [] []
  rcases cn h with ⟨af,aC,h⟩ | ⟨af,aC,h⟩
  ·obtain rfl:=si h
   exact pv_q F22 (qa 11 aC<|qa 7 aB<|q0) [] []
  rcases cn h with ⟨ag,aD,h⟩ | ⟨ag,aD,h⟩
  ·obtain rfl:=si h
   exact pv_q F22 (qa 16 aD<|qa 11 aC<|qa 7 aB<|q0) [] []
  rcases cn h with ⟨ah,aE,h⟩ | ⟨ah,aE,h⟩
  ·obtain rfl:=si h
   exact pv_q F22 (qa 21 aE<|qa 16 aD<|qa 11 aC<|qa 7 aB<|q0) [] []
  rcases cn h with ⟨ai,aF,h⟩ | ⟨ai,aF,h⟩
  ·obtain rfl:=si h
   exact pv_q F22 (qa 26 aF<|qa 21 aE<|qa 16 aD<|qa 11 aC<|qa 7 aB<|q0) [] []
  rcases cn h with ⟨aj,aG,h⟩ | ⟨aj,aG,h⟩
  ·obtain rfl:=si h
   exact pv_q F22 (qa 31 aG<|qa 26 aF<|qa 21 aE<|qa 16 aD<|qa 11 aC<|qa 7 aB<|q0) [] []
  rcases cn h with ⟨aT,ak,h⟩ | ⟨aT,ak,h⟩
  ·have aO:=lF (P:=PP) (cf:=evF PP T n) (fl:=0) (H:=[(.blk 5 [(kF aA)])]) (t:=9) aT
   have aP:=kP (P:=PP) (cf:=evF PP T n) (fl:=0) (H:=[(.blk 5 [(kF aA)])]) (f:=false) (c:=kD) (l:=aA.Edits)
   rcases cn h with ⟨al,aK,h⟩ | ⟨al,aK,h⟩
   ·obtain rfl:=si h
    exact pv_q F22 (qa 45 aK<|qb 44 aP<|qb 35 aO<|qa 31 aG<|qa 26 aF<|qa 21 aE<|qa 16 aD<|qa 11 aC<|qa 7 aB<|q0) [] []
   have aU:=kP (P:=PP) (cf:=evF PP T n) (fl:=0) (H:=[(.blk 5 [(kF aA)])]) (f:=false) (c:=kD) (l:=aA.Edits)
   rcases cn h with ⟨am,aQ,h⟩ | ⟨am,aQ,h⟩
   ·obtain rfl:=si h
    exact pv_q F22 (qa 50 aQ<|qb 49 aU<|qa 45 aK<|qb 44 aP<|qb 35 aO<|qa 31 aG<|qa 26 aF<|qa 21 aE<|qa 16 aD<|qa 11 aC<|qa 7 aB<|q0) [] []
   have aa:=kP (P:=PP) (cf:=evF PP T n) (fl:=0) (H:=[(.blk 5 [(kF aA)])]) (f:=false) (c:=kD) (l:=aA.Edits)
   have ab : kV true 0 1 [(.blk 5 [(kF aA)])]:=(by exact (clo rfl rfl))
   rcases kQ h with ⟨aH,aV,h⟩ | ⟨ar,aV,h⟩
   rotate_left
   ·have aW:=tH n aA n 0 _ aV
    obtain rfl:=si h
    exact pv_q F22 (qp aW<|qp ab<|qb 54 aa<|qa 50 aQ<|qb 49 aU<|qa 45 aK<|qb 44 aP<|qb 35 aO<|qa 31 aG<|qa 26 aF<|qa 21 aE<|qa 16 aD<|qa 11 aC<|qa 7 aB<|q0) [((.exit 0),wY aA)] []
   have aW:=tH n aA n 0 _ aV
   obtain rfl:=si h
   exact pv_q F22 (qp aW<|qp ab<|qb 54 aa<|qa 50 aQ<|qb 49 aU<|qa 45 aK<|qb 44 aP<|qb 35 aO<|qa 31 aG<|qa 26 aF<|qa 21 aE<|qa 16 aD<|qa 11 aC<|qa 7 aB<|q0) [(.ret,wZ aA aH.1 aH.2.1 aH.2.2.1 aH.2.2.2.1 aH.2.2.2.2.1 aH.2.2.2.2.2.1 aH.2.2.2.2.2.2.1 aH.2.2.2.2.2.2.2.1 aH.2.2.2.2.2.2.2.2.1 aH.2.2.2.2.2.2.2.2.2.1 aH.2.2.2.2.2.2.2.2.2.2)] []
  have aL:=lF (P:=PP) (cf:=evF PP T n) (fl:=0) (H:=[(.blk 5 [(kF aA)])]) (t:=9) aT
  obtain ⟨au,an,h⟩:=kE h
  have aM:=aO5 n aA.Source _ an
  rcases cn h with ⟨ao,aJ,h⟩ | ⟨ao,aJ,h⟩
  ·obtain rfl:=si h
   exact pv_q F22 (qa 40 aJ<|qa 38 aM<|qb 35 aL<|qa 31 aG<|qa 26 aF<|qa 21 aE<|qa 16 aD<|qa 11 aC<|qa 7 aB<|q0) [] []
  have aR:=kP (P:=PP) (cf:=evF PP T n) (fl:=0) (H:=[(.blk 5 [(kF aA)])]) (f:=false) (c:=kD) (l:=aA.Edits)
  rcases cn h with ⟨ap,aN,h⟩ | ⟨ap,aN,h⟩
  ·obtain rfl:=si h
   exact pv_q F22 (qa 45 aN<|qb 44 aR<|qa 40 aJ<|qa 38 aM<|qb 35 aL<|qa 31 aG<|qa 26 aF<|qa 21 aE<|qa 16 aD<|qa 11 aC<|qa 7 aB<|q0) [] []
  have aX:=kP (P:=PP) (cf:=evF PP T n) (fl:=0) (H:=[(.blk 5 [(kF aA)])]) (f:=false) (c:=kD) (l:=aA.Edits)
  rcases cn h with ⟨aq,aS,h⟩ | ⟨aq,aS,h⟩
  ·obtain rfl:=si h
   exact pv_q F22 (qa 50 aS<|qb 49 aX<|qa 45 aN<|qb 44 aR<|qa 40 aJ<|qa 38 aM<|qb 35 aL<|qa 31 aG<|qa 26 aF<|qa 21 aE<|qa 16 aD<|qa 11 aC<|qa 7 aB<|q0) [] []
  have ac:=kP (P:=PP) (cf:=evF PP T n) (fl:=0) (H:=[(.blk 5 [(kF aA)])]) (f:=false) (c:=kD) (l:=aA.Edits)
  have ad : kV true 0 1 [(.blk 5 [(kF aA)])]:=(by exact (clo rfl rfl))
  rcases kQ h with ⟨aI,aY,h⟩ | ⟨av,aY,h⟩
  rotate_left
  ·have aZ:=tH n aA n 0 _ aY
   obtain rfl:=si h
   exact pv_q F22 (qp aZ<|qp ad<|qb 54 ac<|qa 50 aS<|qb 49 aX<|qa 45 aN<|qb 44 aR<|qa 40 aJ<|qa 38 aM<|qb 35 aL<|qa 31 aG<|qa 26 aF<|qa 21 aE<|qa 16 aD<|qa 11 aC<|qa 7 aB<|q0) [((.exit 0),wY aA)] []
  have aZ:=tH n aA n 0 _ aY
  obtain rfl:=si h
  exact pv_q F22 (qp aZ<|qp ad<|qb 54 ac<|qa 50 aS<|qb 49 aX<|qa 45 aN<|qb 44 aR<|qa 40 aJ<|qa 38 aM<|qb 35 aL<|qa 31 aG<|qa 26 aF<|qa 21 aE<|qa 16 aD<|qa 11 aC<|qa 7 aB<|q0) [(.ret,wZ aA aI.1 aI.2.1 aI.2.2.1 aI.2.2.2.1 aI.2.2.2.2.1 aI.2.2.2.2.2.1 aI.2.2.2.2.2.2.1 aI.2.2.2.2.2.2.2.1 aI.2.2.2.2.2.2.2.2.1 aI.2.2.2.2.2.2.2.2.2.1 aI.2.2.2.2.2.2.2.2.2.2)] []
abbrev hp19 (a2447 : GOffice) : Heap:=[(.blk 2 [[(iv a2447.ID),(.sl false (List.map kF a2447.Txns))]])]
abbrev hp20 (a2447 : GOffice) : Heap:=[(.blk 2 [[(iv a2447.ID),(.sl false (List.map kF a2447.Txns))]]),(.mp (entL lA nZ ([] : List (GArr2_Int × Bool))))]
def zQ (aA : GOffice) (aB : (List (GArr2_Int × Bool))) (aC : Int) : St:=⟨[U,(.ptr 0 1 0 0),U,(.mp 1),U,U,U,U,U,U,U,U,U,U,U,U,U,U,U,U,U,U,U,(.sl false (List.map kF aA.Txns)),(iv ((aA.Txns.length : Nat) : Int)),(iv aC),U,U,U,U,U,U,U,U,U,U,U,U,U,U,U,U,U,U,U,U,U,U,U,U,U,U,U,U,U,U,U,U,U,U,U],[(.blk 2 [[(iv aA.ID),(.sl false (List.map kF aA.Txns))]]),(.mp (entL lA nZ aB))]⟩
theorem aKp (aA : GOffice) (aB : (List (GArr2_Int × Bool))) (aC : Int) : kV true 0 2 (zQ aA aB aC).heap:=(by exact (clo rfl (clo (aPn (kv:=lA) (va:=nZ) fun _=>rfl) rfl)))
def rD (aA : GOffice) (aB : Int) (aC : Int) (aD : Int) (aE : ByteArray) (aF : (List GEdit)) (aG : Int) (aH : Int) (aI : (List (GArr2_Int × Bool))) : St:=⟨[U,U,bf,U,U,U,U,U,U,U,U,U,U,U,U,U,U,U,U,U,U,U,U,U,U,U,U,U,U,U,U,U,U,U,U,U,U,U,U,U,U,U,U,U,U,U,U,U,U,U,U,U,U,U,U,U,U,U,U,U,U],[(.blk 2 [[(iv aA.ID),(.sl false (List.map kF aA.Txns))]]),(.mp (entL lA nZ aI)),(.blk 5 [[(iv aB),(iv aC),(iv aD),(sv aE),(.sl false (List.map kD aF))]]),(.blk 2 [[(iv aG),(iv aH)]])]⟩
def aCe (aA : GOffice) (aB : (List (GArr2_Int × Bool))) : St:=⟨[U,U,U,U,U,U,U,U,U,U,U,U,U,U,U,U,U,U,U,U,U,U,U,U,U,U,U,U,U,U,U,U,U,U,U,U,U,U,U,U,U,U,U,U,U,U,U,U,U,U,U,U,U,U,U,U,U,U,U,U,U],[(.blk 2 [[(iv aA.ID),(.sl false (List.map kF aA.Txns))]]),(.mp (entL lA nZ aB))]⟩
abbrev hp21 (a2447 : GOffice) (l2475 : (List (GArr2_Int × Bool))) : Heap:=[(.blk 2 [[(iv a2447.ID),(.sl false (List.map kF a2447.Txns))]]),(.mp (entL lA nZ l2475))]
abbrev hp22 (a2447 : GOffice) (l2475 : (List (GArr2_Int × Bool))) (x2520 : GTxn) : Heap:=[(.blk 2 [[(iv a2447.ID),(.sl false (List.map kF a2447.Txns))]]),(.mp (entL lA nZ l2475)),(.blk 5 [(kF x2520)]),(.blk 2 [[(iv x2520.Office),(iv x2520.Seq)]])]
abbrev hp23 (a2447 : GOffice) (l2475 : (List (GArr2_Int × Bool))) (x2520 : GTxn) : Heap:=[(.blk 2 [[(iv a2447.ID),(.sl false (List.map kF a2447.Txns))]]),(.mp (entL lA nZ (mput l2475 (GArr2_Int.mk x2520.Office x2520.Seq) true))),(.blk 5 [(kF x2520)]),(.blk 2 [[(iv x2520.Office),(iv x2520.Seq)]])]
def sK (n : Nat) (aD : GOffice) : Nat→(List (GArr2_Int × Bool))→Int→Option ((Int × Int × Int × ByteArray × (List GEdit) × Int × Int × (List (GArr2_Int × Bool))) ⊕ (List (GArr2_Int × Bool)))
 | 0,_,_=>none
 | m + 1,aB,aC=>(cnd (decide (aC < ((aD.Txns.length : Nat) : Int))) (bnd (idx aD.Txns aC) fun aA=>(bnd (f22 n aA) fun aE=>(cnd (aE != 0) (some (Sum.inl (aA.Office,aA.Seq,aA.Time,aA.Source,aA.Edits,aA.Office,aA.Seq,aB))) (cnd (decide (aC > 0)) (bnd (idx aD.Txns (IntKind.i64.wrap (aC - 1))) fun aF=>(bnd (f39 n aF aA) fun aG=>(cnd (decide (aG ≥ 0)) (some (Sum.inl (aA.Office,aA.Seq,aA.Time,aA.Source,aA.Edits,aA.Office,aA.Seq,aB))) (cnd ((Option.getD (mget aB (GArr2_Int.mk aA.Office aA.Seq)) false)) (some (Sum.inl (aA.Office,aA.Seq,aA.Time,aA.Source,aA.Edits,aA.Office,aA.Seq,aB))) (sK n aD m (mput aB (GArr2_Int.mk aA.Office aA.Seq) true) (IntKind.i64.wrap (aC + 1))))))) (cnd ((Option.getD (mget aB (GArr2_Int.mk aA.Office aA.Seq)) false)) (some (Sum.inl (aA.Office,aA.Seq,aA.Time,aA.Source,aA.Edits,aA.Office,aA.Seq,aB))) (sK n aD m (mput aB (GArr2_Int.mk aA.Office aA.Seq) true) (IntKind.i64.wrap (aC + 1)))))))) (some (Sum.inr aB)))
theorem xA (n : Nat) (aC : GOffice) : ∀ (m : Nat) (aB : (List (GArr2_Int × Bool))) (aE : Int) (r : ((Int × Int × Int × ByteArray × (List GEdit) × Int × Int × (List (GArr2_Int × Bool))) ⊕ (List (GArr2_Int × Bool)))),sK n aC m aB aE=some r→lT [] [false,false,true] true 0 2 (kW (kY (some lv10) true 0 2) (evC PP (evF PP T n) n 0 bB7) m (zQ aC aB aE))=(match r with | .inl r=>some (.ret,rD aC r.1 r.2.1 r.2.2.1 r.2.2.2.1 r.2.2.2.2.1 r.2.2.2.2.2.1 r.2.2.2.2.2.2.1 r.2.2.2.2.2.2.2) | .inr r=>some ((.exit 0),aCe aC r))
 | 0,_,_,_,h=>by cases h
 | m + 1,aB,aE,r,h=>by
  rw [sK] at h
  rcases cn h with ⟨aO,aD,h⟩ | ⟨aO,aD,h⟩
  rotate_left
  ·obtain rfl:=si h
   exact kX (some lv10) true (aCe aC aB) (qa 26 aD<|q0) [] [] (by exact (clo rfl (clo (aPn (kv:=lA) (va:=nZ) fun _=>rfl) rfl)))
  obtain ⟨aA,aP,h⟩:=kE h
  have aG:=idxl (H:=(hp21 aC aB)) (f:=false) (c:=kF) aP (kS _)
  obtain ⟨af,aQ,h⟩:=kE h
  have aH:=aKo n aA _ aQ
  rcases cn h with ⟨aR,aF,h⟩ | ⟨aR,aF,h⟩
  ·obtain rfl:=si h
   exact kX (some lv10) true (rD aC aA.Office aA.Seq aA.Time aA.Source aA.Edits aA.Office aA.Seq aB) (qa 37 aF<|qa 36 aH<|qa 28 aG<|qa 26 aD<|q0) [] [none,none] trivial
  rcases cn h with ⟨aS,aI,h⟩ | ⟨aS,aI,h⟩
  rotate_left
  ·rcases cn h with ⟨aK,aT,h⟩ | ⟨aK,aT,h⟩
   ·have aU:=by have q:=aEk (P:=PP) (cf:=evF PP T n) (fl:=0) (H:=(hp22 aC aB aA)) (id:=1) (kv:=lA) (va:=nZ) (m:=aB) (k:=(GArr2_Int.mk aA.Office aA.Seq)) (x:=(.agg [(iv aA.Office),(iv aA.Seq)])) nO false rfl rfl; simp only [aK,nZ] at q; exact q
    obtain rfl:=si h
    exact kX (some lv10) true (rD aC aA.Office aA.Seq aA.Time aA.Source aA.Edits aA.Office aA.Seq aB) (qb 56 aU<|qa 40 aI<|qa 37 aF<|qa 36 aH<|qa 28 aG<|qa 26 aD<|q0) [] [none,none] trivial
   have aV:=by have q:=aEk (P:=PP) (cf:=evF PP T n) (fl:=0) (H:=(hp22 aC aB aA)) (id:=1) (kv:=lA) (va:=nZ) (m:=aB) (k:=(GArr2_Int.mk aA.Office aA.Seq)) (x:=(.agg [(iv aA.Office),(iv aA.Seq)])) nO false rfl rfl; simp only [aK,nZ] at q; exact q
   have aW:=aR4 (P:=PP) (cf:=evF PP T n) (fl:=0) (H:=(hp22 aC aB aA)) (id:=1) (kv:=lA) (va:=nZ) (m:=aB) (k:=(GArr2_Int.mk aA.Office aA.Seq)) (x:=(.agg [(iv aA.Office),(iv aA.Seq)])) nO true rfl (by omega) rfl
   exact nx_q (zQ aC (mput aB (GArr2_Int.mk aA.Office aA.Seq) true) (IntKind.i64.wrap (aE + 1))) (qp aW<|qb 56 aV<|qa 40 aI<|qa 37 aF<|qa 36 aH<|qa 28 aG<|qa 26 aD<|q0) [] [none,none,some (hp23 aC aB aA)] (aKp _ _ _) (xA n aC m (mput aB (GArr2_Int.mk aA.Office aA.Seq) true) (IntKind.i64.wrap (aE + 1)) r h)
  obtain ⟨aX,aY,h⟩:=kE h
  have aL:=idxl (H:=(hp22 aC aB aA)) (f:=false) (c:=kF) aY (kS _)
  obtain ⟨ag,aZ,h⟩:=kE h
  have aM:=aGt n aX aA _ aZ
  rcases cn h with ⟨aa,aJ,h⟩ | ⟨aa,aJ,h⟩
  ·obtain rfl:=si h
   exact kX (some lv10) true (rD aC aA.Office aA.Seq aA.Time aA.Source aA.Edits aA.Office aA.Seq aB) (qa 50 aJ<|qa 49 aM<|qa 46 aL<|qa 40 aI<|qa 37 aF<|qa 36 aH<|qa 28 aG<|qa 26 aD<|q0) [] [none,none] trivial
  rcases cn h with ⟨aN,ab,h⟩ | ⟨aN,ab,h⟩
  ·have ac:=by have q:=aEk (P:=PP) (cf:=evF PP T n) (fl:=0) (H:=(hp22 aC aB aA)) (id:=1) (kv:=lA) (va:=nZ) (m:=aB) (k:=(GArr2_Int.mk aA.Office aA.Seq)) (x:=(.agg [(iv aA.Office),(iv aA.Seq)])) nO false rfl rfl; simp only [aN,nZ] at q; exact q
   obtain rfl:=si h
   exact kX (some lv10) true (rD aC aA.Office aA.Seq aA.Time aA.Source aA.Edits aA.Office aA.Seq aB) (qb 56 ac<|qa 50 aJ<|qa 49 aM<|qa 46 aL<|qa 40 aI<|qa 37 aF<|qa 36 aH<|qa 28 aG<|qa 26 aD<|q0) [] [none,none] trivial
  have ad:=by have q:=aEk (P:=PP) (cf:=evF PP T n) (fl:=0) (H:=(hp22 aC aB aA)) (id:=1) (kv:=lA) (va:=nZ) (m:=aB) (k:=(GArr2_Int.mk aA.Office aA.Seq)) (x:=(.agg [(iv aA.Office),(iv aA.Seq)])) nO false rfl rfl; simp only [aN,nZ] at q; exact q
  have ae:=aR4 (P:=PP) (cf:=evF PP T n) (fl:=0) (H:=(hp22 aC aB aA)) (id:=1) (kv:=lA) (va:=nZ) (m:=aB) (k:=(GArr2_Int.mk aA.Office aA.Seq)) (x:=(.agg [(iv aA.Office),(iv aA.Seq)])) nO true rfl (by omega) rfl
  exact nx_q (zQ aC (mput aB (GArr2_Int.mk aA.Office aA.Seq) true) (IntKind.i64.wrap (aE + 1))) (qp ae<|qb 56 ad<|qa 50 aJ<|qa 49 aM<|qa 46 aL<|qa 40 aI<|qa 37 aF<|qa 36 aH<|qa 28 aG<|qa 26 aD<|q0) [] [none,none,some (hp23 aC aB aA)] (aKp _ _ _) (xA n aC m (mput aB (GArr2_Int.mk aA.Office aA.Seq) true) (IntKind.i64.wrap (aE + 1)) r h)
def f21 : Nat→GOffice→Option Bool
 | 0,_=>none
 | n + 1,aA=>(cnd (decide (aA.ID < 1)) (some false) (cnd (decide (aA.ID > 8)) (some false) (cnd (decide (((aA.Txns.length : Nat) : Int) > 256)) (some false) (bnd2 (sK n aA n ([] : List (GArr2_Int × Bool)) 0) (fun aB=>(some false)) (fun aC=>(some true))))))
theorem aS5 (n : Nat) (aA : GOffice) (r : Bool) (h : f21 n aA=some r) : pv PP T n 21 [(.agg (mZ aA))]=some (bv r):=by
 cases n with
 | zero=>cases h
 | succ n =>
  rw [f21] at h
  rcases cn h with ⟨aK,aC,h⟩ | ⟨aK,aC,h⟩
  ·obtain rfl:=si h
   exact pv_q F21 (qa 9 aC<|q0) [] []
  rcases cn h with ⟨aL,aD,h⟩ | ⟨aL,aD,h⟩
  ·obtain rfl:=si h
   exact pv_q F21 (qa 13 aD<|qa 9 aC<|q0) [] []
  have aF:=kP (P:=PP) (cf:=evF PP T n) (fl:=0) (H:=(hp19 aA)) (f:=false) (c:=kF) (l:=aA.Txns)
  rcases cn h with ⟨aM,aE,h⟩ | ⟨aM,aE,h⟩
  ·obtain rfl:=si h
   exact pv_q F21 (qa 19 aE<|qb 18 aF<|qa 13 aD<|qa 9 aC<|q0) [] []
  have aI:=kP (P:=PP) (cf:=evF PP T n) (fl:=0) (H:=(hp20 aA)) (f:=false) (c:=kF) (l:=aA.Txns)
  have aJ : kV true 0 2 [(.blk 2 [[(iv aA.ID),(.sl false (List.map kF aA.Txns))]]),(.mp (entL lA nZ ([] : List (GArr2_Int × Bool))))]:=(by exact (clo rfl (clo (aPn (kv:=lA) (va:=nZ) fun _=>rfl) rfl)))
  rcases kQ h with ⟨aB,aG,h⟩ | ⟨aN,aG,h⟩
  rotate_left
  ·have aH:=xA n aA n ([] : List (GArr2_Int × Bool)) 0 _ aG
   obtain rfl:=si h
   exact pv_q F21 (qp aH<|qp aJ<|qb 24 aI<|qa 19 aE<|qb 18 aF<|qa 13 aD<|qa 9 aC<|q0) [((.exit 0),aCe aA aN)] []
  have aH:=xA n aA n ([] : List (GArr2_Int × Bool)) 0 _ aG
  obtain rfl:=si h
  exact pv_q F21 (qp aH<|qp aJ<|qb 24 aI<|qa 19 aE<|qb 18 aF<|qa 13 aD<|qa 9 aC<|q0) [(.ret,rD aA aB.1 aB.2.1 aB.2.2.1 aB.2.2.2.1 aB.2.2.2.2.1 aB.2.2.2.2.2.1 aB.2.2.2.2.2.2.1 aB.2.2.2.2.2.2.2)] []
abbrev hp25 (a2557 : GTxn) : Heap:=[(.blk 5 [(kF a2557)]),(.blk 5 [[(iv 0),(iv 0),(iv 0),(sv (⟨#[]⟩)),(.lit nilS)]])]
def aRf (aA : GTxn) : St:=⟨[U,(.ptr 0 1 0 0),(.ptr 1 1 0 0),U,U,U,U,U,U,U,(.sl false []),(iv 0),(iv 0),U,U,U,U,U,U,U,U,U,U,U,U,U,U,U,U,U,U,U,U,U,U],[(.blk 5 [(kF (GTxn.mk aA.Office aA.Seq aA.Time aA.Source []))]),(.blk 5 [[(iv 0),(iv 0),(iv 0),(sv (⟨#[]⟩)),(.lit nilS)]])]⟩
def aB6 (aA : GTxn) : St:=⟨[U,(.ptr 0 1 0 0),(.ptr 1 1 0 0),U,U,U,U,U,U,U,U,U,U,U,U,U,U,U,U,U,U,U,U,U,U,U,U,U,U,U,U,U,U,U,U],[(.blk 5 [(kF (GTxn.mk aA.Office aA.Seq aA.Time aA.Source []))]),(.blk 5 [[(iv 0),(iv 0),(iv 0),(sv (⟨#[]⟩)),(.lit nilS)]])]⟩
def aKl (n : Nat) (aA : GTxn) : Nat→Option Unit
 | 0=>none
 | m + 1=>(some ())
theorem aO7 (n : Nat) (aA : GTxn) : ∀ (m : Nat) (r : Unit),aKl n aA m=some r→lT [false,true,true] [false,false,true] true 0 2 (kW (kY (some lv11) true 0 2) (evC PP (evF PP T n) n 0 aR2) m (aRf aA))=some ((.exit 0),aB6 aA)
 | 0,_,h=>by cases h
 | m + 1,r,h=>by
  rw [aKl] at h
  obtain rfl:=si h
  exact kX (some lv11) true (aB6 aA) q0 [] [] (by exact (clo rfl (clo rfl rfl)))
abbrev hp26 (a2557 : GTxn) : Heap:=[(.blk 5 [(kF a2557)]),(.blk 5 [[(iv 0),(iv 0),(iv 0),(sv (⟨#[]⟩)),(.lit nilS)]]),(.blk 10 (List.map kD a2557.Edits))]
def yE (aA : GTxn) (aB : (List GEdit)) (aC : Int) : St:=⟨[U,(.ptr 0 1 0 0),(.ptr 1 1 0 0),U,U,U,U,U,U,U,(.ms 2 aB.length 0 aB.length),(iv ((aA.Edits.length : Nat) : Int)),(iv aC),U,U,U,U,U,U,U,U,U,U,U,U,U,U,U,U,U,U,U,U,U,U],[(.blk 5 [[(iv aA.Office),(iv aA.Seq),(iv aA.Time),(sv aA.Source),(.ms 2 aB.length 0 aB.length)]]),(.blk 5 [[(iv 0),(iv 0),(iv 0),(sv (⟨#[]⟩)),(.lit nilS)]]),(.blk 10 (List.map kD aB))]⟩
def vP (aA : GTxn) (aB : (List GEdit)) : St:=⟨[U,(.ptr 0 1 0 0),(.ptr 1 1 0 0),U,U,U,U,U,U,U,U,U,U,U,U,U,U,U,U,U,U,U,U,U,U,U,U,U,U,U,U,U,U,U,U],[(.blk 5 [[(iv aA.Office),(iv aA.Seq),(iv aA.Time),(sv aA.Source),(.ms 2 aB.length 0 aB.length)]]),(.blk 5 [[(iv 0),(iv 0),(iv 0),(sv (⟨#[]⟩)),(.lit nilS)]]),(.blk 10 (List.map kD aB))]⟩
abbrev hp27 (a2557 : GTxn) (l2589 : (List GEdit)) : Heap:=[(.blk 5 [[(iv a2557.Office),(iv a2557.Seq),(iv a2557.Time),(sv a2557.Source),(.ms 2 l2589.length 0 l2589.length)]]),(.blk 5 [[(iv 0),(iv 0),(iv 0),(sv (⟨#[]⟩)),(.lit nilS)]]),(.blk 10 (List.map kD l2589))]
abbrev hp28 (a2557 : GTxn) (l2589 : (List GEdit)) (x2613 : GEdit) : Heap:=[(.blk 5 [[(iv a2557.Office),(iv a2557.Seq),(iv a2557.Time),(sv a2557.Source),(.ms 2 l2589.length 0 l2589.length)]]),(.blk 5 [[(iv 0),(iv 0),(iv 0),(sv (⟨#[]⟩)),(.lit nilS)]]),(.blk 10 (List.map kD l2589)),(.blk 10 [(kD x2613)])]
def rW (n : Nat) (aE : GTxn) : Nat→(List GEdit)→Int→Option (List GEdit)
 | 0,_,_=>none
 | m + 1,aD,aC=>(cnd (decide (aC < ((aE.Edits.length : Nat) : Int))) (bnd (idxK aD aD.length aC) fun aA=>(bnd (f60 n aA.Via) fun aF=>(bnd (f61 n aA.Parts) fun aG=>(bnd (idxK (List.set aD (Int.toNat aC) (GEdit.mk aA.Kind aA.ID aA.A aA.B aA.C aA.At aF aA.Name aA.Parts)) aD.length aC) fun aB=>(rW n aE m (List.set (List.set aD (Int.toNat aC) (GEdit.mk aA.Kind aA.ID aA.A aA.B aA.C aA.At aF aA.Name aA.Parts)) (Int.toNat aC) (GEdit.mk aB.Kind aB.ID aB.A aB.B aB.C aB.At aB.Via aB.Name aG)) (IntKind.i64.wrap (aC + 1))))))) (some aD))
theorem aB7 (n : Nat) (aC : GTxn) : ∀ (m : Nat) (aD : (List GEdit)) (aE : Int) (r : (List GEdit)),rW n aC m aD aE=some r→lT [false,true,true] [false,false,true] true 0 3 (kW (kY (some lv11) true 0 3) (evC PP (evF PP T n) n 0 aR2) m (yE aC aD aE))=some ((.exit 0),vP aC r)
 | 0,_,_,_,h=>by cases h
 | m + 1,aD,aE,r,h=>by
  rw [rW] at h
  rcases cn h with ⟨aK,aI,h⟩ | ⟨aK,aI,h⟩
  rotate_left
  ·obtain rfl:=si h
   exact kX (some lv11) true (vP aC aD) (qa 13 aI<|q0) [] [] (by exact (clo rfl (clo rfl (clo (mE (mD 3)) rfl))))
  obtain ⟨aA,aH,h⟩:=kE h
  have aL:=uP (H:=(hp27 aC aD)) (id:=2) (s:=10) (c:=kD) aH rfl
  have aM:=aIe (P:=PP) (cf:=evF PP T n) (fl:=0) (H:=(hp27 aC aD)) (id:=2) (c:=kD) (off:=0) (n:=10) (agg:=true) (v:=(.agg [(iv aA.Kind),(iv aA.ID),(iv aA.A),(iv aA.B),(iv aA.C),(iv aA.At.X),(iv aA.At.Y),(.sl false (List.map kI aA.Via)),(sv aA.Name),(.sl false (List.map kL aA.Parts))])) aH rfl (by simp [lP]) rfl
  obtain ⟨aF,aN,h⟩:=kE h
  have aO:=aYg n aA.Via _ aN
  have aP:=uP (H:=(hp28 aC aD aA)) (id:=2) (s:=10) (c:=kD) aH rfl
  have aQ:=aT3 (P:=PP) (cf:=evF PP T n) (fl:=0) (H:=(hp28 aC aD aA)) (id:=2) (s:=10) (c:=kD) (x':=(GEdit.mk aA.Kind aA.ID aA.A aA.B aA.C aA.At aF aA.Name aA.Parts)) (off:=7) (n:=1) (v:=(.sl false (List.map kI aF))) (cs:=[(.sl false (List.map kI aF))]) aH rfl (by omega) rfl rfl (by constructor <;> simp [lP]) rfl
  obtain ⟨aG,aR,h⟩:=kE h
  have aS:=aYf n aA.Parts _ aR
  obtain ⟨aB,aJ,h⟩:=kE h
  have aT:=aOc (tot:=aD.length) (by simp) (H:=[(.blk 5 [[(iv aC.Office),(iv aC.Seq),(iv aC.Time),(sv aC.Source),(.ms 2 aD.length 0 aD.length)]]),(.blk 5 [[(iv 0),(iv 0),(iv 0),(sv (⟨#[]⟩)),(.lit nilS)]]),(.blk 10 (List.map kD (List.set aD (Int.toNat aE) (GEdit.mk aA.Kind aA.ID aA.A aA.B aA.C aA.At aF aA.Name aA.Parts)))),(.blk 10 [(kD aA)])]) (id:=2) (s:=10) (c:=kD) aJ rfl
  have aU:=aR5 (tot:=aD.length) (by simp) (P:=PP) (cf:=evF PP T n) (fl:=0) (H:=[(.blk 5 [[(iv aC.Office),(iv aC.Seq),(iv aC.Time),(sv aC.Source),(.ms 2 aD.length 0 aD.length)]]),(.blk 5 [[(iv 0),(iv 0),(iv 0),(sv (⟨#[]⟩)),(.lit nilS)]]),(.blk 10 (List.map kD (List.set aD (Int.toNat aE) (GEdit.mk aA.Kind aA.ID aA.A aA.B aA.C aA.At aF aA.Name aA.Parts)))),(.blk 10 [(kD aA)])]) (id:=2) (s:=10) (c:=kD) (x':=(GEdit.mk aB.Kind aB.ID aB.A aB.B aB.C aB.At aB.Via aB.Name aG)) (off:=9) (n:=1) (v:=(.sl false (List.map kL aG))) (cs:=[(.sl false (List.map kL aG))]) aJ rfl (by omega) rfl rfl (by constructor <;> simp [lP]) rfl
  have aV : yE aC (List.set (List.set aD (Int.toNat aE) (GEdit.mk aA.Kind aA.ID aA.A aA.B aA.C aA.At aF aA.Name aA.Parts)) (Int.toNat aE) (GEdit.mk aB.Kind aB.ID aB.A aB.B aB.C aB.At aB.Via aB.Name aG)) (IntKind.i64.wrap (aE + 1))=⟨[U,(.ptr 0 1 0 0),(.ptr 1 1 0 0),U,U,U,U,U,U,U,(.ms 2 aD.length 0 aD.length),(iv ((aC.Edits.length : Nat) : Int)),(iv (IntKind.i64.wrap (aE + 1))),U,U,U,U,U,U,U,U,U,U,U,U,U,U,U,U,U,U,U,U,U,U],[(.blk 5 [[(iv aC.Office),(iv aC.Seq),(iv aC.Time),(sv aC.Source),(.ms 2 aD.length 0 aD.length)]]),(.blk 5 [[(iv 0),(iv 0),(iv 0),(sv (⟨#[]⟩)),(.lit nilS)]]),(.blk 10 (List.map kD (List.set (List.set aD (Int.toNat aE) (GEdit.mk aA.Kind aA.ID aA.A aA.B aA.C aA.At aF aA.Name aA.Parts)) (Int.toNat aE) (GEdit.mk aB.Kind aB.ID aB.A aB.B aB.C aB.At aB.Via aB.Name aG))))]⟩:=by simp [yE]
  exact (congrArg (lT [false,true,true] [false,false,true] true 0 3) (aNj (some lv11) true ⟨[U,(.ptr 0 1 0 0),(.ptr 1 1 0 0),U,U,U,U,U,U,U,(.ms 2 aD.length 0 aD.length),(iv ((aC.Edits.length : Nat) : Int)),(iv (IntKind.i64.wrap (aE + 1))),U,U,U,U,U,U,U,U,U,U,U,U,U,U,U,U,U,U,U,U,U,U],[(.blk 5 [[(iv aC.Office),(iv aC.Seq),(iv aC.Time),(sv aC.Source),(.ms 2 aD.length 0 aD.length)]]),(.blk 5 [[(iv 0),(iv 0),(iv 0),(sv (⟨#[]⟩)),(.lit nilS)]]),(.blk 10 (List.map kD (List.set (List.set aD (Int.toNat aE) (GEdit.mk aA.Kind aA.ID aA.A aA.B aA.C aA.At aF aA.Name aA.Parts)) (Int.toNat aE) (GEdit.mk aB.Kind aB.ID aB.A aB.B aB.C aB.At aB.Via aB.Name aG))))]⟩ (qp aU<|qa 31 aT<|qa 30 aS<|qp aQ<|qa 23 aP<|qa 22 aO<|qb 16 aM<|qa 15 aL<|qa 13 aI<|q0) [] [none,some [(.blk 5 [[(iv aC.Office),(iv aC.Seq),(iv aC.Time),(sv aC.Source),(.ms 2 aD.length 0 aD.length)]]),(.blk 5 [[(iv 0),(iv 0),(iv 0),(sv (⟨#[]⟩)),(.lit nilS)]]),(.blk 10 (List.map kD (List.set aD (Int.toNat aE) (GEdit.mk aA.Kind aA.ID aA.A aA.B aA.C aA.At aF aA.Name aA.Parts)))),(.blk 10 [(kD aA)])],some [(.blk 5 [[(iv aC.Office),(iv aC.Seq),(iv aC.Time),(sv aC.Source),(.ms 2 aD.length 0 aD.length)]]),(.blk 5 [[(iv 0),(iv 0),(iv 0),(sv (⟨#[]⟩)),(.lit nilS)]]),(.blk 10 (List.map kD (List.set (List.set aD (Int.toNat aE) (GEdit.mk aA.Kind aA.ID aA.A aA.B aA.C aA.At aF aA.Name aA.Parts)) (Int.toNat aE) (GEdit.mk aB.Kind aB.ID aB.A aB.B aB.C aB.At aB.Via aB.Name aG)))),(.blk 10 [(kD aA)])]] (by exact (clo rfl (clo rfl (clo (mE (mD 3)) rfl)))) rfl)).trans ((congrArg (fun s=>lT [false,true,true] [false,false,true] true 0 3 (kW (kY (some lv11) true 0 3) (evC PP (evF PP T n) n 0 aR2) m s)) aV.symm).trans (aB7 n aC m (List.set (List.set aD (Int.toNat aE) (GEdit.mk aA.Kind aA.ID aA.A aA.B aA.C aA.At aF aA.Name aA.Parts)) (Int.toNat aE) (GEdit.mk aB.Kind aB.ID aB.A aB.B aB.C aB.At aB.Via aB.Name aG)) (IntKind.i64.wrap (aE + 1)) r h))
abbrev hp29 (a2557 : GTxn) (v2634 : (List GEdit)) : Heap:=[(.blk 5 [[(iv a2557.Office),(iv a2557.Seq),(iv a2557.Time),(sv a2557.Source),(.ms 2 v2634.length 0 v2634.length)]]),(.blk 5 [[(iv a2557.Office),(iv a2557.Seq),(iv a2557.Time),(sv a2557.Source),(.ms 2 v2634.length 0 v2634.length)]]),(.blk 10 (List.map kD v2634))]
def f37 : Nat→GTxn→Option GTxn
 | 0,_=>none
 | n + 1,aA=>(bnd (prd n) fun aC=>(cnd (List.isEmpty aA.Edits) (bnd (aKl n aA n) fun aD=>(some (GTxn.mk aA.Office aA.Seq aA.Time aA.Source []))) (bnd (grd (decide (List.length aA.Edits ≤ 1000000))) fun aE=>(bnd (rW n aA n aA.Edits 0) fun aB=>(some (GTxn.mk aA.Office aA.Seq aA.Time aA.Source aB))))))
theorem aB5 (n : Nat) (aA : GTxn) (r : GTxn) (h : f37 n aA=some r) : pv PP T n 37 [(.agg (kF aA))]=some (.agg (kF r)):=by
 cases n with
 | zero=>cases h
 | succ n =>
  rw [f37] at h
  obtain ⟨aP,aE,h⟩:=kE h
  have aD:=lD aE
  rcases cn h with ⟨aC,aF,h⟩ | ⟨aC,aF,h⟩
  ·have aG : evOp PP (evF PP T n) 0 (.callF 59 [.tmp 0]) [(.sl false (List.map kD aA.Edits))] (hp25 aA)=some ((.sl false []),(hp25 aA)):=by rw [aD]; exact aVr (hp25 aA) rfl (by omega) aC
   have aH : kV true 0 2 [(.blk 5 [(kF (GTxn.mk aA.Office aA.Seq aA.Time aA.Source []))]),(.blk 5 [[(iv 0),(iv 0),(iv 0),(sv (⟨#[]⟩)),(.lit nilS)]])]:=(by exact (clo rfl (clo rfl rfl)))
   obtain ⟨aQ,aI,h⟩:=kE h
   have aJ:=aO7 n aA n _ aI
   obtain rfl:=si h
   exact pv_q F37 (qp aJ<|qp aH<|qb 7 aG<|q0) [((.exit 0),aB6 aA)] [none,none]
  obtain ⟨aR,aK,h⟩:=kE h
  have aL : evOp PP (evF PP T n) 0 (.callF 59 [.tmp 0]) [(.sl false (List.map kD aA.Edits))] (hp25 aA)=some ((.ms 2 aA.Edits.length 0 aA.Edits.length),(hp26 aA)):=by rw [aD]; exact aVq (hp25 aA) rfl lP (by omega) (by omega) aC (of_decide_eq_true (aQx aK))
  have aM : kV true 0 3 [(.blk 5 [[(iv aA.Office),(iv aA.Seq),(iv aA.Time),(sv aA.Source),(.ms 2 aA.Edits.length 0 aA.Edits.length)]]),(.blk 5 [[(iv 0),(iv 0),(iv 0),(sv (⟨#[]⟩)),(.lit nilS)]]),(.blk 10 (List.map kD aA.Edits))]:=(by exact (clo rfl (clo rfl (clo (mE (mD 3)) rfl))))
  obtain ⟨aB,aN,h⟩:=kE h
  have aO:=aB7 n aA n aA.Edits 0 _ aN
  obtain rfl:=si h
  refine uO (kT F37 (qp aO<|qp aM<|qc 7 aL<|q0) [((.exit 0),vP aA aB)] [none,none] (r:=(.agg [(iv aA.Office),(iv aA.Seq),(iv aA.Time),(sv aA.Source),(.ms 2 aB.length 0 aB.length)])) (H':=(hp29 aA aB))) ?_
  show (AV.agg [(mV (hp29 aA aB) 0 (iv aA.Office)),(mV (hp29 aA aB) 0 (iv aA.Seq)),(mV (hp29 aA aB) 0 (iv aA.Time)),(mV (hp29 aA aB) 0 (sv aA.Source)),(mV (hp29 aA aB) 0 (.ms 2 aB.length 0 aB.length))])=_
  rw [oJ (H:=(hp29 aA aB)) (id:=2) (s:=10) (c:=kD) (l:=aB) rfl (aHf _ _ _)]
  first | done | rfl
abbrev hp30 (a2635 : GOffice) : Heap:=[(.blk 2 [[(iv a2635.ID),(.sl false (List.map kF a2635.Txns))]]),(.blk 2 [[(iv 0),(.lit nilS)]])]
def aOy (n : Nat) (aC : Int) (aF : ByteArray) (aG : (List GEdit)) (aA : GOffice) : Nat→Int→Bool→Int→Option (Int × Bool)
 | 0,_,_,_=>none
 | m + 1,aD,aH,aB=>(cnd (decide (aB < ((aA.Txns.length : Nat) : Int))) (bnd (idx aA.Txns aB) fun aE=>(cnd (aE.Office == aA.ID) (cnd (aH) (aOy n aC aF aG aA m (imax aD aE.Seq) true (IntKind.i64.wrap (aB + 1))) (cnd (decide (aE.Time > aC)) (aOy n aC aF aG aA m (imax aD aE.Seq) true (IntKind.i64.wrap (aB + 1))) (aOy n aC aF aG aA m (imax aD aE.Seq) false (IntKind.i64.wrap (aB + 1))))) (aOy n aC aF aG aA m aD aH (IntKind.i64.wrap (aB + 1))))) (some (aD,aH)))
def aGn (n : Nat) (aA : GOffice) (aD : (Int × Bool)) (aE : Int) (aF : ByteArray) (aG : (List GEdit)) : Nat→(List GTxn)→Int→Option (List GTxn)
 | 0,_,_=>none
 | m + 1,aC,aB=>(cnd (decide (aB < ((aA.Txns.length : Nat) : Int))) (bnd (idx aA.Txns aB) fun aH=>(bnd (f37 n aH) fun aI=>(bnd (app aC [aI]) fun aJ=>(aGn n aA aD aE aF aG m aJ (IntKind.i64.wrap (aB + 1)))))) (some aC))
def aBo (n : Nat) (aC : (List GTxn)) (aD : GOffice) (aE : (Int × Bool)) (aF : Int) (aG : ByteArray) (aH : (List GEdit)) : Nat→Int→Int→Option Int
 | 0,_,_=>none
 | m + 1,aB,aA=>(cnd (decide (aA < aB)) (bnd (idxK aC aC.length (IntKind.i64.wrap (Int.fdiv (IntKind.u64.wrap (IntKind.i64.wrap (aA + aB))) 2))) fun aI=>(bnd (f39 n aI (GTxn.mk aD.ID (IntKind.i64.wrap (aE.1 + 1)) aF aG aH)) fun aJ=>(cnd (decide (aJ < 0)) (aBo n aC aD aE aF aG aH m aB (IntKind.i64.wrap ((IntKind.i64.wrap (Int.fdiv (IntKind.u64.wrap (IntKind.i64.wrap (aA + aB))) 2)) + 1))) (aBo n aC aD aE aF aG aH m (IntKind.i64.wrap (Int.fdiv (IntKind.u64.wrap (IntKind.i64.wrap (aA + aB))) 2)) aA)))) (some aA))
def f6 : Nat→GOffice→Int→ByteArray→(List GEdit)→Option (GOffice × Int)
 | 0,_,_,_,_=>none
 | n + 1,aA,aB,aC,aD=>(bnd (f21 n aA) fun aL=>(cnd (aL) (bnd (aOy n aB aC aD aA n 0 false 0) fun aE=>(bnd (f22 n (GTxn.mk aA.ID (IntKind.i64.wrap (aE.1 + 1)) aB aC aD)) fun aJ=>(cnd (aJ != 0) (some ((GOffice.mk 0 []),aJ)) (cnd (decide (((aA.Txns.length : Nat) : Int) ≥ 256)) (some ((GOffice.mk 0 []),3)) (cnd (aE.2) (some ((GOffice.mk 0 []),10)) (bnd (prd n) fun aK=>(bnd (aGn aK aA aE aB aC aD aK [] 0) fun aF=>(bnd (prd n) fun aG=>(bnd (prd aG) fun aI=>(bnd (aBo aI aF aA aE aB aC aD aI ((aF.length : Nat) : Int) 0) fun aH=>(cnd (decide (aH < ((aF.length : Nat) : Int))) (bnd (idxK aF aF.length aH) fun aM=>(bnd (f39 aI aM (GTxn.mk aA.ID (IntKind.i64.wrap (aE.1 + 1)) aB aC aD)) fun aN=>(cnd (aN == 0) (bnd (f37 aG (GTxn.mk aA.ID (IntKind.i64.wrap (aE.1 + 1)) aB aC aD)) fun aO=>(bnd (prd aG) fun aU=>bnd (insO aF aH aO) fun aP=>(some ((GOffice.mk aA.ID aP),0)))) (bnd (f37 aG (GTxn.mk aA.ID (IntKind.i64.wrap (aE.1 + 1)) aB aC aD)) fun aQ=>(bnd (prd aG) fun aV=>bnd (insO aF aH aQ) fun aR=>(some ((GOffice.mk aA.ID aR),0))))))) (bnd (f37 aG (GTxn.mk aA.ID (IntKind.i64.wrap (aE.1 + 1)) aB aC aD)) fun aS=>(bnd (prd aG) fun aW=>bnd (insO aF aH aS) fun aT=>(some ((GOffice.mk aA.ID aT),0))))))))))))))) (some ((GOffice.mk 0 []),19))))
def aS6 (n : Nat) (aA : (List GTxn)) : Nat→(List (GArr2_Int × Bool))→Int→Option (List (GArr2_Int × Bool))
 | 0,_,_=>none
 | m + 1,aC,aB=>(cnd (decide (aB < ((aA.length : Nat) : Int))) (bnd (idx aA aB) fun aD=>(aS6 n aA m (mput aC (GArr2_Int.mk aD.Office aD.Seq) true) (IntKind.i64.wrap (aB + 1)))) (some aC))
def aDr (n : Nat) (aB : Int) (aC : (List (GArr2_Int × Bool))) (aD : (List Int)) : Nat→Int→Option Int
 | 0,_=>none
 | m + 1,aA=>(cnd ((Option.getD (mget aC (GArr2_Int.mk aB (IntKind.i64.wrap (aA + 1)))) false)) (aDr n aB aC aD m (IntKind.i64.wrap (aA + 1))) (some aA))
def yF (n : Nat) (aC : (List (GArr2_Int × Bool))) : Nat→(List Int)→Int→Int→Option (List Int)
 | 0,_,_,_=>none
 | m + 1,aA,aD,aB=>(cnd (decide (aB ≤ 8)) (bnd (prd n) fun aE=>(bnd (aDr aE aB aC aA aE 0) fun aF=>(cnd (aF == 0) (yF n aC m aA (IntKind.i64.wrap (aD + 1)) (IntKind.i64.wrap (aB + 1))) (bnd (appZ aA aD 0) fun aG=>(bnd (app aG [aF]) fun aH=>(yF n aC m aH 0 (IntKind.i64.wrap (aB + 1)))))))) (some aA))
def f16 : Nat→(List GTxn)→Option GClock
 | 0,_=>none
 | n + 1,aB=>(bnd (aS6 n aB n ([] : List (GArr2_Int × Bool)) 0) fun aC=>(bnd (prd n) fun aA=>(bnd (yF aA aC aA [] 0 1) fun aD=>(some (GClock.mk aD)))))
def f80 : Nat→Int→Int→Option Int
 | 0,_,_=>none
 | n + 1,aA,aB=>(cnd (decide (aA < aB)) (some aB) (some aA))
theorem aXo (n : Nat) (aB : Int) (aC : Int) (r : Int) (h : f80 n aB aC=some r) : pv PP T n 80 [(iv aB),(iv aC)]=some (iv r):=by
 cases n with
 | zero=>cases h
 | succ n =>
  rw [f80] at h
  rcases cn h with ⟨aD,aA,h⟩ | ⟨aD,aA,h⟩
  ·obtain rfl:=si h
   exact pv_q F80 (qa 7 aA<|q0) [] []
  obtain rfl:=si h
  exact pv_q F80 (qa 7 aA<|q0) [] []
abbrev hp50 (a2999 : GClock) : Heap:=[(.blk 1 [[(.sl false (List.map kL a2999.Counts))]])]
def f56 : Nat→GClock→Int→Option Int
 | 0,_,_=>none
 | n + 1,aB,aA=>(cnd (decide (aA < 1)) (some 0) (cnd (decide (aA > 8)) (some 0) (cnd (decide (aA > ((aB.Counts.length : Nat) : Int))) (some 0) (bnd (idx aB.Counts (IntKind.i64.wrap (aA - 1))) fun aC=>(bnd (f80 n aC 0) fun aD=>(some aD))))))
theorem aYi (n : Nat) (aA : GClock) (aE : Int) (r : Int) (h : f56 n aA aE=some r) : pv PP T n 56 [(.agg (oS aA)),(iv aE)]=some (iv r):=by
 cases n with
 | zero=>cases h
 | succ n =>
  rw [f56] at h
  rcases cn h with ⟨aG,aB,h⟩ | ⟨aG,aB,h⟩
  ·obtain rfl:=si h
   exact pv_q F56 (qa 6 aB<|q0) [] []
  rcases cn h with ⟨aH,aC,h⟩ | ⟨aH,aC,h⟩
  ·obtain rfl:=si h
   exact pv_q F56 (qa 9 aC<|qa 6 aB<|q0) [] []
  have aF:=kP (P:=PP) (cf:=evF PP T n) (fl:=0) (H:=(hp50 aA)) (f:=false) (c:=kL) (l:=aA.Counts)
  rcases cn h with ⟨aI,aD,h⟩ | ⟨aI,aD,h⟩
  ·obtain rfl:=si h
   exact pv_q F56 (qa 16 aD<|qb 15 aF<|qa 9 aC<|qa 6 aB<|q0) [] []
  obtain ⟨aJ,aK,h⟩:=kE h
  have aL:=idxl (H:=(hp50 aA)) (f:=false) (c:=kL) aK (lS _)
  obtain ⟨aO,aM,h⟩:=kE h
  have aN:=aXo n aJ 0 _ aM
  obtain rfl:=si h
  exact pv_q F56 (qa 24 aN<|qa 22 aL<|qa 16 aD<|qb 15 aF<|qa 9 aC<|qa 6 aB<|q0) [] []
def f35 : Nat→GClock→Int→Int→Option Bool
 | 0,_,_,_=>none
 | n + 1,aB,aC,aA=>(cnd (decide (1 ≤ aA)) (bnd (f56 n aB aC) fun aD=>(cnd (decide (aA ≤ aD)) (some true) (some false))) (some false))
theorem aS1 (n : Nat) (aB : GClock) (aC : Int) (aE : Int) (r : Bool) (h : f35 n aB aC aE=some r) : pv PP T n 35 [(.agg (oS aB)),(iv aC),(iv aE)]=some (bv r):=by
 cases n with
 | zero=>cases h
 | succ n =>
  rw [f35] at h
  rcases cn h with ⟨aG,aA,h⟩ | ⟨aG,aA,h⟩
  rotate_left
  ·obtain rfl:=si h
   exact pv_q F35 (qa 8 aA<|q0) [] []
  obtain ⟨aJ,aH,h⟩:=kE h
  have aF:=aYi n aB aC _ aH
  rcases cn h with ⟨aI,aD,h⟩ | ⟨aI,aD,h⟩
  ·obtain rfl:=si h
   exact pv_q F35 (qa 14 aD<|qa 13 aF<|qa 8 aA<|q0) [] []
  obtain rfl:=si h
  exact pv_q F35 (qa 14 aD<|qa 13 aF<|qa 8 aA<|q0) [] []
abbrev hp51 (l3032 : (List GPoint)) : Heap:=[(.blk 2 (List.map kI [])),(.blk 2 (List.map kI l3032))]
def f51 : Nat→(List GPoint)→Option (List GPoint)
 | 0,_=>none
 | n + 1,aA=>(cnd (List.isEmpty aA) (some []) (bnd (app ([] : (List GPoint)) aA) fun aB=>(some aB)))
theorem aYo (n : Nat) (aC : (List GPoint)) (r : (List GPoint)) (h : f51 n aC=some r) : pv PP T n 51 [(.sl false (List.map kI aC))]=some (.sl false (List.map kI r)):=by
 cases n with
 | zero=>cases h
 | succ n =>
  rw [f51] at h
  rcases cn h with ⟨aB,aD,h⟩ | ⟨aB,aD,h⟩
  ·have aE:=aRx (fl:=0) (H:=[(.blk 2 (List.map kI []))]) (s:=2) (bytes:=16) (c:=kI) (x:=(.lit nilS)) aB mS (by omega) (.inl rfl)
   obtain rfl:=si h
   exact pv_q F51 (qb 4 aE<|q0) [] []
  obtain ⟨aA,aF,h⟩:=kE h
  have aG:=aMe (fl:=0) (H:=[(.blk 2 (List.map kI []))]) (s:=2) (bytes:=16) (c:=kI) (x:=(.lit nilS)) aF aB mS (by omega) (by omega) (.inl rfl)
  obtain rfl:=si h
  refine uO (kT F51 (qc 4 aG<|q0) [] [] (r:=(.ms 1 aA.length 0 aA.length)) (H':=(hp51 aA))) ?_
  show (mV (hp51 aA) 0 (.ms 1 aA.length 0 aA.length))=_
  rw [oJ (H:=(hp51 aA)) (id:=1) (s:=2) (c:=kI) (l:=aA) rfl (xJ _ _ _)]
  first | done | rfl
abbrev hp52 (l3038 : (List Int)) : Heap:=[(.blk 1 (List.map kL [])),(.blk 1 (List.map kL l3038))]
def f52 : Nat→(List Int)→Option (List Int)
 | 0,_=>none
 | n + 1,aA=>(cnd (List.isEmpty aA) (some []) (bnd (app ([] : (List Int)) aA) fun aB=>(some aB)))
theorem aYn (n : Nat) (aC : (List Int)) (r : (List Int)) (h : f52 n aC=some r) : pv PP T n 52 [(.sl false (List.map kL aC))]=some (.sl false (List.map kL r)):=by
 cases n with
 | zero=>cases h
 | succ n =>
  rw [f52] at h
  rcases cn h with ⟨aB,aD,h⟩ | ⟨aB,aD,h⟩
  ·have aE:=aRx (fl:=0) (H:=[(.blk 1 (List.map kL []))]) (s:=1) (bytes:=8) (c:=kL) (x:=(.lit nilS)) aB lS (by omega) (.inl rfl)
   obtain rfl:=si h
   exact pv_q F52 (qb 4 aE<|q0) [] []
  obtain ⟨aA,aF,h⟩:=kE h
  have aG:=aMe (fl:=0) (H:=[(.blk 1 (List.map kL []))]) (s:=1) (bytes:=8) (c:=kL) (x:=(.lit nilS)) aF aB lS (by omega) (by omega) (.inl rfl)
  obtain rfl:=si h
  refine uO (kT F52 (qc 4 aG<|q0) [] [] (r:=(.ms 1 aA.length 0 aA.length)) (H':=(hp52 aA))) ?_
  show (mV (hp52 aA) 0 (.ms 1 aA.length 0 aA.length))=_
  rw [oJ (H:=(hp52 aA)) (id:=1) (s:=1) (c:=kL) (l:=aA) rfl (uJ _ _ _)]
  first | done | rfl
abbrev hp54 (a3041 : GClock) (l3121 : (List GTxn)) : Heap:=[(.blk 1 [[(.sl false (List.map kL a3041.Counts))]]),(.blk 5 (List.map kF l3121))]
abbrev hp62 (a3302 : GOffice) (a3303 : GClock) : Heap:=[(.blk 2 [[(iv a3302.ID),(.sl false (List.map kF a3302.Txns))]]),(.blk 1 [[(.sl false (List.map kL a3303.Counts))]])]
abbrev hp63 (a3302 : GOffice) (a3303 : GClock) : Heap:=[(.blk 2 [[(iv a3302.ID),(.sl false (List.map kF a3302.Txns))]]),(.blk 1 [[(.sl false (List.map kL a3303.Counts))]]),(.blk 1 [[(.sl false (List.map kL a3303.Counts))]]),(.blk 5 (List.map kF []))]
def oZ (aA : GOffice) (aC : GClock) (aB : (List GTxn)) (aD : Int) : St:=⟨[U,U,(.ptr 2 1 0 0),U,(.ms 3 aB.length 0 aB.length),U,U,U,U,(.sl false (List.map kF aA.Txns)),(iv ((aA.Txns.length : Nat) : Int)),(iv aD),U,U,U,U,U,U,U,U,U,U,U,U,U,U,U,U,U,U,U,U,U,U,U,U,U,U,U,U,U,U,U,U,U,U,U,U,U,U,U,U,U,U,U,U],[(.blk 2 [[(iv aA.ID),(.sl false (List.map kF aA.Txns))]]),(.blk 1 [[(.sl false (List.map kL aC.Counts))]]),(.blk 1 [[(.sl false (List.map kL aC.Counts))]]),(.blk 5 (List.map kF aB))]⟩
theorem tK (aA : GOffice) (aB : GClock) (aC : (List GTxn)) (aD : Int) : kV true 0 4 (oZ aA aB aC aD).heap:=(by exact (clo rfl (clo rfl (clo rfl (clo (mE (lX 4)) rfl)))))
def rY (aB : GOffice) (aC : GClock) (aA : (List GTxn)) : St:=⟨[U,U,U,U,(.ms 3 aA.length 0 aA.length),U,U,U,U,U,U,U,U,U,U,U,U,U,U,U,U,U,U,U,U,U,U,U,U,U,U,U,U,U,U,U,U,U,U,U,U,U,U,U,U,U,U,U,U,U,U,U,U,U,U,U],[(.blk 2 [[(iv aB.ID),(.sl false (List.map kF aB.Txns))]]),(.blk 1 [[(.sl false (List.map kL aC.Counts))]]),(.blk 1 [[(.sl false (List.map kL aC.Counts))]]),(.blk 5 (List.map kF aA))]⟩
abbrev hp64 (a3302 : GOffice) (a3303 : GClock) (l3385 : (List GTxn)) : Heap:=[(.blk 2 [[(iv a3302.ID),(.sl false (List.map kF a3302.Txns))]]),(.blk 1 [[(.sl false (List.map kL a3303.Counts))]]),(.blk 1 [[(.sl false (List.map kL a3303.Counts))]]),(.blk 5 (List.map kF l3385))]
abbrev hp65 (a3302 : GOffice) (a3303 : GClock) (l3385 : (List GTxn)) (x3467 : GTxn) : Heap:=[(.blk 2 [[(iv a3302.ID),(.sl false (List.map kF a3302.Txns))]]),(.blk 1 [[(.sl false (List.map kL a3303.Counts))]]),(.blk 1 [[(.sl false (List.map kL a3303.Counts))]]),(.blk 5 (List.map kF l3385)),(.blk 5 [(kF x3467)])]
abbrev hp66 (a3302 : GOffice) (a3303 : GClock) (l3385 : (List GTxn)) (x3467 : GTxn) : Heap:=[(.blk 2 [[(iv a3302.ID),(.sl false (List.map kF a3302.Txns))]]),(.blk 1 [[(.sl false (List.map kL a3303.Counts))]]),(.blk 1 [[(.sl false (List.map kL a3303.Counts))]]),(.blk 5 (List.map kF l3385)),(.blk 5 [(kF x3467)]),(.blk 10 (List.map kD []))]
def aGv (aC : (List GTxn)) (aA : GOffice) (aE : Int) (aD : GClock) (aB : GTxn) : St:=⟨[U,U,(.ptr 2 1 0 0),U,(.ms 3 aC.length 0 aC.length),U,(.ptr 4 1 0 0),U,U,(.sl false (List.map kF aA.Txns)),(iv ((aA.Txns.length : Nat) : Int)),(iv aE),U,U,U,U,U,U,U,U,U,U,U,U,U,U,(.lit nilS),(iv 0),(iv 0),U,U,U,U,U,U,U,U,U,U,U,U,U,U,U,U,U,U,U,U,U,U,U,U,U,U,U],[(.blk 2 [[(iv aA.ID),(.sl false (List.map kF aA.Txns))]]),(.blk 1 [[(.sl false (List.map kL aD.Counts))]]),(.blk 1 [[(.sl false (List.map kL aD.Counts))]]),(.blk 5 (List.map kF aC)),(.blk 5 [[(iv aB.Office),(iv aB.Seq),(iv aB.Time),(sv aB.Source),(.lit nilS)]]),(.blk 10 (List.map kD []))]⟩
def rX (aC : (List GTxn)) (aA : GOffice) (aE : Int) (aD : GClock) (aB : GTxn) : St:=⟨[U,U,(.ptr 2 1 0 0),U,(.ms 3 aC.length 0 aC.length),U,(.ptr 4 1 0 0),U,U,(.sl false (List.map kF aA.Txns)),(iv ((aA.Txns.length : Nat) : Int)),(iv aE),U,U,U,U,U,U,U,U,U,U,U,U,U,U,U,U,U,U,U,U,U,U,U,U,U,U,U,U,U,U,U,U,U,U,U,U,U,U,U,U,U,U,U,U],[(.blk 2 [[(iv aA.ID),(.sl false (List.map kF aA.Txns))]]),(.blk 1 [[(.sl false (List.map kL aD.Counts))]]),(.blk 1 [[(.sl false (List.map kL aD.Counts))]]),(.blk 5 (List.map kF aC)),(.blk 5 [[(iv aB.Office),(iv aB.Seq),(iv aB.Time),(sv aB.Source),(.lit nilS)]]),(.blk 10 (List.map kD []))]⟩
def uF (n : Nat) (aA : (List GTxn)) (aB : GOffice) (aC : Int) (aD : GClock) (aE : GTxn) : Nat→Option Unit
 | 0=>none
 | m + 1=>(some ())
theorem aFe (n : Nat) (aA : (List GTxn)) (aB : GOffice) (aC : Int) (aD : GClock) (aE : GTxn) : ∀ (m : Nat) (r : Unit),uF n aA aB aC aD aE m=some r→lT lv24 lv1 true 0 6 (kW (kY (some lv23) true 0 6) (evC PP (evF PP T n) n 0 aR3) m (aGv aA aB aC aD aE))=some ((.exit 2),rX aA aB aC aD aE)
 | 0,_,h=>by cases h
 | m + 1,r,h=>by
  rw [uF] at h
  obtain rfl:=si h
  exact kX (some lv23) true (rX aA aB aC aD aE) q0 [] [] (by exact (clo rfl (clo rfl (clo rfl (clo (mE (lX 6)) (clo rfl (clo (mE (mD 6)) rfl)))))))
abbrev hp67 (a3302 : GOffice) (a3303 : GClock) (l3385 : (List GTxn)) (x3467 : GTxn) : Heap:=[(.blk 2 [[(iv a3302.ID),(.sl false (List.map kF a3302.Txns))]]),(.blk 1 [[(.sl false (List.map kL a3303.Counts))]]),(.blk 1 [[(.sl false (List.map kL a3303.Counts))]]),(.blk 5 (List.map kF l3385)),(.blk 5 [[(iv x3467.Office),(iv x3467.Seq),(iv x3467.Time),(sv x3467.Source),(.lit nilS)]]),(.blk 10 (List.map kD []))]
abbrev hp68 (a3302 : GOffice) (a3303 : GClock) (l3385 : (List GTxn)) (x3467 : GTxn) (l3488 : (List GEdit)) : Heap:=[(.blk 2 [[(iv a3302.ID),(.sl false (List.map kF a3302.Txns))]]),(.blk 1 [[(.sl false (List.map kL a3303.Counts))]]),(.blk 1 [[(.sl false (List.map kL a3303.Counts))]]),(.blk 5 (List.map kF l3385)),(.blk 5 [(kF x3467)]),(.blk 10 (List.map kD [])),(.blk 10 (List.map kD l3488))]
def qO (aD : (List GTxn)) (aB : GOffice) (aF : Int) (aG : (List GEdit)) (aE : GClock) (aC : GTxn) (aA : (List GEdit)) (aH : Int) : St:=⟨[U,U,(.ptr 2 1 0 0),U,(.ms 3 aD.length 0 aD.length),U,(.ptr 4 1 0 0),U,U,(.sl false (List.map kF aB.Txns)),(iv ((aB.Txns.length : Nat) : Int)),(iv aF),U,U,U,U,U,U,U,U,U,U,U,U,U,U,(.ms 6 aA.length 0 aA.length),(iv ((aG.length : Nat) : Int)),(iv aH),U,U,U,U,U,U,U,U,U,U,U,U,U,U,U,U,U,U,U,U,U,U,U,U,U,U,U],[(.blk 2 [[(iv aB.ID),(.sl false (List.map kF aB.Txns))]]),(.blk 1 [[(.sl false (List.map kL aE.Counts))]]),(.blk 1 [[(.sl false (List.map kL aE.Counts))]]),(.blk 5 (List.map kF aD)),(.blk 5 [[(iv aC.Office),(iv aC.Seq),(iv aC.Time),(sv aC.Source),(.ms 6 aA.length 0 aA.length)]]),(.blk 10 (List.map kD [])),(.blk 10 (List.map kD aA))]⟩
def pW (aC : (List GTxn)) (aA : GOffice) (aF : Int) (aG : (List GEdit)) (aE : GClock) (aB : GTxn) (aD : (List GEdit)) : St:=⟨[U,U,(.ptr 2 1 0 0),U,(.ms 3 aC.length 0 aC.length),U,(.ptr 4 1 0 0),U,U,(.sl false (List.map kF aA.Txns)),(iv ((aA.Txns.length : Nat) : Int)),(iv aF),U,U,U,U,U,U,U,U,U,U,U,U,U,U,U,U,U,U,U,U,U,U,U,U,U,U,U,U,U,U,U,U,U,U,U,U,U,U,U,U,U,U,U,U],[(.blk 2 [[(iv aA.ID),(.sl false (List.map kF aA.Txns))]]),(.blk 1 [[(.sl false (List.map kL aE.Counts))]]),(.blk 1 [[(.sl false (List.map kL aE.Counts))]]),(.blk 5 (List.map kF aC)),(.blk 5 [[(iv aB.Office),(iv aB.Seq),(iv aB.Time),(sv aB.Source),(.ms 6 aD.length 0 aD.length)]]),(.blk 10 (List.map kD [])),(.blk 10 (List.map kD aD))]⟩
abbrev hp69 (a3302 : GOffice) (a3303 : GClock) (l3385 : (List GTxn)) (x3467 : GTxn) (l3511 : (List GEdit)) : Heap:=[(.blk 2 [[(iv a3302.ID),(.sl false (List.map kF a3302.Txns))]]),(.blk 1 [[(.sl false (List.map kL a3303.Counts))]]),(.blk 1 [[(.sl false (List.map kL a3303.Counts))]]),(.blk 5 (List.map kF l3385)),(.blk 5 [[(iv x3467.Office),(iv x3467.Seq),(iv x3467.Time),(sv x3467.Source),(.ms 6 l3511.length 0 l3511.length)]]),(.blk 10 (List.map kD [])),(.blk 10 (List.map kD l3511))]
abbrev hp70 (a3302 : GOffice) (a3303 : GClock) (l3385 : (List GTxn)) (x3467 : GTxn) (l3511 : (List GEdit)) (x3535 : GEdit) : Heap:=[(.blk 2 [[(iv a3302.ID),(.sl false (List.map kF a3302.Txns))]]),(.blk 1 [[(.sl false (List.map kL a3303.Counts))]]),(.blk 1 [[(.sl false (List.map kL a3303.Counts))]]),(.blk 5 (List.map kF l3385)),(.blk 5 [[(iv x3467.Office),(iv x3467.Seq),(iv x3467.Time),(sv x3467.Source),(.ms 6 l3511.length 0 l3511.length)]]),(.blk 10 (List.map kD [])),(.blk 10 (List.map kD l3511)),(.blk 10 [(kD x3535)])]
def nL (n : Nat) (aG : (List GTxn)) (aH : GOffice) (aI : Int) (aE : (List GEdit)) (aJ : GClock) (aK : GTxn) : Nat→(List GEdit)→Int→Option (List GEdit)
 | 0,_,_=>none
 | m + 1,aD,aC=>(cnd (decide (aC < ((aE.length : Nat) : Int))) (bnd (idxK aD aD.length aC) fun aA=>(bnd (f51 n aA.Via) fun aF=>(bnd (f52 n aA.Parts) fun aL=>(bnd (idxK (List.set aD (Int.toNat aC) (GEdit.mk aA.Kind aA.ID aA.A aA.B aA.C aA.At aF aA.Name aA.Parts)) aD.length aC) fun aB=>(nL n aG aH aI aE aJ aK m (List.set (List.set aD (Int.toNat aC) (GEdit.mk aA.Kind aA.ID aA.A aA.B aA.C aA.At aF aA.Name aA.Parts)) (Int.toNat aC) (GEdit.mk aB.Kind aB.ID aB.A aB.B aB.C aB.At aB.Via aB.Name aL)) (IntKind.i64.wrap (aC + 1))))))) (some aD))
theorem tJ (n : Nat) (aG : (List GTxn)) (aE : GOffice) (aJ : Int) (aK : (List GEdit)) (aF : GClock) (aC : GTxn) : ∀ (m : Nat) (aD : (List GEdit)) (aH : Int) (r : (List GEdit)),nL n aG aE aJ aK aF aC m aD aH=some r→lT lv24 lv1 true 0 7 (kW (kY (some lv23) true 0 7) (evC PP (evF PP T n) n 0 aR3) m (qO aG aE aJ aK aF aC aD aH))=some ((.exit 2),pW aG aE aJ aK aF aC r)
 | 0,_,_,_,h=>by cases h
 | m + 1,aD,aH,r,h=>by
  rw [nL] at h
  rcases cn h with ⟨aP,aN,h⟩ | ⟨aP,aN,h⟩
  rotate_left
  ·obtain rfl:=si h
   exact kX (some lv23) true (pW aG aE aJ aK aF aC aD) (qa 29 aN<|q0) [] [] (by exact (clo rfl (clo rfl (clo rfl (clo (mE (lX 7)) (clo rfl (clo (mE (mD 7)) (clo (mE (mD 7)) rfl))))))))
  obtain ⟨aA,aM,h⟩:=kE h
  have aQ:=uP (H:=(hp69 aE aF aG aC aD)) (id:=6) (s:=10) (c:=kD) aM rfl
  have aR:=aIe (P:=PP) (cf:=evF PP T n) (fl:=0) (H:=(hp69 aE aF aG aC aD)) (id:=6) (c:=kD) (off:=0) (n:=10) (agg:=true) (v:=(.agg [(iv aA.Kind),(iv aA.ID),(iv aA.A),(iv aA.B),(iv aA.C),(iv aA.At.X),(iv aA.At.Y),(.sl false (List.map kI aA.Via)),(sv aA.Name),(.sl false (List.map kL aA.Parts))])) aM rfl (by simp [lP]) rfl
  obtain ⟨aI,aS,h⟩:=kE h
  have aT:=aYo n aA.Via _ aS
  have aU:=uP (H:=(hp70 aE aF aG aC aD aA)) (id:=6) (s:=10) (c:=kD) aM rfl
  have aV:=aT3 (P:=PP) (cf:=evF PP T n) (fl:=0) (H:=(hp70 aE aF aG aC aD aA)) (id:=6) (s:=10) (c:=kD) (x':=(GEdit.mk aA.Kind aA.ID aA.A aA.B aA.C aA.At aI aA.Name aA.Parts)) (off:=7) (n:=1) (v:=(.sl false (List.map kI aI))) (cs:=[(.sl false (List.map kI aI))]) aM rfl (by omega) rfl rfl (by constructor <;> simp [lP]) rfl
  obtain ⟨aL,aW,h⟩:=kE h
  have aX:=aYn n aA.Parts _ aW
  obtain ⟨aB,aO,h⟩:=kE h
  have aY:=aOc (tot:=aD.length) (by simp) (H:=[(.blk 2 [[(iv aE.ID),(.sl false (List.map kF aE.Txns))]]),(.blk 1 [[(.sl false (List.map kL aF.Counts))]]),(.blk 1 [[(.sl false (List.map kL aF.Counts))]]),(.blk 5 (List.map kF aG)),(.blk 5 [[(iv aC.Office),(iv aC.Seq),(iv aC.Time),(sv aC.Source),(.ms 6 aD.length 0 aD.length)]]),(.blk 10 (List.map kD [])),(.blk 10 (List.map kD (List.set aD (Int.toNat aH) (GEdit.mk aA.Kind aA.ID aA.A aA.B aA.C aA.At aI aA.Name aA.Parts)))),(.blk 10 [(kD aA)])]) (id:=6) (s:=10) (c:=kD) aO rfl
  have aZ:=aR5 (tot:=aD.length) (by simp) (P:=PP) (cf:=evF PP T n) (fl:=0) (H:=[(.blk 2 [[(iv aE.ID),(.sl false (List.map kF aE.Txns))]]),(.blk 1 [[(.sl false (List.map kL aF.Counts))]]),(.blk 1 [[(.sl false (List.map kL aF.Counts))]]),(.blk 5 (List.map kF aG)),(.blk 5 [[(iv aC.Office),(iv aC.Seq),(iv aC.Time),(sv aC.Source),(.ms 6 aD.length 0 aD.length)]]),(.blk 10 (List.map kD [])),(.blk 10 (List.map kD (List.set aD (Int.toNat aH) (GEdit.mk aA.Kind aA.ID aA.A aA.B aA.C aA.At aI aA.Name aA.Parts)))),(.blk 10 [(kD aA)])]) (id:=6) (s:=10) (c:=kD) (x':=(GEdit.mk aB.Kind aB.ID aB.A aB.B aB.C aB.At aB.Via aB.Name aL)) (off:=9) (n:=1) (v:=(.sl false (List.map kL aL))) (cs:=[(.sl false (List.map kL aL))]) aO rfl (by omega) rfl rfl (by constructor <;> simp [lP]) rfl
  have aa : qO aG aE aJ aK aF aC (List.set (List.set aD (Int.toNat aH) (GEdit.mk aA.Kind aA.ID aA.A aA.B aA.C aA.At aI aA.Name aA.Parts)) (Int.toNat aH) (GEdit.mk aB.Kind aB.ID aB.A aB.B aB.C aB.At aB.Via aB.Name aL)) (IntKind.i64.wrap (aH + 1))=⟨[U,U,(.ptr 2 1 0 0),U,(.ms 3 aG.length 0 aG.length),U,(.ptr 4 1 0 0),U,U,(.sl false (List.map kF aE.Txns)),(iv ((aE.Txns.length : Nat) : Int)),(iv aJ),U,U,U,U,U,U,U,U,U,U,U,U,U,U,(.ms 6 aD.length 0 aD.length),(iv ((aK.length : Nat) : Int)),(iv (IntKind.i64.wrap (aH + 1))),U,U,U,U,U,U,U,U,U,U,U,U,U,U,U,U,U,U,U,U,U,U,U,U,U,U,U],[(.blk 2 [[(iv aE.ID),(.sl false (List.map kF aE.Txns))]]),(.blk 1 [[(.sl false (List.map kL aF.Counts))]]),(.blk 1 [[(.sl false (List.map kL aF.Counts))]]),(.blk 5 (List.map kF aG)),(.blk 5 [[(iv aC.Office),(iv aC.Seq),(iv aC.Time),(sv aC.Source),(.ms 6 aD.length 0 aD.length)]]),(.blk 10 (List.map kD [])),(.blk 10 (List.map kD (List.set (List.set aD (Int.toNat aH) (GEdit.mk aA.Kind aA.ID aA.A aA.B aA.C aA.At aI aA.Name aA.Parts)) (Int.toNat aH) (GEdit.mk aB.Kind aB.ID aB.A aB.B aB.C aB.At aB.Via aB.Name aL))))]⟩:=by simp [qO]
  exact (congrArg (lT lv24 lv1 true 0 7) (aNj (some lv23) true ⟨[U,U,(.ptr 2 1 0 0),U,(.ms 3 aG.length 0 aG.length),U,(.ptr 4 1 0 0),U,U,(.sl false (List.map kF aE.Txns)),(iv ((aE.Txns.length : Nat) : Int)),(iv aJ),U,U,U,U,U,U,U,U,U,U,U,U,U,U,(.ms 6 aD.length 0 aD.length),(iv ((aK.length : Nat) : Int)),(iv (IntKind.i64.wrap (aH + 1))),U,U,U,U,U,U,U,U,U,U,U,U,U,U,U,U,U,U,U,U,U,U,U,U,U,U,U],[(.blk 2 [[(iv aE.ID),(.sl false (List.map kF aE.Txns))]]),(.blk 1 [[(.sl false (List.map kL aF.Counts))]]),(.blk 1 [[(.sl false (List.map kL aF.Counts))]]),(.blk 5 (List.map kF aG)),(.blk 5 [[(iv aC.Office),(iv aC.Seq),(iv aC.Time),(sv aC.Source),(.ms 6 aD.length 0 aD.length)]]),(.blk 10 (List.map kD [])),(.blk 10 (List.map kD (List.set (List.set aD (Int.toNat aH) (GEdit.mk aA.Kind aA.ID aA.A aA.B aA.C aA.At aI aA.Name aA.Parts)) (Int.toNat aH) (GEdit.mk aB.Kind aB.ID aB.A aB.B aB.C aB.At aB.Via aB.Name aL))))]⟩ (qp aZ<|qa 47 aY<|qa 46 aX<|qp aV<|qa 39 aU<|qa 38 aT<|qb 32 aR<|qa 31 aQ<|qa 29 aN<|q0) [] [none,some [(.blk 2 [[(iv aE.ID),(.sl false (List.map kF aE.Txns))]]),(.blk 1 [[(.sl false (List.map kL aF.Counts))]]),(.blk 1 [[(.sl false (List.map kL aF.Counts))]]),(.blk 5 (List.map kF aG)),(.blk 5 [[(iv aC.Office),(iv aC.Seq),(iv aC.Time),(sv aC.Source),(.ms 6 aD.length 0 aD.length)]]),(.blk 10 (List.map kD [])),(.blk 10 (List.map kD (List.set aD (Int.toNat aH) (GEdit.mk aA.Kind aA.ID aA.A aA.B aA.C aA.At aI aA.Name aA.Parts)))),(.blk 10 [(kD aA)])],some [(.blk 2 [[(iv aE.ID),(.sl false (List.map kF aE.Txns))]]),(.blk 1 [[(.sl false (List.map kL aF.Counts))]]),(.blk 1 [[(.sl false (List.map kL aF.Counts))]]),(.blk 5 (List.map kF aG)),(.blk 5 [[(iv aC.Office),(iv aC.Seq),(iv aC.Time),(sv aC.Source),(.ms 6 aD.length 0 aD.length)]]),(.blk 10 (List.map kD [])),(.blk 10 (List.map kD (List.set (List.set aD (Int.toNat aH) (GEdit.mk aA.Kind aA.ID aA.A aA.B aA.C aA.At aI aA.Name aA.Parts)) (Int.toNat aH) (GEdit.mk aB.Kind aB.ID aB.A aB.B aB.C aB.At aB.Via aB.Name aL)))),(.blk 10 [(kD aA)])]] (by exact (clo rfl (clo rfl (clo rfl (clo (mE (lX 7)) (clo rfl (clo (mE (mD 7)) (clo (mE (mD 7)) rfl)))))))) rfl)).trans ((congrArg (fun s=>lT lv24 lv1 true 0 7 (kW (kY (some lv23) true 0 7) (evC PP (evF PP T n) n 0 aR3) m s)) aa.symm).trans (tJ n aG aE aJ aK aF aC m (List.set (List.set aD (Int.toNat aH) (GEdit.mk aA.Kind aA.ID aA.A aA.B aA.C aA.At aI aA.Name aA.Parts)) (Int.toNat aH) (GEdit.mk aB.Kind aB.ID aB.A aB.B aB.C aB.At aB.Via aB.Name aL)) (IntKind.i64.wrap (aH + 1)) r h))
abbrev hp71 (a3302 : GOffice) (a3303 : GClock) (l3385 : (List GTxn)) (x3467 : GTxn) (v3556 : (List GEdit)) : Heap:=[(.blk 2 [[(iv a3302.ID),(.sl false (List.map kF a3302.Txns))]]),(.blk 1 [[(.sl false (List.map kL a3303.Counts))]]),(.blk 1 [[(.sl false (List.map kL a3303.Counts))]]),(.blk 5 (List.map kF l3385)),(.blk 5 [[(iv x3467.Office),(iv x3467.Seq),(iv x3467.Time),(sv x3467.Source),(.ms 6 v3556.length 0 v3556.length)]]),(.blk 10 (List.map kD [])),(.blk 10 (List.map kD v3556++[List.replicate 10 AV.undef]))]
def nQ (n : Nat) (aB : GOffice) (aD : GClock) : Nat→(List GTxn)→Int→Option (List GTxn)
 | 0,_,_=>none
 | m + 1,aE,aC=>(cnd (decide (aC < ((aB.Txns.length : Nat) : Int))) (bnd (idx aB.Txns aC) fun aA=>(bnd (f35 n aD aA.Office aA.Seq) fun aG=>(cnd (aG) (nQ n aB aD m aE (IntKind.i64.wrap (aC + 1))) (bnd (prd n) fun aK=>(cnd (List.isEmpty aA.Edits) (bnd (uF n aE aB aC aD aA n) fun aL=>(bnd (app aE [(GTxn.mk aA.Office aA.Seq aA.Time aA.Source [])]) fun aH=>(nQ n aB aD m aH (IntKind.i64.wrap (aC + 1))))) (bnd (app ([] : (List GEdit)) aA.Edits) fun aF=>(bnd (nL n aE aB aC aF aD aA n aF 0) fun aI=>(bnd (app aE [(GTxn.mk aA.Office aA.Seq aA.Time aA.Source aI)]) fun aJ=>(nQ n aB aD m aJ (IntKind.i64.wrap (aC + 1))))))))))) (some aE))
theorem pJ (n : Nat) (aC : GOffice) (aB : GClock) : ∀ (m : Nat) (aD : (List GTxn)) (aE : Int) (r : (List GTxn)),nQ n aC aB m aD aE=some r→lT lv1 lv1 true 0 4 (kW (kY (some lv22) true 0 4) (evC PP (evF PP T n) n 0 bBz) m (oZ aC aB aD aE))=some ((.exit 0),rY aC aB r)
 | 0,_,_,_,h=>by cases h
 | m + 1,aD,aE,r,h=>by
  rw [nQ] at h
  rcases cn h with ⟨aQ,aH,h⟩ | ⟨aQ,aH,h⟩
  rotate_left
  ·obtain rfl:=si h
   exact kX (some lv22) true (rY aC aB aD) (qa 12 aH<|q0) [] [] (by exact (clo rfl (clo rfl (clo rfl (clo (mE (lX 4)) rfl)))))
  obtain ⟨aA,aR,h⟩:=kE h
  have aI:=idxl (H:=(hp64 aC aB aD)) (f:=false) (c:=kF) aR (kS _)
  obtain ⟨am,aL,h⟩:=kE h
  rcases cn h with ⟨aJ,aS,h⟩ | ⟨aJ,aS,h⟩
  ·have aT:=by have q:=aS1 n aB aA.Office aA.Seq _ aL; rw [aJ] at q; exact q
   exact nx_q (oZ aC aB aD (IntKind.i64.wrap (aE + 1))) (qa 20 aT<|qa 13 aI<|qa 12 aH<|q0) [] [none] (tK _ _ _ _) (pJ n aC aB m aD (IntKind.i64.wrap (aE + 1)) r h)
  have aM:=by have q:=aS1 n aB aA.Office aA.Seq _ aL; rw [aJ] at q; exact q
  obtain ⟨an,aU,h⟩:=kE h
  have aN:=lD aU
  rcases cn h with ⟨aK,aV,h⟩ | ⟨aK,aV,h⟩
  ·have aW:=aRx (fl:=5) (H:=(hp66 aC aB aD aA)) (s:=10) (bytes:=120) (c:=kD) (x:=(.lit nilS)) aK lP (by omega) (.inl rfl)
   have aX : evF PP T n 5 50 [(.sl false (List.map kD aA.Edits))] (hp65 aC aB aD aA)=some ((.lit nilS),(hp66 aC aB aD aA)):=by
    rw [aN]; exact kT F50 (qb 4 aW<|q0) [] []
   have aY : kV true 0 6 [(.blk 2 [[(iv aC.ID),(.sl false (List.map kF aC.Txns))]]),(.blk 1 [[(.sl false (List.map kL aB.Counts))]]),(.blk 1 [[(.sl false (List.map kL aB.Counts))]]),(.blk 5 (List.map kF aD)),(.blk 5 [[(iv aA.Office),(iv aA.Seq),(iv aA.Time),(sv aA.Source),(.lit nilS)]]),(.blk 10 (List.map kD []))]:=(by exact (clo rfl (clo rfl (clo rfl (clo (mE (lX 6)) (clo rfl (clo (mE (mD 6)) rfl)))))))
   obtain ⟨ao,aZ,h⟩:=kE h
   have aa:=aFe n aD aC aE aB aA n _ aZ
   obtain ⟨aO,ab,h⟩:=kE h
   have ac:=xM (fl:=0) (H:=(hp67 aC aB aD aA)) (id:=3) (s:=5) (bytes:=64) (c:=kF) (l:=aD) ab rfl kS (by omega) (by omega) (by omega)
   exact nx_q (oZ aC aB aO (IntKind.i64.wrap (aE + 1))) (qc 53 ac<|qp aa<|qp aY<|qc 23 aX<|qa 20 aM<|qa 13 aI<|qa 12 aH<|q0) [((.exit 2),rX aD aC aE aB aA)] [none,none] (tK _ _ _ _) (pJ n aC aB m aO (IntKind.i64.wrap (aE + 1)) r h)
  obtain ⟨aF,ad,h⟩:=kE h
  have ae:=aMe (fl:=5) (H:=(hp66 aC aB aD aA)) (s:=10) (bytes:=120) (c:=kD) (x:=(.lit nilS)) ad aK lP (by omega) (by omega) (.inl rfl)
  have af : evF PP T n 5 50 [(.sl false (List.map kD aA.Edits))] (hp65 aC aB aD aA)=some ((.ms 6 aF.length 0 aF.length),(hp68 aC aB aD aA aF)):=by
   rw [aN]; exact kT F50 (qc 4 ae<|q0) [] []
  have ag : kV true 0 7 [(.blk 2 [[(iv aC.ID),(.sl false (List.map kF aC.Txns))]]),(.blk 1 [[(.sl false (List.map kL aB.Counts))]]),(.blk 1 [[(.sl false (List.map kL aB.Counts))]]),(.blk 5 (List.map kF aD)),(.blk 5 [[(iv aA.Office),(iv aA.Seq),(iv aA.Time),(sv aA.Source),(.ms 6 aF.length 0 aF.length)]]),(.blk 10 (List.map kD [])),(.blk 10 (List.map kD aF))]:=(by exact (clo rfl (clo rfl (clo rfl (clo (mE (lX 7)) (clo rfl (clo (mE (mD 7)) (clo (mE (mD 7)) rfl))))))))
  obtain ⟨aG,ah,h⟩:=kE h
  have ai:=tJ n aD aC aE aF aB aA n aF 0 _ ah
  have aj:=aWw (P:=PP) (cf:=evF PP T n) (fl:=0) (H:=(hp69 aC aB aD aA aG)) (b:=4) (id:=6) (s:=10) (n:=5) (k:=4) (c:=kD) (l:=aG) (row:=[(iv aA.Office),(iv aA.Seq),(iv aA.Time),(sv aA.Source),(.ms 6 aG.length 0 aG.length)]) rfl rfl rfl (by omega) aI7
  obtain ⟨aP,ak,h⟩:=kE h
  have al:=xM (fl:=0) (H:=(hp71 aC aB aD aA aG)) (id:=3) (s:=5) (bytes:=64) (c:=kF) (l:=aD) ak rfl kS (by omega) (by omega) (by omega)
  exact nx_q (oZ aC aB aP (IntKind.i64.wrap (aE + 1))) (qc 53 al<|qc 51 aj<|qp ai<|qp ag<|qc 23 af<|qa 20 aM<|qa 13 aI<|qa 12 aH<|q0) [((.exit 2),pW aD aC aE aF aB aA aG)] [none,none] (tK _ _ _ _) (pJ n aC aB m aP (IntKind.i64.wrap (aE + 1)) r h)
def f13 : Nat→GOffice→GClock→Option (List GTxn)
 | 0,_,_=>none
 | n + 1,aB,aC=>(bnd (prd n) fun aA=>(bnd (nQ aA aB aC aA [] 0) fun aD=>(some aD)))
theorem aY0 (n : Nat) (aA : GOffice) (aB : GClock) (r : (List GTxn)) (h : f13 n aA aB=some r) : pv PP T n 13 [(.agg (mZ aA)),(.agg (oS aB))]=some (.sl false (List.map kF r)):=by
 cases n with
 | zero=>cases h
 | succ n =>
  rw [f13] at h
  obtain ⟨aD,aE,h⟩:=kE h
  have aF:=lD aE
  have aG:=kP (P:=PP) (cf:=evF PP T aD) (fl:=0) (H:=(hp63 aA aB)) (f:=false) (c:=kF) (l:=aA.Txns)
  have aH : kV true 0 4 [(.blk 2 [[(iv aA.ID),(.sl false (List.map kF aA.Txns))]]),(.blk 1 [[(.sl false (List.map kL aB.Counts))]]),(.blk 1 [[(.sl false (List.map kL aB.Counts))]]),(.blk 5 (List.map kF []))]:=(by exact (clo rfl (clo rfl (clo rfl (clo (mE (lX 4)) rfl)))))
  obtain ⟨aC,aI,h⟩:=kE h
  have aJ:=pJ aD aA aB aD [] 0 _ aI
  have aK : evF PP T n 0 30 [(.agg [(.sl false (List.map kL aB.Counts))]),(.sl false (List.map kF aA.Txns))] (hp62 aA aB)=some ((.ms 3 aC.length 0 aC.length),(hp64 aA aB aC)):=by
   rw [aF]; exact kT F30 (qp aJ<|qp aH<|qb 10 aG<|q0) [((.exit 0),rY aA aB aC)] []
  obtain rfl:=si h
  refine uO (kT F13 (qc 8 aK<|q0) [] [] (r:=(.ms 3 aC.length 0 aC.length)) (H':=(hp64 aA aB aC))) ?_
  show (mV (hp64 aA aB aC) 0 (.ms 3 aC.length 0 aC.length))=_
  rw [oJ (H:=(hp64 aA aB aC)) (id:=3) (s:=5) (c:=kF) (l:=aC) rfl (pZ _ _ _)]
  first | done | rfl
abbrev hp72 (a3567 : GOffice) : Heap:=[(.blk 2 [[(iv a3567.ID),(.sl false (List.map kF a3567.Txns))]]),(.blk 2 [[(iv 0),(.lit nilS)]]),(.blk 2 [[(iv a3567.ID),(.sl false (List.map kF a3567.Txns))]]),(.blk 5 (List.map kF [])),(.blk 2 [[(iv a3567.ID),(.ms 3 0 0 0)]])]
def tP (aA : GOffice) (aB : (List GTxn)) (aC : Int) : St:=⟨[U,U,(.ptr 4 1 0 0),U,U,U,U,U,U,(.sl false (List.map kF aA.Txns)),(iv ((aA.Txns.length : Nat) : Int)),(iv aC),U,U,U,U,U,U,U,U,U,U,U,U],[(.blk 2 [[(iv aA.ID),(.sl false (List.map kF aA.Txns))]]),(.blk 2 [[(iv 0),(.lit nilS)]]),(.blk 2 [[(iv aA.ID),(.sl false (List.map kF aA.Txns))]]),(.blk 5 (List.map kF aB)),(.blk 2 [[(iv aA.ID),(.ms 3 aB.length 0 aB.length)]])]⟩
theorem aGw (aA : GOffice) (aB : (List GTxn)) (aC : Int) : kV true 2 5 (tP aA aB aC).heap:=(by exact (clo rfl (clo (mE (lX 5)) (clo rfl rfl))))
def sC (aA : GOffice) (aB : (List GTxn)) : St:=⟨[U,U,(.ptr 4 1 0 0),U,U,U,U,U,U,U,U,U,U,U,U,U,U,U,U,U,U,U,U,U],[(.blk 2 [[(iv aA.ID),(.sl false (List.map kF aA.Txns))]]),(.blk 2 [[(iv 0),(.lit nilS)]]),(.blk 2 [[(iv aA.ID),(.sl false (List.map kF aA.Txns))]]),(.blk 5 (List.map kF aB)),(.blk 2 [[(iv aA.ID),(.ms 3 aB.length 0 aB.length)]])]⟩
abbrev hp73 (a3567 : GOffice) (l3589 : (List GTxn)) : Heap:=[(.blk 2 [[(iv a3567.ID),(.sl false (List.map kF a3567.Txns))]]),(.blk 2 [[(iv 0),(.lit nilS)]]),(.blk 2 [[(iv a3567.ID),(.sl false (List.map kF a3567.Txns))]]),(.blk 5 (List.map kF l3589)),(.blk 2 [[(iv a3567.ID),(.ms 3 l3589.length 0 l3589.length)]])]
abbrev hp74 (a3567 : GOffice) (l3589 : (List GTxn)) (x3606 : GTxn) : Heap:=[(.blk 2 [[(iv a3567.ID),(.sl false (List.map kF a3567.Txns))]]),(.blk 2 [[(iv 0),(.lit nilS)]]),(.blk 2 [[(iv a3567.ID),(.sl false (List.map kF a3567.Txns))]]),(.blk 5 (List.map kF l3589)),(.blk 2 [[(iv a3567.ID),(.ms 3 l3589.length 0 l3589.length)]]),(.blk 5 [(kF x3606)])]
def pP (n : Nat) (aA : GOffice) : Nat→(List GTxn)→Int→Option (List GTxn)
 | 0,_,_=>none
 | m + 1,aC,aB=>(cnd (decide (aB < ((aA.Txns.length : Nat) : Int))) (bnd (idx aA.Txns aB) fun aD=>(bnd (f37 n aD) fun aE=>(bnd (app aC [aE]) fun aF=>(pP n aA m aF (IntKind.i64.wrap (aB + 1)))))) (some aC))
theorem xC (n : Nat) (aA : GOffice) : ∀ (m : Nat) (aB : (List GTxn)) (aC : Int) (r : (List GTxn)),pP n aA m aB aC=some r→lT [false,false,true] [false,false,true] true 2 5 (kW (kY (some lv15) true 2 5) (evC PP (evF PP T n) n 2 bB5) m (tP aA aB aC))=some ((.exit 0),sC aA r)
 | 0,_,_,_,h=>by cases h
 | m + 1,aB,aC,r,h=>by
  rw [pP] at h
  rcases cn h with ⟨aG,aD,h⟩ | ⟨aG,aD,h⟩
  rotate_left
  ·obtain rfl:=si h
   exact kX (some lv15) true (sC aA aB) (qa 12 aD<|q0) [] [] (by exact (clo rfl (clo (mE (lX 5)) (clo rfl rfl))))
  obtain ⟨aE,aH,h⟩:=kE h
  have aI:=idxl (H:=(hp73 aA aB)) (f:=false) (c:=kF) aH (kS _)
  obtain ⟨aN,aJ,h⟩:=kE h
  have aK:=aB5 n aE _ aJ
  obtain ⟨aF,aL,h⟩:=kE h
  have aM:=xM (fl:=2) (H:=(hp74 aA aB aE)) (id:=3) (s:=5) (bytes:=64) (c:=kF) (l:=aB) aL rfl kS (by omega) (by omega) (by omega)
  exact nx_q (tP aA aF (IntKind.i64.wrap (aC + 1))) (qc 20 aM<|qa 18 aK<|qa 13 aI<|qa 12 aD<|q0) [] [none,none] (aGw _ _ _) (xC n aA m aF (IntKind.i64.wrap (aC + 1)) r h)
abbrev hp75 (a3567 : GOffice) (v3619 : (List GTxn)) : Heap:=[(.blk 2 [[(iv a3567.ID),(.sl false (List.map kF a3567.Txns))]]),(.blk 2 [[(iv 0),(.lit nilS)]]),(.blk 2 [[(iv a3567.ID),(.sl false (List.map kF a3567.Txns))]]),(.blk 5 (List.map kF v3619)),(.blk 2 [[(iv a3567.ID),(.ms 3 v3619.length 0 v3619.length)]]),(.blk 2 [[(iv a3567.ID),(.ms 3 v3619.length 0 v3619.length)]])]
def pK (aC : (List GTxn)) (aA : GOffice) (aD : (List GTxn)) (aB : (List GTxn)) (aE : Int) : St:=⟨[U,U,U,U,(.ptr 1 1 0 0),U,(.ptr 5 1 0 0),(.fn 28 [(.ptr 5 1 0 0)]),U,U,U,U,U,U,U,U,U,(.sl false (List.map kF aC)),(iv ((aC.length : Nat) : Int)),(iv aE),U,U,U,U,U,U,U,U,U,U,U,U],[(.blk 2 [[(iv aA.ID),(.sl false (List.map kF aA.Txns))]]),(.blk 2 [[(iv 0),(.lit nilS)]]),(.blk 2 [[(iv aA.ID),(.sl false (List.map kF aA.Txns))]]),(.blk 5 (List.map kF aB)),(.blk 2 [[(iv aA.ID),(.ms 3 aD.length 0 aD.length)]]),(.blk 2 [[(iv aA.ID),(.ms 3 aB.length 0 aB.length)]])]⟩
theorem rZ (aA : (List GTxn)) (aB : GOffice) (aC : (List GTxn)) (aD : (List GTxn)) (aE : Int) : kV true 0 6 (pK aA aB aC aD aE).heap:=(by exact (clo rfl (clo rfl (clo rfl (clo (mE (lX 6)) (clo rfl (clo rfl rfl)))))))
def rE (aO : (List GTxn)) (aA : GOffice) (aC : (List GTxn)) (aD : Int) (aE : Int) (aF : Int) (aG : ByteArray) (aH : (List GEdit)) (aI : Int) (aJ : Int) (aK : Int) (aL : ByteArray) (aM : (List GEdit)) (aB : (List GTxn)) (aN : Int) : St:=⟨[U,U,U,U,(.ptr 1 1 0 0),(iv aN),U,U,U,U,U,U,U,U,U,U,U,U,U,U,U,U,U,U,U,U,U,U,U,U,U,U],[(.blk 2 [[(iv aA.ID),(.sl false (List.map kF aA.Txns))]]),(.blk 2 [[(iv 0),(.lit nilS)]]),(.blk 2 [[(iv aA.ID),(.sl false (List.map kF aA.Txns))]]),(.blk 5 (List.map kF aB)),(.blk 2 [[(iv aA.ID),(.ms 3 aC.length 0 aC.length)]]),(.blk 2 [[(iv aA.ID),(.ms 3 aB.length 0 aB.length)]]),(.blk 5 [[(iv aD),(iv aE),(iv aF),(sv aG),(.sl false (List.map kD aH))]]),(.blk 5 [[(iv aI),(iv aJ),(iv aK),(sv aL),(.sl false (List.map kD aM))]])]⟩
def aCn (aD : (List GTxn)) (aA : GOffice) (aC : (List GTxn)) (aB : (List GTxn)) : St:=⟨[U,U,U,U,(.ptr 1 1 0 0),U,(.ptr 5 1 0 0),U,U,U,U,U,U,U,U,U,U,U,U,U,U,U,U,U,U,U,U,U,U,U,U,U],[(.blk 2 [[(iv aA.ID),(.sl false (List.map kF aA.Txns))]]),(.blk 2 [[(iv 0),(.lit nilS)]]),(.blk 2 [[(iv aA.ID),(.sl false (List.map kF aA.Txns))]]),(.blk 5 (List.map kF aB)),(.blk 2 [[(iv aA.ID),(.ms 3 aC.length 0 aC.length)]]),(.blk 2 [[(iv aA.ID),(.ms 3 aB.length 0 aB.length)]])]⟩
abbrev hp76 (a3567 : GOffice) (l3905 : (List GTxn)) (v3619 : (List GTxn)) : Heap:=[(.blk 2 [[(iv a3567.ID),(.sl false (List.map kF a3567.Txns))]]),(.blk 2 [[(iv 0),(.lit nilS)]]),(.blk 2 [[(iv a3567.ID),(.sl false (List.map kF a3567.Txns))]]),(.blk 5 (List.map kF l3905)),(.blk 2 [[(iv a3567.ID),(.ms 3 v3619.length 0 v3619.length)]]),(.blk 2 [[(iv a3567.ID),(.ms 3 l3905.length 0 l3905.length)]])]
abbrev hp77 (a3567 : GOffice) (l3905 : (List GTxn)) (v3619 : (List GTxn)) (x4205 : GTxn) : Heap:=[(.blk 2 [[(iv a3567.ID),(.sl false (List.map kF a3567.Txns))]]),(.blk 2 [[(iv 0),(.lit nilS)]]),(.blk 2 [[(iv a3567.ID),(.sl false (List.map kF a3567.Txns))]]),(.blk 5 (List.map kF l3905)),(.blk 2 [[(iv a3567.ID),(.ms 3 v3619.length 0 v3619.length)]]),(.blk 2 [[(iv a3567.ID),(.ms 3 l3905.length 0 l3905.length)]]),(.blk 5 [(kF x4205)])]
abbrev hp78 (a3567 : GOffice) (l3905 : (List GTxn)) (v3619 : (List GTxn)) (x4205 : GTxn) : Heap:=[(.blk 2 [[(iv a3567.ID),(.sl false (List.map kF a3567.Txns))]]),(.blk 2 [[(iv 0),(.lit nilS)]]),(.blk 2 [[(iv a3567.ID),(.sl false (List.map kF a3567.Txns))]]),(.blk 5 (List.map kF l3905)),(.blk 2 [[(iv a3567.ID),(.ms 3 v3619.length 0 v3619.length)]]),(.blk 2 [[(iv a3567.ID),(.ms 3 l3905.length 0 l3905.length)]]),(.blk 5 [(kF x4205)]),(.blk 5 [(kF x4205)])]
def tN (aA : (List GTxn)) (aB : GOffice) (aC : (List GTxn)) (aD : GTxn) (aE : Int) : St:=⟨[(.ms 3 aA.length 0 aA.length),(.fn 47 [(.ptr 7 1 0 0)]),U,U,U,U,U,(iv ((aA.length : Nat) : Int)),(iv aE),U,U,U,U,U,U,U,U,U,U],[(.blk 2 [[(iv aB.ID),(.sl false (List.map kF aB.Txns))]]),(.blk 2 [[(iv 0),(.lit nilS)]]),(.blk 2 [[(iv aB.ID),(.sl false (List.map kF aB.Txns))]]),(.blk 5 (List.map kF aA)),(.blk 2 [[(iv aB.ID),(.ms 3 aC.length 0 aC.length)]]),(.blk 2 [[(iv aB.ID),(.ms 3 aA.length 0 aA.length)]]),(.blk 5 [(kF aD)]),(.blk 5 [(kF aD)])]⟩
def sB (aB : (List GTxn)) (aA : GOffice) (aC : (List GTxn)) (aD : GTxn) (aE : Int) : St:=⟨[U,U,U,U,(iv aE),U,U,U,U,U,U,U,U,U,U,U,U,U,U],[(.blk 2 [[(iv aA.ID),(.sl false (List.map kF aA.Txns))]]),(.blk 2 [[(iv 0),(.lit nilS)]]),(.blk 2 [[(iv aA.ID),(.sl false (List.map kF aA.Txns))]]),(.blk 5 (List.map kF aB)),(.blk 2 [[(iv aA.ID),(.ms 3 aC.length 0 aC.length)]]),(.blk 2 [[(iv aA.ID),(.ms 3 aB.length 0 aB.length)]]),(.blk 5 [(kF aD)]),(.blk 5 [(kF aD)])]⟩
def sA (aB : (List GTxn)) (aA : GOffice) (aC : (List GTxn)) (aD : GTxn) : St:=⟨[U,U,U,U,U,U,U,U,U,U,U,U,U,U,U,U,U,U,U],[(.blk 2 [[(iv aA.ID),(.sl false (List.map kF aA.Txns))]]),(.blk 2 [[(iv 0),(.lit nilS)]]),(.blk 2 [[(iv aA.ID),(.sl false (List.map kF aA.Txns))]]),(.blk 5 (List.map kF aB)),(.blk 2 [[(iv aA.ID),(.ms 3 aC.length 0 aC.length)]]),(.blk 2 [[(iv aA.ID),(.ms 3 aB.length 0 aB.length)]]),(.blk 5 [(kF aD)]),(.blk 5 [(kF aD)])]⟩
abbrev hp79 (a3567 : GOffice) (l3905 : (List GTxn)) (v3619 : (List GTxn)) (x4205 : GTxn) (x4270 : GTxn) : Heap:=[(.blk 2 [[(iv a3567.ID),(.sl false (List.map kF a3567.Txns))]]),(.blk 2 [[(iv 0),(.lit nilS)]]),(.blk 2 [[(iv a3567.ID),(.sl false (List.map kF a3567.Txns))]]),(.blk 5 (List.map kF l3905)),(.blk 2 [[(iv a3567.ID),(.ms 3 v3619.length 0 v3619.length)]]),(.blk 2 [[(iv a3567.ID),(.ms 3 l3905.length 0 l3905.length)]]),(.blk 5 [(kF x4205)]),(.blk 5 [(kF x4205)]),(.blk 5 [(kF x4270)])]
def nR (n : Nat) (aA : (List GTxn)) (aD : GOffice) (aE : (List GTxn)) (aC : GTxn) : Nat→Int→Option (Int ⊕ Unit)
 | 0,_=>none
 | m + 1,aB=>(cnd (decide (aB < ((aA.length : Nat) : Int))) (bnd (idxK aA aA.length aB) fun aF=>(bnd (prd n) fun aG=>(cnd (aF.Office == aC.Office) (cnd (aF.Seq == aC.Seq) (some (Sum.inl aB)) (nR n aA aD aE aC m (IntKind.i64.wrap (aB + 1)))) (nR n aA aD aE aC m (IntKind.i64.wrap (aB + 1)))))) (some (Sum.inr ())))
theorem pL (n : Nat) (aB : (List GTxn)) (aC : GOffice) (aD : (List GTxn)) (aE : GTxn) : ∀ (m : Nat) (aF : Int) (r : (Int ⊕ Unit)),nR n aB aC aD aE m aF=some r→lT [] lv1 false 0 8 (kW (kY (some lv8) false 0 8) (evC PP (evF PP T n) n 0 bBv) m (tN aB aC aD aE aF))=(match r with | .inl r=>some (.ret,sB aB aC aD aE r) | .inr r=>some ((.exit 0),sA aB aC aD aE))
 | 0,_,_,h=>by cases h
 | m + 1,aF,r,h=>by
  rw [nR] at h
  rcases cn h with ⟨aN,aG,h⟩ | ⟨aN,aG,h⟩
  rotate_left
  ·obtain rfl:=si h
   exact kX (some lv8) false (sA aB aC aD aE) (qa 9 aG<|q0) [] [] trivial
  obtain ⟨aA,aM,h⟩:=kE h
  have aI:=uP (H:=(hp78 aC aB aD aE)) (id:=3) (s:=5) (c:=kF) aM rfl
  have aJ:=aIe (P:=PP) (cf:=evF PP T n) (fl:=0) (H:=(hp78 aC aB aD aE)) (id:=3) (c:=kF) (off:=0) (n:=5) (agg:=true) (v:=(.agg [(iv aA.Office),(iv aA.Seq),(iv aA.Time),(sv aA.Source),(.sl false (List.map kD aA.Edits))])) aM rfl (by simp [kS]) rfl
  obtain ⟨aX,aO,h⟩:=kE h
  have aK:=lD aO
  rcases cn h with ⟨aP,aH,h⟩ | ⟨aP,aH,h⟩
  rotate_left
  ·have aQ : evF PP T n 8 47 [(.agg [(iv aA.Office),(iv aA.Seq),(iv aA.Time),(sv aA.Source),(.sl false (List.map kD aA.Edits))]),(.ptr 7 1 0 0)] (hp78 aC aB aD aE)=some (bf,(hp79 aC aB aD aE aA)):=by
    rw [aK]; exact kT F47 (qa 8 aH<|q0) [] []
   have aR : nH (evF PP T n) 0 true 47 [(.agg [(iv aA.Office),(iv aA.Seq),(iv aA.Time),(sv aA.Source),(.sl false (List.map kD aA.Edits))]),(.ptr 7 1 0 0)] (hp78 aC aB aD aE)=some (bf,(hp78 aC aB aD aE)):=qI rfl rfl aQ rfl
   exact nx_q (tN aB aC aD aE (IntKind.i64.wrap (aF + 1))) (qb 16 aR<|qb 15 aJ<|qa 14 aI<|qa 9 aG<|q0) [] [] trivial (pL n aB aC aD aE m (IntKind.i64.wrap (aF + 1)) r h)
  rcases cn h with ⟨aS,aL,h⟩ | ⟨aS,aL,h⟩
  ·have aT : evF PP T n 8 47 [(.agg [(iv aA.Office),(iv aA.Seq),(iv aA.Time),(sv aA.Source),(.sl false (List.map kD aA.Edits))]),(.ptr 7 1 0 0)] (hp78 aC aB aD aE)=some (bt,(hp79 aC aB aD aE aA)):=by
    rw [aK]; exact kT F47 (qa 14 aL<|qa 8 aH<|q0) [] []
   have aU : nH (evF PP T n) 0 true 47 [(.agg [(iv aA.Office),(iv aA.Seq),(iv aA.Time),(sv aA.Source),(.sl false (List.map kD aA.Edits))]),(.ptr 7 1 0 0)] (hp78 aC aB aD aE)=some (bt,(hp78 aC aB aD aE)):=qI rfl rfl aT rfl
   obtain rfl:=si h
   exact kX (some lv8) false (sB aB aC aD aE aF) (qb 16 aU<|qb 15 aJ<|qa 14 aI<|qa 9 aG<|q0) [] [] trivial
  have aV : evF PP T n 8 47 [(.agg [(iv aA.Office),(iv aA.Seq),(iv aA.Time),(sv aA.Source),(.sl false (List.map kD aA.Edits))]),(.ptr 7 1 0 0)] (hp78 aC aB aD aE)=some (bf,(hp79 aC aB aD aE aA)):=by
   rw [aK]; exact kT F47 (qa 14 aL<|qa 8 aH<|q0) [] []
  have aW : nH (evF PP T n) 0 true 47 [(.agg [(iv aA.Office),(iv aA.Seq),(iv aA.Time),(sv aA.Source),(.sl false (List.map kD aA.Edits))]),(.ptr 7 1 0 0)] (hp78 aC aB aD aE)=some (bf,(hp78 aC aB aD aE)):=qI rfl rfl aV rfl
  exact nx_q (tN aB aC aD aE (IntKind.i64.wrap (aF + 1))) (qb 16 aW<|qb 15 aJ<|qa 14 aI<|qa 9 aG<|q0) [] [] trivial (pL n aB aC aD aE m (IntKind.i64.wrap (aF + 1)) r h)
abbrev hp80 (a3567 : GOffice) (l3905 : (List GTxn)) (v3619 : (List GTxn)) (x4205 : GTxn) : Heap:=[(.blk 2 [[(iv a3567.ID),(.sl false (List.map kF a3567.Txns))]]),(.blk 2 [[(iv 0),(.lit nilS)]]),(.blk 2 [[(iv a3567.ID),(.sl false (List.map kF a3567.Txns))]]),(.blk 5 (List.map kF l3905)),(.blk 2 [[(iv a3567.ID),(.ms 3 v3619.length 0 v3619.length)]]),(.blk 2 [[(iv a3567.ID),(.ms 3 l3905.length 0 l3905.length)]]),(.blk 5 [(kF x4205)]),(.blk 5 [(kF x4205)]),(.blk 5 [(kF x4205)])]
def tO (aA : (List GTxn)) (aB : GOffice) (aD : (List GTxn)) (aC : GTxn) (aE : Int) (aF : Int) : St:=⟨[(.ms 3 aA.length 0 aA.length),U,(.fn 39 []),U,(.ptr 9 1 0 0),U,U,U,(iv ((aA.length : Nat) : Int)),(iv aF),(iv aE),U,U,U,U,U,U,U,U,U,U,U,U,U,U,U,U,U,U,U,U,U,U,U,U,U,U,U,U,U,U,U,U,U,U,U,U,U,U],[(.blk 2 [[(iv aB.ID),(.sl false (List.map kF aB.Txns))]]),(.blk 2 [[(iv 0),(.lit nilS)]]),(.blk 2 [[(iv aB.ID),(.sl false (List.map kF aB.Txns))]]),(.blk 5 (List.map kF aA)),(.blk 2 [[(iv aB.ID),(.ms 3 aD.length 0 aD.length)]]),(.blk 2 [[(iv aB.ID),(.ms 3 aA.length 0 aA.length)]]),(.blk 5 [(kF aC)]),(.blk 5 [(kF aC)]),(.blk 5 [(kF aC)]),(.blk 5 [(kF aC)])]⟩
def mR (aA : (List GTxn)) (aB : GOffice) (aD : (List GTxn)) (aC : GTxn) (aE : Int) : St:=⟨[(.ms 3 aA.length 0 aA.length),U,(.fn 39 []),U,(.ptr 9 1 0 0),U,U,U,(iv ((aA.length : Nat) : Int)),(iv aE),U,U,U,U,U,U,U,U,U,U,U,U,U,U,U,U,U,U,U,U,U,U,U,U,U,U,U,U,U,U,U,U,U,U,U,U,U,U,U],[(.blk 2 [[(iv aB.ID),(.sl false (List.map kF aB.Txns))]]),(.blk 2 [[(iv 0),(.lit nilS)]]),(.blk 2 [[(iv aB.ID),(.sl false (List.map kF aB.Txns))]]),(.blk 5 (List.map kF aA)),(.blk 2 [[(iv aB.ID),(.ms 3 aD.length 0 aD.length)]]),(.blk 2 [[(iv aB.ID),(.ms 3 aA.length 0 aA.length)]]),(.blk 5 [(kF aC)]),(.blk 5 [(kF aC)]),(.blk 5 [(kF aC)]),(.blk 5 [(kF aC)])]⟩
abbrev hp81 (a3567 : GOffice) (l3905 : (List GTxn)) (v3619 : (List GTxn)) (x4205 : GTxn) : Heap:=[(.blk 2 [[(iv a3567.ID),(.sl false (List.map kF a3567.Txns))]]),(.blk 2 [[(iv 0),(.lit nilS)]]),(.blk 2 [[(iv a3567.ID),(.sl false (List.map kF a3567.Txns))]]),(.blk 5 (List.map kF l3905)),(.blk 2 [[(iv a3567.ID),(.ms 3 v3619.length 0 v3619.length)]]),(.blk 2 [[(iv a3567.ID),(.ms 3 l3905.length 0 l3905.length)]]),(.blk 5 [(kF x4205)]),(.blk 5 [(kF x4205)]),(.blk 5 [(kF x4205)]),(.blk 5 [(kF x4205)])]
def oH (n : Nat) (aC : (List GTxn)) (aE : GOffice) (aF : (List GTxn)) (aD : GTxn) : Nat→Int→Int→Option Int
 | 0,_,_=>none
 | m + 1,aB,aA=>(cnd (decide (aA < aB)) (bnd (idxK aC aC.length (IntKind.i64.wrap (Int.fdiv (IntKind.u64.wrap (IntKind.i64.wrap (aA + aB))) 2))) fun aG=>(bnd (f39 n aG aD) fun aH=>(cnd (decide (aH < 0)) (oH n aC aE aF aD m aB (IntKind.i64.wrap ((IntKind.i64.wrap (Int.fdiv (IntKind.u64.wrap (IntKind.i64.wrap (aA + aB))) 2)) + 1))) (oH n aC aE aF aD m (IntKind.i64.wrap (Int.fdiv (IntKind.u64.wrap (IntKind.i64.wrap (aA + aB))) 2)) aA)))) (some aA))
theorem pM (n : Nat) (aB : (List GTxn)) (aC : GOffice) (aD : (List GTxn)) (aA : GTxn) : ∀ (m : Nat) (aF : Int) (aE : Int) (r : Int),oH n aB aC aD aA m aF aE=some r→lT lv17 lv18 false 0 10 (kW (kY (some lv16) false 0 10) (evC PP (evF PP T n) n 0 bBx) m (tO aB aC aD aA aF aE))=some ((.exit 0),mR aB aC aD aA r)
 | 0,_,_,_,h=>by cases h
 | m + 1,aF,aE,r,h=>by
  rw [oH] at h
  rcases cn h with ⟨aO,aH,h⟩ | ⟨aO,aH,h⟩
  rotate_left
  ·obtain rfl:=si h
   exact kX (some lv16) false (mR aB aC aD aA aE) (qa 17 aH<|q0) [] [] trivial
  have aJ:=aT5 (P:=PP) (cf:=evF PP T n) (fl:=0) (H:=(hp81 aC aB aD aA)) (t:=111) (a:=(IntKind.u64.wrap (IntKind.i64.wrap (aE + aF))))
  obtain ⟨aG,aK,h⟩:=kE h
  have aL:=uP (H:=(hp81 aC aB aD aA)) (id:=3) (s:=5) (c:=kF) aK rfl
  have aM:=aIe (P:=PP) (cf:=evF PP T n) (fl:=0) (H:=(hp81 aC aB aD aA)) (id:=3) (c:=kF) (off:=0) (n:=5) (agg:=true) (v:=(.agg [(iv aG.Office),(iv aG.Seq),(iv aG.Time),(sv aG.Source),(.sl false (List.map kD aG.Edits))])) aK rfl (by simp [kS]) rfl
  obtain ⟨aS,aP,h⟩:=kE h
  have aQ:=aGt n aG aA _ aP
  have aN:=xI (fl:=0) (H:=(hp81 aC aB aD aA)) rfl rfl aQ
  rcases cn h with ⟨aR,aI,h⟩ | ⟨aR,aI,h⟩
  rotate_left
  ·exact nx_q (tO aB aC aD aA (IntKind.i64.wrap (Int.fdiv (IntKind.u64.wrap (IntKind.i64.wrap (aE + aF))) 2)) aE) (qa 31 aI<|qb 30 aN<|qb 28 aM<|qa 27 aL<|qb 22 aJ<|qa 17 aH<|q0) [] [] trivial (pM n aB aC aD aA m (IntKind.i64.wrap (Int.fdiv (IntKind.u64.wrap (IntKind.i64.wrap (aE + aF))) 2)) aE r h)
  exact nx_q (tO aB aC aD aA aF (IntKind.i64.wrap ((IntKind.i64.wrap (Int.fdiv (IntKind.u64.wrap (IntKind.i64.wrap (aE + aF))) 2)) + 1))) (qa 31 aI<|qb 30 aN<|qb 28 aM<|qa 27 aL<|qb 22 aJ<|qa 17 aH<|q0) [] [] trivial (pM n aB aC aD aA m aF (IntKind.i64.wrap ((IntKind.i64.wrap (Int.fdiv (IntKind.u64.wrap (IntKind.i64.wrap (aE + aF))) 2)) + 1)) r h)
abbrev hp82 (a3567 : GOffice) (l3905 : (List GTxn)) (v3619 : (List GTxn)) (x4205 : GTxn) (v4386 : GTxn) : Heap:=[(.blk 2 [[(iv a3567.ID),(.sl false (List.map kF a3567.Txns))]]),(.blk 2 [[(iv 0),(.lit nilS)]]),(.blk 2 [[(iv a3567.ID),(.sl false (List.map kF a3567.Txns))]]),(.blk 5 (List.map kF l3905)),(.blk 2 [[(iv a3567.ID),(.ms 3 v3619.length 0 v3619.length)]]),(.blk 2 [[(iv a3567.ID),(.ms 3 l3905.length 0 l3905.length)]]),(.blk 5 [(kF x4205)]),(.blk 5 [(kF x4205)]),(.blk 5 [(kF x4205)]),(.blk 5 [(kF x4205)]),(.blk 5 [(kF v4386)])]
abbrev hp83 (a3567 : GOffice) (l4392 : (List GTxn)) (v3619 : (List GTxn)) (l3905 : (List GTxn)) (x4205 : GTxn) (v4386 : GTxn) : Heap:=[(.blk 2 [[(iv a3567.ID),(.sl false (List.map kF a3567.Txns))]]),(.blk 2 [[(iv 0),(.lit nilS)]]),(.blk 2 [[(iv a3567.ID),(.sl false (List.map kF a3567.Txns))]]),(.blk 5 (List.map kF l4392)),(.blk 2 [[(iv a3567.ID),(.ms 3 v3619.length 0 v3619.length)]]),(.blk 2 [[(iv a3567.ID),(.ms 3 l3905.length 0 l3905.length)]]),(.blk 5 [(kF x4205)]),(.blk 5 [(kF x4205)]),(.blk 5 [(kF x4205)]),(.blk 5 [(kF x4205)]),(.blk 5 [(kF v4386)])]
def pD (n : Nat) (aE : (List GTxn)) (aC : GOffice) (aD : (List GTxn)) : Nat→(List GTxn)→Int→Option ((Int × Int × Int × ByteArray × (List GEdit) × Int × Int × Int × ByteArray × (List GEdit) × (List GTxn) × Int) ⊕ (List GTxn))
 | 0,_,_=>none
 | m + 1,aB,aF=>(cnd (decide (aF < ((aE.length : Nat) : Int))) (bnd (idx aE aF) fun aA=>(bnd (prd n) fun aI=>(bnd (f22 aI aA) fun aN=>(cnd (aN != 0) (some (Sum.inl (aA.Office,aA.Seq,aA.Time,aA.Source,aA.Edits,aA.Office,aA.Seq,aA.Time,aA.Source,aA.Edits,aB,aN))) (bnd (prd aI) fun aO=>(bnd2 (nR aO aB aC aD aA aO 0) (fun aP=>(cnd (decide (aP ≥ 0)) (bnd (idxK aB aB.length aP) fun aQ=>(bnd (f49 aI aQ aA) fun aR=>(cnd (aR) (pD n aE aC aD m aB (IntKind.i64.wrap (aF + 1))) (some (Sum.inl (aA.Office,aA.Seq,aA.Time,aA.Source,aA.Edits,aA.Office,aA.Seq,aA.Time,aA.Source,aA.Edits,aB,16)))))) (cnd (decide (((aB.length : Nat) : Int) ≥ 256)) (some (Sum.inl (aA.Office,aA.Seq,aA.Time,aA.Source,aA.Edits,aA.Office,aA.Seq,aA.Time,aA.Source,aA.Edits,aB,3))) (bnd (prd aI) fun aG=>(bnd (prd aG) fun aL=>(bnd (oH aL aB aC aD aA aL ((aB.length : Nat) : Int) 0) fun aJ=>(cnd (decide (aJ < ((aB.length : Nat) : Int))) (bnd (idxK aB aB.length aJ) fun aS=>(bnd (f39 aL aS aA) fun aT=>(cnd (aT == 0) (bnd (f37 aG aA) fun aU=>(bnd (prd aG) fun ai=>bnd (insO aB aJ aU) fun aV=>(pD n aE aC aD m aV (IntKind.i64.wrap (aF + 1))))) (bnd (f37 aG aA) fun aW=>(bnd (prd aG) fun aj=>bnd (insO aB aJ aW) fun aX=>(pD n aE aC aD m aX (IntKind.i64.wrap (aF + 1)))))))) (bnd (f37 aG aA) fun aY=>(bnd (prd aG) fun ak=>bnd (insO aB aJ aY) fun aZ=>(pD n aE aC aD m aZ (IntKind.i64.wrap (aF + 1)))))))))))) (fun al=>(cnd (decide (((aB.length : Nat) : Int) ≥ 256)) (some (Sum.inl (aA.Office,aA.Seq,aA.Time,aA.Source,aA.Edits,aA.Office,aA.Seq,aA.Time,aA.Source,aA.Edits,aB,3))) (bnd (prd aI) fun aH=>(bnd (prd aH) fun aM=>(bnd (oH aM aB aC aD aA aM ((aB.length : Nat) : Int) 0) fun aK=>(cnd (decide (aK < ((aB.length : Nat) : Int))) (bnd (idxK aB aB.length aK) fun aa=>(bnd (f39 aM aa aA) fun ab=>(cnd (ab == 0) (bnd (f37 aH aA) fun ac=>(bnd (prd aH) fun am=>bnd (insO aB aK ac) fun ad=>(pD n aE aC aD m ad (IntKind.i64.wrap (aF + 1))))) (bnd (f37 aH aA) fun ae=>(bnd (prd aH) fun an=>bnd (insO aB aK ae) fun af=>(pD n aE aC aD m af (IntKind.i64.wrap (aF + 1)))))))) (bnd (f37 aH aA) fun ag=>(bnd (prd aH) fun ao=>bnd (insO aB aK ag) fun ah=>(pD n aE aC aD m ah (IntKind.i64.wrap (aF + 1))))))))))))))))) (some (Sum.inr aB)))
end Go.Proofs.YtkdnaejhpcibnaaGreatDoor.Av
