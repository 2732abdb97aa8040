/- A part of the proofs of laws of the chapter office: an evaluator of the program, proved sound, and what it says. -/
import Derived.Test.YtkdnaejhpcibnaaGreatDoorVoTl1
set_option linter.unusedVariables false
set_option linter.unusedSimpArgs false
namespace Go.Proofs.YtkdnaejhpcibnaaGreatDoor.Av
open Go
theorem oK (n : Nat) (aE : (List GTxn)) (aC : GOffice) (aD : (List GTxn)) : ∀ (m : Nat) (aB : (List GTxn)) (aF : Int) (r : ((Int × Int × Int × ByteArray × (List GEdit) × Int × Int × Int × ByteArray × (List GEdit) × (List GTxn) × Int) ⊕ (List GTxn))),pD n aE aC aD m aB aF=some r→lT lv26 lv27 true 0 6 (kW (kY (some lv25) true 0 6) (evC PP (evF PP T n) n 0 bDj) m (pK aE aC aD aB aF))=(match r with | .inl r=>some (.ret,rE aE aC aD r.1 r.2.1 r.2.2.1 r.2.2.2.1 r.2.2.2.2.1 r.2.2.2.2.2.1 r.2.2.2.2.2.2.1 r.2.2.2.2.2.2.2.1 r.2.2.2.2.2.2.2.2.1 r.2.2.2.2.2.2.2.2.2.1 r.2.2.2.2.2.2.2.2.2.2.1 r.2.2.2.2.2.2.2.2.2.2.2) | .inr r=>some ((.exit 0),aCn aE aC aD r))
 | 0,_,_,_,h=>by cases h
 | m + 1,aB,aF,r,h=>by
  rw [pD] at h
  rcases cn h with ⟨bU,aG,h⟩ | ⟨bU,aG,h⟩
  rotate_left
  ·obtain rfl:=si h
   exact kX (some lv25) true (aCn aE aC aD aB) (qa 20 aG<|q0) [] [] (by exact (clo rfl (clo rfl (clo rfl (clo (mE (lX 6)) (clo rfl (clo rfl rfl)))))))
  obtain ⟨aA,bV,h⟩:=kE h
  have aK:=idxl (H:=(hp76 aC aB aD)) (f:=false) (c:=kF) bV (kS _)
  obtain ⟨aI,bW,h⟩:=kE h
  have aL:=lD bW
  obtain ⟨bE,bX,h⟩:=kE h
  have aM:=aKo aI aA _ bX
  rcases cn h with ⟨bY,aH,h⟩ | ⟨bY,aH,h⟩
  ·have bZ : evF PP T n 0 28 [(.agg [(iv aA.Office),(iv aA.Seq),(iv aA.Time),(sv aA.Source),(.sl false (List.map kD aA.Edits))]),(.ptr 5 1 0 0)] (hp77 aC aB aD aA)=some ((iv bE),(hp78 aC aB aD aA)):=by
    rw [aL]; exact kT F28 (qa 9 aH<|qa 7 aM<|q0) [] []
   obtain rfl:=si h
   exact kX (some lv25) true (rE aE aC aD aA.Office aA.Seq aA.Time aA.Source aA.Edits aA.Office aA.Seq aA.Time aA.Source aA.Edits aB bE) (qa 27 aH<|qc 25 bZ<|qa 21 aK<|qa 20 aG<|q0) [] [none,none] trivial
  obtain ⟨aj,ba,h⟩:=kE h
  have bF:=lD ba
  have bG : kV false 0 8 [(.blk 2 [[(iv aC.ID),(.sl false (List.map kF aC.Txns))]]),(.blk 2 [[(iv 0),(.lit nilS)]]),(.blk 2 [[(iv aC.ID),(.sl false (List.map kF aC.Txns))]]),(.blk 5 (List.map kF aB)),(.blk 2 [[(iv aC.ID),(.ms 3 aD.length 0 aD.length)]]),(.blk 2 [[(iv aC.ID),(.ms 3 aB.length 0 aB.length)]]),(.blk 5 [(kF aA)]),(.blk 5 [(kF aA)])]:=trivial
  rcases kQ h with ⟨bH,ap,h⟩ | ⟨dH,ap,h⟩
  rotate_left
  ·have aq:=pL aj aB aC aD aA aj 0 _ ap
   have ak : evF PP T aI 0 48 [(.ms 3 aB.length 0 aB.length),(.fn 47 [(.ptr 7 1 0 0)])] (hp78 aC aB aD aA)=some ((iv (-1)),(hp78 aC aB aD aA)):=by
    rw [bF]; exact kT F48 (qp aq<|qp bG<|q0) [((.exit 0),sA aB aC aD aA)] []
   rcases cn h with ⟨bb,ab,h⟩ | ⟨bb,ab,h⟩
   ·have bc : evF PP T n 0 28 [(.agg [(iv aA.Office),(iv aA.Seq),(iv aA.Time),(sv aA.Source),(.sl false (List.map kD aA.Edits))]),(.ptr 5 1 0 0)] (hp77 aC aB aD aA)=some ((iv 3),(hp78 aC aB aD aA)):=by
     rw [aL]; exact kT F28 (qa 34 ab<|qb 14 ak<|qa 9 aH<|qa 7 aM<|q0) [] []
    obtain rfl:=si h
    exact kX (some lv25) true (rE aE aC aD aA.Office aA.Seq aA.Time aA.Source aA.Edits aA.Office aA.Seq aA.Time aA.Source aA.Edits aB 3) (qc 25 bc<|qa 21 aK<|qa 20 aG<|q0) [] [none,none] trivial
   obtain ⟨aN,bd,h⟩:=kE h
   have ar:=lD bd
   obtain ⟨al,be,h⟩:=kE h
   have au:=lD be
   have av : kV false 0 10 [(.blk 2 [[(iv aC.ID),(.sl false (List.map kF aC.Txns))]]),(.blk 2 [[(iv 0),(.lit nilS)]]),(.blk 2 [[(iv aC.ID),(.sl false (List.map kF aC.Txns))]]),(.blk 5 (List.map kF aB)),(.blk 2 [[(iv aC.ID),(.ms 3 aD.length 0 aD.length)]]),(.blk 2 [[(iv aC.ID),(.ms 3 aB.length 0 aB.length)]]),(.blk 5 [(kF aA)]),(.blk 5 [(kF aA)]),(.blk 5 [(kF aA)]),(.blk 5 [(kF aA)])]:=trivial
   obtain ⟨aO,bg,h⟩:=kE h
   have aw:=pM al aB aC aD aA al ((aB.length : Nat) : Int) 0 _ bg
   rcases cn h with ⟨bh,am,h⟩ | ⟨bh,am,h⟩
   rotate_left
   ·have bi : evF PP T aN 0 42 [(.ms 3 aB.length 0 aB.length),(.agg [(iv aA.Office),(iv aA.Seq),(iv aA.Time),(sv aA.Source),(.sl false (List.map kD aA.Edits))]),(.fn 39 [])] (hp80 aC aB aD aA)=some ((.tup [(iv aO),bf]),(hp81 aC aB aD aA)):=by
     rw [au]; exact kT F42 (qa 38 am<|qp aw<|qp av<|q0) [((.exit 0),mR aB aC aD aA aO)] []
    obtain ⟨ac,bj,h⟩:=kE h
    have bk:=aB5 aN aA _ bj
    obtain ⟨dI,bl,h⟩:=kE h
    have bm:=lD bl
    obtain ⟨aR,bn,h⟩:=kE h
    have bo : evF PP T aN 0 43 [(.ms 3 aB.length 0 aB.length),(iv aO),(.ms 10 1 0 1)] (hp82 aC aB aD aA ac)=some ((.ms 3 aR.length 0 aR.length),(hp83 aC aR aD aB aA ac)):=(by rw [bm]; exact uD (id:=3) (id2:=10) (l:=aB) (x:=ac) (by omega) (by decide) rfl rfl bn)
    have bp : evF PP T aI 0 24 [(.ptr 5 1 0 0),(.agg [(iv aA.Office),(iv aA.Seq),(iv aA.Time),(sv aA.Source),(.sl false (List.map kD aA.Edits))])] (hp78 aC aB aD aA)=some ((.tup []),(hp82 aC aR aD aA ac)):=by
     rw [ar]; exact kT F24 (qc 24 bo<|qa 22 bk<|qc 12 bi<|q0) [] [none]
    have bq : evF PP T n 0 28 [(.agg [(iv aA.Office),(iv aA.Seq),(iv aA.Time),(sv aA.Source),(.sl false (List.map kD aA.Edits))]),(.ptr 5 1 0 0)] (hp77 aC aB aD aA)=some ((iv 0),(hp82 aC aR aD aA ac)):=by
     rw [aL]; exact kT F28 (qc 36 bp<|qa 34 ab<|qb 14 ak<|qa 9 aH<|qa 7 aM<|q0) [] []
    exact nx_q (pK aE aC aD aR (IntKind.i64.wrap (aF + 1))) (qc 25 bq<|qa 21 aK<|qa 20 aG<|q0) [] [none] (rZ _ _ _ _ _) (oK n aE aC aD m aR (IntKind.i64.wrap (aF + 1)) r h)
   obtain ⟨aY,bI,h⟩:=kE h
   have bJ:=uP (H:=(hp81 aC aB aD aA)) (id:=3) (s:=5) (c:=kF) bI rfl
   have bK:=aIe (P:=PP) (cf:=evF PP T al) (fl:=0) (H:=(hp81 aC aB aD aA)) (id:=3) (c:=kF) (off:=0) (n:=5) (agg:=true) (v:=(.agg [(iv aY.Office),(iv aY.Seq),(iv aY.Time),(sv aY.Source),(.sl false (List.map kD aY.Edits))])) bI rfl (by simp [kS]) rfl
   obtain ⟨dJ,br,h⟩:=kE h
   have bs:=aGt al aY aA _ br
   have bL:=xI (fl:=0) (H:=(hp81 aC aB aD aA)) rfl rfl bs
   rcases cn h with ⟨bu,ax,h⟩ | ⟨bu,ax,h⟩
   ·have bw : evF PP T aN 0 42 [(.ms 3 aB.length 0 aB.length),(.agg [(iv aA.Office),(iv aA.Seq),(iv aA.Time),(sv aA.Source),(.sl false (List.map kD aA.Edits))]),(.fn 39 [])] (hp80 aC aB aD aA)=some ((.tup [(iv aO),bt]),(hp81 aC aB aD aA)):=by
     rw [au]; exact kT F42 (qa 47 ax<|qb 46 bL<|qb 44 bK<|qa 43 bJ<|qa 38 am<|qp aw<|qp av<|q0) [((.exit 0),mR aB aC aD aA aO)] []
    obtain ⟨ad,bx,h⟩:=kE h
    have bz:=aB5 aN aA _ bx
    obtain ⟨dK,cA,h⟩:=kE h
    have cB:=lD cA
    obtain ⟨aS,cC,h⟩:=kE h
    have cD : evF PP T aN 0 43 [(.ms 3 aB.length 0 aB.length),(iv aO),(.ms 10 1 0 1)] (hp82 aC aB aD aA ad)=some ((.ms 3 aS.length 0 aS.length),(hp83 aC aS aD aB aA ad)):=(by rw [cB]; exact uD (id:=3) (id2:=10) (l:=aB) (x:=ad) (by omega) (by decide) rfl rfl cC)
    have cE : evF PP T aI 0 24 [(.ptr 5 1 0 0),(.agg [(iv aA.Office),(iv aA.Seq),(iv aA.Time),(sv aA.Source),(.sl false (List.map kD aA.Edits))])] (hp78 aC aB aD aA)=some ((.tup []),(hp82 aC aS aD aA ad)):=by
     rw [ar]; exact kT F24 (qc 24 cD<|qa 22 bz<|qc 12 bw<|q0) [] [none]
    have cF : evF PP T n 0 28 [(.agg [(iv aA.Office),(iv aA.Seq),(iv aA.Time),(sv aA.Source),(.sl false (List.map kD aA.Edits))]),(.ptr 5 1 0 0)] (hp77 aC aB aD aA)=some ((iv 0),(hp82 aC aS aD aA ad)):=by
     rw [aL]; exact kT F28 (qc 36 cE<|qa 34 ab<|qb 14 ak<|qa 9 aH<|qa 7 aM<|q0) [] []
    exact nx_q (pK aE aC aD aS (IntKind.i64.wrap (aF + 1))) (qc 25 cF<|qa 21 aK<|qa 20 aG<|q0) [] [none] (rZ _ _ _ _ _) (oK n aE aC aD m aS (IntKind.i64.wrap (aF + 1)) r h)
   have cG : evF PP T aN 0 42 [(.ms 3 aB.length 0 aB.length),(.agg [(iv aA.Office),(iv aA.Seq),(iv aA.Time),(sv aA.Source),(.sl false (List.map kD aA.Edits))]),(.fn 39 [])] (hp80 aC aB aD aA)=some ((.tup [(iv aO),bf]),(hp81 aC aB aD aA)):=by
    rw [au]; exact kT F42 (qa 47 ax<|qb 46 bL<|qb 44 bK<|qa 43 bJ<|qa 38 am<|qp aw<|qp av<|q0) [((.exit 0),mR aB aC aD aA aO)] []
   obtain ⟨ae,cH,h⟩:=kE h
   have cI:=aB5 aN aA _ cH
   obtain ⟨dL,cJ,h⟩:=kE h
   have cK:=lD cJ
   obtain ⟨aT,cL,h⟩:=kE h
   have cM : evF PP T aN 0 43 [(.ms 3 aB.length 0 aB.length),(iv aO),(.ms 10 1 0 1)] (hp82 aC aB aD aA ae)=some ((.ms 3 aT.length 0 aT.length),(hp83 aC aT aD aB aA ae)):=(by rw [cK]; exact uD (id:=3) (id2:=10) (l:=aB) (x:=ae) (by omega) (by decide) rfl rfl cL)
   have cN : evF PP T aI 0 24 [(.ptr 5 1 0 0),(.agg [(iv aA.Office),(iv aA.Seq),(iv aA.Time),(sv aA.Source),(.sl false (List.map kD aA.Edits))])] (hp78 aC aB aD aA)=some ((.tup []),(hp82 aC aT aD aA ae)):=by
    rw [ar]; exact kT F24 (qc 24 cM<|qa 22 cI<|qc 12 cG<|q0) [] [none]
   have cO : evF PP T n 0 28 [(.agg [(iv aA.Office),(iv aA.Seq),(iv aA.Time),(sv aA.Source),(.sl false (List.map kD aA.Edits))]),(.ptr 5 1 0 0)] (hp77 aC aB aD aA)=some ((iv 0),(hp82 aC aT aD aA ae)):=by
    rw [aL]; exact kT F28 (qc 36 cN<|qa 34 ab<|qb 14 ak<|qa 9 aH<|qa 7 aM<|q0) [] []
   exact nx_q (pK aE aC aD aT (IntKind.i64.wrap (aF + 1))) (qc 25 cO<|qa 21 aK<|qa 20 aG<|q0) [] [none] (rZ _ _ _ _ _) (oK n aE aC aD m aT (IntKind.i64.wrap (aF + 1)) r h)
  have aq:=pL aj aB aC aD aA aj 0 _ ap
  have aZ : evF PP T aI 0 48 [(.ms 3 aB.length 0 aB.length),(.fn 47 [(.ptr 7 1 0 0)])] (hp78 aC aB aD aA)=some ((iv bH),(hp78 aC aB aD aA)):=by
   rw [bF]; exact kT F48 (qp aq<|qp bG<|q0) [(.ret,sB aB aC aD aA bH)] []
  rcases cn h with ⟨cP,aJ,h⟩ | ⟨cP,aJ,h⟩
  ·obtain ⟨aU,bM,h⟩:=kE h
   have bN:=uP (H:=(hp78 aC aB aD aA)) (id:=3) (s:=5) (c:=kF) bM rfl
   have bO:=aIe (P:=PP) (cf:=evF PP T aI) (fl:=0) (H:=(hp78 aC aB aD aA)) (id:=3) (c:=kF) (off:=0) (n:=5) (agg:=true) (v:=(.agg [(iv aU.Office),(iv aU.Seq),(iv aU.Time),(sv aU.Source),(.sl false (List.map kD aU.Edits))])) bM rfl (by simp [kS]) rfl
   obtain ⟨dM,bP,h⟩:=kE h
   rcases cn h with ⟨ay,cQ,h⟩ | ⟨ay,cQ,h⟩
   ·have cR:=by have q:=aSy aI aU aA _ bP; rw [ay] at q; exact q
    have cS : evF PP T n 0 28 [(.agg [(iv aA.Office),(iv aA.Seq),(iv aA.Time),(sv aA.Source),(.sl false (List.map kD aA.Edits))]),(.ptr 5 1 0 0)] (hp77 aC aB aD aA)=some ((iv 0),(hp78 aC aB aD aA)):=by
     rw [aL]; exact kT F28 (qa 25 cR<|qb 23 bO<|qa 22 bN<|qa 17 aJ<|qb 14 aZ<|qa 9 aH<|qa 7 aM<|q0) [] []
    exact nx_q (pK aE aC aD aB (IntKind.i64.wrap (aF + 1))) (qc 25 cS<|qa 21 aK<|qa 20 aG<|q0) [] [none] (rZ _ _ _ _ _) (oK n aE aC aD m aB (IntKind.i64.wrap (aF + 1)) r h)
   have cT:=by have q:=aSy aI aU aA _ bP; rw [ay] at q; exact q
   have cU : evF PP T n 0 28 [(.agg [(iv aA.Office),(iv aA.Seq),(iv aA.Time),(sv aA.Source),(.sl false (List.map kD aA.Edits))]),(.ptr 5 1 0 0)] (hp77 aC aB aD aA)=some ((iv 16),(hp78 aC aB aD aA)):=by
    rw [aL]; exact kT F28 (qa 29 aJ<|qa 25 cT<|qb 23 bO<|qa 22 bN<|qa 17 aJ<|qb 14 aZ<|qa 9 aH<|qa 7 aM<|q0) [] []
   obtain rfl:=si h
   exact kX (some lv25) true (rE aE aC aD aA.Office aA.Seq aA.Time aA.Source aA.Edits aA.Office aA.Seq aA.Time aA.Source aA.Edits aB 16) (qc 25 cU<|qa 21 aK<|qa 20 aG<|q0) [] [none,none] trivial
  rcases cn h with ⟨cV,af,h⟩ | ⟨cV,af,h⟩
  ·have cW : evF PP T n 0 28 [(.agg [(iv aA.Office),(iv aA.Seq),(iv aA.Time),(sv aA.Source),(.sl false (List.map kD aA.Edits))]),(.ptr 5 1 0 0)] (hp77 aC aB aD aA)=some ((iv 3),(hp78 aC aB aD aA)):=by
    rw [aL]; exact kT F28 (qa 34 af<|qa 29 aJ<|qa 17 aJ<|qb 14 aZ<|qa 9 aH<|qa 7 aM<|q0) [] []
   obtain rfl:=si h
   exact kX (some lv25) true (rE aE aC aD aA.Office aA.Seq aA.Time aA.Source aA.Edits aA.Office aA.Seq aA.Time aA.Source aA.Edits aB 3) (qc 25 cW<|qa 21 aK<|qa 20 aG<|q0) [] [none,none] trivial
  obtain ⟨aP,cX,h⟩:=kE h
  have az:=lD cX
  obtain ⟨an,cY,h⟩:=kE h
  have bA:=lD cY
  have bB : kV false 0 10 [(.blk 2 [[(iv aC.ID),(.sl false (List.map kF aC.Txns))]]),(.blk 2 [[(iv 0),(.lit nilS)]]),(.blk 2 [[(iv aC.ID),(.sl false (List.map kF aC.Txns))]]),(.blk 5 (List.map kF aB)),(.blk 2 [[(iv aC.ID),(.ms 3 aD.length 0 aD.length)]]),(.blk 2 [[(iv aC.ID),(.ms 3 aB.length 0 aB.length)]]),(.blk 5 [(kF aA)]),(.blk 5 [(kF aA)]),(.blk 5 [(kF aA)]),(.blk 5 [(kF aA)])]:=trivial
  obtain ⟨aQ,cZ,h⟩:=kE h
  have bC:=pM an aB aC aD aA an ((aB.length : Nat) : Int) 0 _ cZ
  rcases cn h with ⟨ca,ao,h⟩ | ⟨ca,ao,h⟩
  rotate_left
  ·have cb : evF PP T aP 0 42 [(.ms 3 aB.length 0 aB.length),(.agg [(iv aA.Office),(iv aA.Seq),(iv aA.Time),(sv aA.Source),(.sl false (List.map kD aA.Edits))]),(.fn 39 [])] (hp80 aC aB aD aA)=some ((.tup [(iv aQ),bf]),(hp81 aC aB aD aA)):=by
    rw [bA]; exact kT F42 (qa 38 ao<|qp bC<|qp bB<|q0) [((.exit 0),mR aB aC aD aA aQ)] []
   obtain ⟨ag,cc,h⟩:=kE h
   have cd:=aB5 aP aA _ cc
   obtain ⟨dN,ce,h⟩:=kE h
   have cg:=lD ce
   obtain ⟨aV,ch,h⟩:=kE h
   have ci : evF PP T aP 0 43 [(.ms 3 aB.length 0 aB.length),(iv aQ),(.ms 10 1 0 1)] (hp82 aC aB aD aA ag)=some ((.ms 3 aV.length 0 aV.length),(hp83 aC aV aD aB aA ag)):=(by rw [cg]; exact uD (id:=3) (id2:=10) (l:=aB) (x:=ag) (by omega) (by decide) rfl rfl ch)
   have cj : evF PP T aI 0 24 [(.ptr 5 1 0 0),(.agg [(iv aA.Office),(iv aA.Seq),(iv aA.Time),(sv aA.Source),(.sl false (List.map kD aA.Edits))])] (hp78 aC aB aD aA)=some ((.tup []),(hp82 aC aV aD aA ag)):=by
    rw [az]; exact kT F24 (qc 24 ci<|qa 22 cd<|qc 12 cb<|q0) [] [none]
   have ck : evF PP T n 0 28 [(.agg [(iv aA.Office),(iv aA.Seq),(iv aA.Time),(sv aA.Source),(.sl false (List.map kD aA.Edits))]),(.ptr 5 1 0 0)] (hp77 aC aB aD aA)=some ((iv 0),(hp82 aC aV aD aA ag)):=by
    rw [aL]; exact kT F28 (qc 36 cj<|qa 34 af<|qa 29 aJ<|qa 17 aJ<|qb 14 aZ<|qa 9 aH<|qa 7 aM<|q0) [] []
   exact nx_q (pK aE aC aD aV (IntKind.i64.wrap (aF + 1))) (qc 25 ck<|qa 21 aK<|qa 20 aG<|q0) [] [none] (rZ _ _ _ _ _) (oK n aE aC aD m aV (IntKind.i64.wrap (aF + 1)) r h)
  obtain ⟨aa,bQ,h⟩:=kE h
  have bR:=uP (H:=(hp81 aC aB aD aA)) (id:=3) (s:=5) (c:=kF) bQ rfl
  have bS:=aIe (P:=PP) (cf:=evF PP T an) (fl:=0) (H:=(hp81 aC aB aD aA)) (id:=3) (c:=kF) (off:=0) (n:=5) (agg:=true) (v:=(.agg [(iv aa.Office),(iv aa.Seq),(iv aa.Time),(sv aa.Source),(.sl false (List.map kD aa.Edits))])) bQ rfl (by simp [kS]) rfl
  obtain ⟨dO,cl,h⟩:=kE h
  have cm:=aGt an aa aA _ cl
  have bT:=xI (fl:=0) (H:=(hp81 aC aB aD aA)) rfl rfl cm
  rcases cn h with ⟨co,bD,h⟩ | ⟨co,bD,h⟩
  ·have cp : evF PP T aP 0 42 [(.ms 3 aB.length 0 aB.length),(.agg [(iv aA.Office),(iv aA.Seq),(iv aA.Time),(sv aA.Source),(.sl false (List.map kD aA.Edits))]),(.fn 39 [])] (hp80 aC aB aD aA)=some ((.tup [(iv aQ),bt]),(hp81 aC aB aD aA)):=by
    rw [bA]; exact kT F42 (qa 47 bD<|qb 46 bT<|qb 44 bS<|qa 43 bR<|qa 38 ao<|qp bC<|qp bB<|q0) [((.exit 0),mR aB aC aD aA aQ)] []
   obtain ⟨ah,cq,h⟩:=kE h
   have cr:=aB5 aP aA _ cq
   obtain ⟨dP,cs,h⟩:=kE h
   have ct:=lD cs
   obtain ⟨aW,cu,h⟩:=kE h
   have cv : evF PP T aP 0 43 [(.ms 3 aB.length 0 aB.length),(iv aQ),(.ms 10 1 0 1)] (hp82 aC aB aD aA ah)=some ((.ms 3 aW.length 0 aW.length),(hp83 aC aW aD aB aA ah)):=(by rw [ct]; exact uD (id:=3) (id2:=10) (l:=aB) (x:=ah) (by omega) (by decide) rfl rfl cu)
   have cw : evF PP T aI 0 24 [(.ptr 5 1 0 0),(.agg [(iv aA.Office),(iv aA.Seq),(iv aA.Time),(sv aA.Source),(.sl false (List.map kD aA.Edits))])] (hp78 aC aB aD aA)=some ((.tup []),(hp82 aC aW aD aA ah)):=by
    rw [az]; exact kT F24 (qc 24 cv<|qa 22 cr<|qc 12 cp<|q0) [] [none]
   have cx : evF PP T n 0 28 [(.agg [(iv aA.Office),(iv aA.Seq),(iv aA.Time),(sv aA.Source),(.sl false (List.map kD aA.Edits))]),(.ptr 5 1 0 0)] (hp77 aC aB aD aA)=some ((iv 0),(hp82 aC aW aD aA ah)):=by
    rw [aL]; exact kT F28 (qc 36 cw<|qa 34 af<|qa 29 aJ<|qa 17 aJ<|qb 14 aZ<|qa 9 aH<|qa 7 aM<|q0) [] []
   exact nx_q (pK aE aC aD aW (IntKind.i64.wrap (aF + 1))) (qc 25 cx<|qa 21 aK<|qa 20 aG<|q0) [] [none] (rZ _ _ _ _ _) (oK n aE aC aD m aW (IntKind.i64.wrap (aF + 1)) r h)
  have cy : evF PP T aP 0 42 [(.ms 3 aB.length 0 aB.length),(.agg [(iv aA.Office),(iv aA.Seq),(iv aA.Time),(sv aA.Source),(.sl false (List.map kD aA.Edits))]),(.fn 39 [])] (hp80 aC aB aD aA)=some ((.tup [(iv aQ),bf]),(hp81 aC aB aD aA)):=by
   rw [bA]; exact kT F42 (qa 47 bD<|qb 46 bT<|qb 44 bS<|qa 43 bR<|qa 38 ao<|qp bC<|qp bB<|q0) [((.exit 0),mR aB aC aD aA aQ)] []
  obtain ⟨ai,cz,h⟩:=kE h
  have dA:=aB5 aP aA _ cz
  obtain ⟨dQ,dB,h⟩:=kE h
  have dC:=lD dB
  obtain ⟨aX,dD,h⟩:=kE h
  have dE : evF PP T aP 0 43 [(.ms 3 aB.length 0 aB.length),(iv aQ),(.ms 10 1 0 1)] (hp82 aC aB aD aA ai)=some ((.ms 3 aX.length 0 aX.length),(hp83 aC aX aD aB aA ai)):=(by rw [dC]; exact uD (id:=3) (id2:=10) (l:=aB) (x:=ai) (by omega) (by decide) rfl rfl dD)
  have dF : evF PP T aI 0 24 [(.ptr 5 1 0 0),(.agg [(iv aA.Office),(iv aA.Seq),(iv aA.Time),(sv aA.Source),(.sl false (List.map kD aA.Edits))])] (hp78 aC aB aD aA)=some ((.tup []),(hp82 aC aX aD aA ai)):=by
   rw [az]; exact kT F24 (qc 24 dE<|qa 22 dA<|qc 12 cy<|q0) [] [none]
  have dG : evF PP T n 0 28 [(.agg [(iv aA.Office),(iv aA.Seq),(iv aA.Time),(sv aA.Source),(.sl false (List.map kD aA.Edits))]),(.ptr 5 1 0 0)] (hp77 aC aB aD aA)=some ((iv 0),(hp82 aC aX aD aA ai)):=by
   rw [aL]; exact kT F28 (qc 36 dF<|qa 34 af<|qa 29 aJ<|qa 17 aJ<|qb 14 aZ<|qa 9 aH<|qa 7 aM<|q0) [] []
  exact nx_q (pK aE aC aD aX (IntKind.i64.wrap (aF + 1))) (qc 25 dG<|qa 21 aK<|qa 20 aG<|q0) [] [none] (rZ _ _ _ _ _) (oK n aE aC aD m aX (IntKind.i64.wrap (aF + 1)) r h)
abbrev hp84 (a3567 : GOffice) (v4527 : (List GTxn)) (v3619 : (List GTxn)) : Heap:=[(.blk 2 [[(iv a3567.ID),(.sl false (List.map kF a3567.Txns))]]),(.blk 2 [[(iv a3567.ID),(.ms 3 v4527.length 0 v4527.length)]]),(.blk 2 [[(iv a3567.ID),(.sl false (List.map kF a3567.Txns))]]),(.blk 5 (List.map kF v4527)),(.blk 2 [[(iv a3567.ID),(.ms 3 v3619.length 0 v3619.length)]]),(.blk 2 [[(iv a3567.ID),(.ms 3 v4527.length 0 v4527.length)]])]
def f11 : Nat→GOffice→(List GTxn)→Option (GOffice × Int)
 | 0,_,_=>none
 | n + 1,aA,aD=>(bnd (f21 n aA) fun aE=>(cnd (aE) (bnd (prd n) fun aB=>(bnd (pP aB aA aB [] 0) fun aC=>(bnd2 (pD n aD aA aC n aC 0) (fun aF=>(some ((GOffice.mk 0 []),aF.2.2.2.2.2.2.2.2.2.2.2))) (fun aG=>(some ((GOffice.mk aA.ID aG),0)))))) (some ((GOffice.mk 0 []),19))))
theorem aY2 (n : Nat) (aA : GOffice) (aE : (List GTxn)) (r : (GOffice × Int)) (h : f11 n aA aE=some r) : pv PP T n 11 [(.agg (mZ aA)),(.sl false (List.map kF aE))]=some (.tup [(.agg (mZ r.1)),(iv r.2)]):=by
 cases n with
 | zero=>cases h
 | succ n =>
  rw [f11] at h
  obtain ⟨aW,aJ,h⟩:=kE h
  rcases cn h with ⟨aF,aO,h⟩ | ⟨aF,aO,h⟩
  rotate_left
  ·have aP:=by have q:=aS5 n aA _ aJ; rw [aF] at q; exact q
   obtain rfl:=si h
   exact pv_q F11 (qa 11 aP<|q0) [] [none]
  have aK:=by have q:=aS5 n aA _ aJ; rw [aF] at q; exact q
  obtain ⟨aG,aQ,h⟩:=kE h
  have aR:=lD aQ
  have aS:=kP (P:=PP) (cf:=evF PP T aG) (fl:=2) (H:=(hp72 aA)) (f:=false) (c:=kF) (l:=aA.Txns)
  have aT : kV true 2 5 [(.blk 2 [[(iv aA.ID),(.sl false (List.map kF aA.Txns))]]),(.blk 2 [[(iv 0),(.lit nilS)]]),(.blk 2 [[(iv aA.ID),(.sl false (List.map kF aA.Txns))]]),(.blk 5 (List.map kF [])),(.blk 2 [[(iv aA.ID),(.ms 3 0 0 0)]])]:=(by exact (clo rfl (clo (mE (lX 5)) (clo rfl rfl))))
  obtain ⟨aB,aU,h⟩:=kE h
  have aV:=xC aG aA aG [] 0 _ aU
  have aL : evF PP T n 2 23 [(.agg [(iv aA.ID),(.sl false (List.map kF aA.Txns))])] (hp30 aA)=some ((.agg [(iv aA.ID),(.ms 3 aB.length 0 aB.length)]),(hp73 aA aB)):=by
   rw [aR]; exact kT F23 (qp aV<|qp aT<|qb 10 aS<|q0) [((.exit 0),sC aA aB)] [none,none]
  have aM:=kP (P:=PP) (cf:=evF PP T n) (fl:=0) (H:=(hp75 aA aB)) (f:=false) (c:=kF) (l:=aE)
  have aN : kV true 0 6 [(.blk 2 [[(iv aA.ID),(.sl false (List.map kF aA.Txns))]]),(.blk 2 [[(iv 0),(.lit nilS)]]),(.blk 2 [[(iv aA.ID),(.sl false (List.map kF aA.Txns))]]),(.blk 5 (List.map kF aB)),(.blk 2 [[(iv aA.ID),(.ms 3 aB.length 0 aB.length)]]),(.blk 2 [[(iv aA.ID),(.ms 3 aB.length 0 aB.length)]])]:=(by exact (clo rfl (clo rfl (clo rfl (clo (mE (lX 6)) (clo rfl (clo rfl rfl)))))))
  rcases kQ h with ⟨aC,aH,h⟩ | ⟨aD,aH,h⟩
  ·have aI:=oK n aE aA aB n aB 0 _ aH
   obtain rfl:=si h
   exact pv_q F11 (qp aI<|qp aN<|qb 18 aM<|qc 15 aL<|qa 11 aK<|q0) [(.ret,rE aE aA aB aC.1 aC.2.1 aC.2.2.1 aC.2.2.2.1 aC.2.2.2.2.1 aC.2.2.2.2.2.1 aC.2.2.2.2.2.2.1 aC.2.2.2.2.2.2.2.1 aC.2.2.2.2.2.2.2.2.1 aC.2.2.2.2.2.2.2.2.2.1 aC.2.2.2.2.2.2.2.2.2.2.1 aC.2.2.2.2.2.2.2.2.2.2.2)] [none]
  have aI:=oK n aE aA aB n aB 0 _ aH
  obtain rfl:=si h
  refine uO (kT F11 (qp aI<|qp aN<|qb 18 aM<|qc 15 aL<|qa 11 aK<|q0) [((.exit 0),aCn aE aA aB aD)] [none,none] (r:=(.tup [(.agg [(iv aA.ID),(.ms 3 aD.length 0 aD.length)]),(iv 0)])) (H':=(hp84 aA aD aB))) ?_
  show (AV.tup [(AV.agg [(mV (hp84 aA aD aB) 0 (iv aA.ID)),(mV (hp84 aA aD aB) 0 (.ms 3 aD.length 0 aD.length))]),(mV (hp84 aA aD aB) 0 (iv 0))])=_
  rw [oJ (H:=(hp84 aA aD aB)) (id:=3) (s:=5) (c:=kF) (l:=aD) rfl (pZ _ _ _)]
  first | done | rfl
def f93 : Nat→ByteArray→Option Int
 | 0,_=>none
 | n + 1,aA=>(cnd (((aA.size : Nat) : Int) == 1) (bnd (sat aA 0) fun aB=>(some (IntKind.i64.wrap aB))) (cnd (((aA.size : Nat) : Int) == 2) (bnd (sat aA 0) fun aC=>(bnd (sat aA 1) fun aD=>(some (IntKind.i64.wrap ((IntKind.i64.wrap ((Int.tmod (IntKind.i64.wrap aC) 32) * 64)) + (Int.tmod (IntKind.i64.wrap aD) 64)))))) (bnd (sat aA 0) fun aE=>(bnd (sat aA 1) fun aF=>(bnd (sat aA 2) fun aG=>(some (IntKind.i64.wrap ((IntKind.i64.wrap ((IntKind.i64.wrap ((Int.tmod (IntKind.i64.wrap aE) 16) * 4096)) + (IntKind.i64.wrap ((Int.tmod (IntKind.i64.wrap aF) 64) * 64)))) + (Int.tmod (IntKind.i64.wrap aG) 64)))))))))
theorem aXk (n : Nat) (aB : ByteArray) (r : Int) (h : f93 n aB=some r) : pv PP T n 93 [(sv aB)]=some (iv r):=by
 cases n with
 | zero=>cases h
 | succ n =>
  rw [f93] at h
  have aC:=qF (cf:=evF PP T n) (fl:=0) (H:=[]) aB
  rcases cn h with ⟨aE,aA,h⟩ | ⟨aE,aA,h⟩
  ·obtain ⟨ac,aF,h⟩:=kE h
   have aG:=oV (P:=PP) (cf:=evF PP T n) (fl:=0) (H:=[]) (t:=9) (by kernel_rfl) aF
   obtain rfl:=si h
   exact pv_q F93 (qb 8 aG<|qa 6 aA<|qb 4 aC<|q0) [] []
  rcases cn h with ⟨aH,aD,h⟩ | ⟨aH,aD,h⟩
  ·obtain ⟨aI,aJ,h⟩:=kE h
   have aK:=oV (P:=PP) (cf:=evF PP T n) (fl:=0) (H:=[]) (t:=9) (by kernel_rfl) aJ
   have aL:=yO (P:=PP) (cf:=evF PP T n) (fl:=0) (H:=[]) (t:=3) (k:=.i64) (a:=(IntKind.i64.wrap aI)) (d:=32) (by decide)
   obtain ⟨aM,aN,h⟩:=kE h
   have aO:=oV (P:=PP) (cf:=evF PP T n) (fl:=0) (H:=[]) (t:=9) (by kernel_rfl) aN
   have aP:=yO (P:=PP) (cf:=evF PP T n) (fl:=0) (H:=[]) (t:=3) (k:=.i64) (a:=(IntKind.i64.wrap aM)) (d:=64) (by decide)
   obtain rfl:=si h
   exact pv_q F93 (qb 20 aP<|qb 18 aO<|qb 15 aL<|qb 13 aK<|qa 11 aD<|qa 6 aA<|qb 4 aC<|q0) [] []
  obtain ⟨aQ,aR,h⟩:=kE h
  have aS:=oV (P:=PP) (cf:=evF PP T n) (fl:=0) (H:=[]) (t:=9) (by kernel_rfl) aR
  have aT:=yO (P:=PP) (cf:=evF PP T n) (fl:=0) (H:=[]) (t:=3) (k:=.i64) (a:=(IntKind.i64.wrap aQ)) (d:=16) (by decide)
  obtain ⟨aU,aV,h⟩:=kE h
  have aW:=oV (P:=PP) (cf:=evF PP T n) (fl:=0) (H:=[]) (t:=9) (by kernel_rfl) aV
  have aX:=yO (P:=PP) (cf:=evF PP T n) (fl:=0) (H:=[]) (t:=3) (k:=.i64) (a:=(IntKind.i64.wrap aU)) (d:=64) (by decide)
  obtain ⟨aY,aZ,h⟩:=kE h
  have aa:=oV (P:=PP) (cf:=evF PP T n) (fl:=0) (H:=[]) (t:=9) (by kernel_rfl) aZ
  have ab:=yO (P:=PP) (cf:=evF PP T n) (fl:=0) (H:=[]) (t:=3) (k:=.i64) (a:=(IntKind.i64.wrap aY)) (d:=64) (by decide)
  obtain rfl:=si h
  exact pv_q F93 (qb 36 ab<|qb 34 aa<|qb 30 aX<|qb 28 aW<|qb 25 aT<|qb 23 aS<|qa 11 aD<|qa 6 aA<|qb 4 aC<|q0) [] []
def f119 : Nat→Int→Option Bool
 | 0,_=>none
 | n + 1,aA=>(cnd (decide (aA ≥ 48)) (cnd (decide (aA ≤ 57)) (some true) (some false)) (some false))
theorem aO8 (n : Nat) (aC : Int) (r : Bool) (h : f119 n aC=some r) : pv PP T n 119 [(iv aC)]=some (bv r):=by
 cases n with
 | zero=>cases h
 | succ n =>
  rw [f119] at h
  rcases cn h with ⟨aD,aA,h⟩ | ⟨aD,aA,h⟩
  rotate_left
  ·obtain rfl:=si h
   exact pv_q F119 (qa 4 aA<|q0) [] []
  rcases cn h with ⟨aE,aB,h⟩ | ⟨aE,aB,h⟩
  ·obtain rfl:=si h
   exact pv_q F119 (qa 7 aB<|qa 4 aA<|q0) [] []
  obtain rfl:=si h
  exact pv_q F119 (qa 7 aB<|qa 4 aA<|q0) [] []
def f94 : Nat→Int→Option Int
 | 0,_=>none
 | n + 1,aA=>(cnd (aA == 32) (some 0) (cnd (aA == 39) (some 0) (cnd (aA == 40) (some 0) (cnd (aA == 41) (some 0) (cnd (aA == 45) (some 0) (cnd (aA == 46) (some 0) (bnd (f119 n aA) fun aB=>(cnd (aB) (some 0) (cnd (decide (aA ≥ 65)) (cnd (decide (aA ≤ 90)) (some 1) (cnd (decide (aA ≥ 97)) (cnd (decide (aA ≤ 122)) (some 1) (cnd (decide (aA ≥ 192)) (cnd (decide (aA ≤ 591)) (cnd (aA != 215) (cnd (aA != 247) (some 1) (some (-1))) (some (-1))) (cnd (decide (aA ≥ 880)) (cnd (decide (aA ≤ 1023)) (some 2) (cnd (decide (aA ≤ 1279)) (some 3) (cnd (decide (aA ≥ 1488)) (cnd (decide (aA ≤ 1514)) (some 4) (cnd (decide (aA ≥ 19968)) (cnd (decide (aA ≤ 40959)) (some 5) (some (-1))) (some (-1)))) (some (-1))))) (some (-1)))) (some (-1)))) (some (-1)))) (some (-1)))))))))))
theorem aSl (n : Nat) (aA : Int) (r : Int) (h : f94 n aA=some r) : pv PP T n 94 [(iv aA)]=some (iv r):=by
 cases n with
 | zero=>cases h
 | succ n =>
  rw [f94] at h
  rcases cn h with ⟨am,aB,h⟩ | ⟨am,aB,h⟩
  ·obtain rfl:=si h
   exact pv_q F94 (qa 5 aB<|q0) [] []
  rcases cn h with ⟨an,aC,h⟩ | ⟨an,aC,h⟩
  ·obtain rfl:=si h
   exact pv_q F94 (qa 8 aC<|qa 5 aB<|q0) [] []
  rcases cn h with ⟨ao,aD,h⟩ | ⟨ao,aD,h⟩
  ·obtain rfl:=si h
   exact pv_q F94 (qa 12 aD<|qa 8 aC<|qa 5 aB<|q0) [] []
  rcases cn h with ⟨ap,aE,h⟩ | ⟨ap,aE,h⟩
  ·obtain rfl:=si h
   exact pv_q F94 (qa 16 aE<|qa 12 aD<|qa 8 aC<|qa 5 aB<|q0) [] []
  rcases cn h with ⟨aq,aF,h⟩ | ⟨aq,aF,h⟩
  ·obtain rfl:=si h
   exact pv_q F94 (qa 20 aF<|qa 16 aE<|qa 12 aD<|qa 8 aC<|qa 5 aB<|q0) [] []
  rcases cn h with ⟨ar,aG,h⟩ | ⟨ar,aG,h⟩
  ·obtain rfl:=si h
   exact pv_q F94 (qa 24 aG<|qa 20 aF<|qa 16 aE<|qa 12 aD<|qa 8 aC<|qa 5 aB<|q0) [] []
  obtain ⟨cG,ai,h⟩:=kE h
  rcases cn h with ⟨af,au,h⟩ | ⟨af,au,h⟩
  ·have av:=by have q:=aO8 n aA _ ai; rw [af] at q; exact q
   obtain rfl:=si h
   exact pv_q F94 (qa 28 av<|qa 24 aG<|qa 20 aF<|qa 16 aE<|qa 12 aD<|qa 8 aC<|qa 5 aB<|q0) [] []
  have aI:=by have q:=aO8 n aA _ ai; rw [af] at q; exact q
  rcases cn h with ⟨aQ,aH,h⟩ | ⟨aQ,aH,h⟩
  rotate_left
  ·have aw : (decide (aA ≥ 97))=false:=by have q0:=of_decide_eq_false aQ; exact decide_eq_false (by omega)
   have ax:=lV aw
   have ay : (decide (aA ≥ 192))=false:=by have q0:=of_decide_eq_false aQ; exact decide_eq_false (by omega)
   have az:=lV ay
   have bA : (decide (aA ≥ 880))=false:=by have q0:=of_decide_eq_false aQ; exact decide_eq_false (by omega)
   have bB:=lV bA
   have bC : (decide (aA ≥ 1024))=false:=by have q0:=of_decide_eq_false aQ; exact decide_eq_false (by omega)
   have bD:=lV bC
   have bE : (decide (aA ≥ 1488))=false:=by have q0:=of_decide_eq_false aQ; exact decide_eq_false (by omega)
   have bF:=lV bE
   have bG : (decide (aA ≥ 19968))=false:=by have q0:=of_decide_eq_false aQ; exact decide_eq_false (by omega)
   have bH:=lV bG
   obtain rfl:=si h
   exact pv_q F94 (qa 83 bH<|qa 76 bF<|qa 69 bD<|qa 62 bB<|qa 47 az<|qa 39 ax<|qa 32 aH<|qa 28 aI<|qa 24 aG<|qa 20 aF<|qa 16 aE<|qa 12 aD<|qa 8 aC<|qa 5 aB<|q0) [] []
  rcases cn h with ⟨aS,aJ,h⟩ | ⟨aS,aJ,h⟩
  ·obtain rfl:=si h
   exact pv_q F94 (qa 35 aJ<|qa 32 aH<|qa 28 aI<|qa 24 aG<|qa 20 aF<|qa 16 aE<|qa 12 aD<|qa 8 aC<|qa 5 aB<|q0) [] []
  rcases cn h with ⟨aT,aK,h⟩ | ⟨aT,aK,h⟩
  rotate_left
  ·have bI : (decide (aA ≥ 192))=false:=by have q0:=of_decide_eq_false aS; have q1:=of_decide_eq_false aT; exact decide_eq_false (by omega)
   have bJ:=lV bI
   have bK : (decide (aA ≥ 880))=false:=by have q0:=of_decide_eq_false aS; have q1:=of_decide_eq_false aT; exact decide_eq_false (by omega)
   have bL:=lV bK
   have bM : (decide (aA ≥ 1024))=false:=by have q0:=of_decide_eq_false aS; have q1:=of_decide_eq_false aT; exact decide_eq_false (by omega)
   have bN:=lV bM
   have bO : (decide (aA ≥ 1488))=false:=by have q0:=of_decide_eq_false aS; have q1:=of_decide_eq_false aT; exact decide_eq_false (by omega)
   have bP:=lV bO
   have bQ : (decide (aA ≥ 19968))=false:=by have q0:=of_decide_eq_false aS; have q1:=of_decide_eq_false aT; exact decide_eq_false (by omega)
   have bR:=lV bQ
   obtain rfl:=si h
   exact pv_q F94 (qa 83 bR<|qa 76 bP<|qa 69 bN<|qa 62 bL<|qa 47 bJ<|qa 39 aK<|qa 35 aJ<|qa 32 aH<|qa 28 aI<|qa 24 aG<|qa 20 aF<|qa 16 aE<|qa 12 aD<|qa 8 aC<|qa 5 aB<|q0) [] []
  rcases cn h with ⟨aW,aL,h⟩ | ⟨aW,aL,h⟩
  ·obtain rfl:=si h
   exact pv_q F94 (qa 42 aL<|qa 39 aK<|qa 35 aJ<|qa 32 aH<|qa 28 aI<|qa 24 aG<|qa 20 aF<|qa 16 aE<|qa 12 aD<|qa 8 aC<|qa 5 aB<|q0) [] []
  rcases cn h with ⟨aX,aM,h⟩ | ⟨aX,aM,h⟩
  rotate_left
  ·have bS : (decide (aA ≥ 880))=false:=by have q0:=of_decide_eq_false aW; have q1:=of_decide_eq_false aX; exact decide_eq_false (by omega)
   have bT:=lV bS
   have bU : (decide (aA ≥ 1024))=false:=by have q0:=of_decide_eq_false aW; have q1:=of_decide_eq_false aX; exact decide_eq_false (by omega)
   have bV:=lV bU
   have bW : (decide (aA ≥ 1488))=false:=by have q0:=of_decide_eq_false aW; have q1:=of_decide_eq_false aX; exact decide_eq_false (by omega)
   have bX:=lV bW
   have bY : (decide (aA ≥ 19968))=false:=by have q0:=of_decide_eq_false aW; have q1:=of_decide_eq_false aX; exact decide_eq_false (by omega)
   have bZ:=lV bY
   obtain rfl:=si h
   exact pv_q F94 (qa 83 bZ<|qa 76 bX<|qa 69 bV<|qa 62 bT<|qa 47 aM<|qa 42 aL<|qa 39 aK<|qa 35 aJ<|qa 32 aH<|qa 28 aI<|qa 24 aG<|qa 20 aF<|qa 16 aE<|qa 12 aD<|qa 8 aC<|qa 5 aB<|q0) [] []
  rcases cn h with ⟨ab,aN,h⟩ | ⟨ab,aN,h⟩
  ·rcases cn h with ⟨aY,ac,h⟩ | ⟨aY,ac,h⟩
   rotate_left
   ·have ba : (decide (aA ≥ 880))=false:=by have q0:=(show aA=215 by simpa using aY); exact decide_eq_false (by omega)
    have bb:=lV ba
    have bc : (decide (aA ≥ 1024))=false:=by have q0:=(show aA=215 by simpa using aY); exact decide_eq_false (by omega)
    have bd:=lV bc
    have be : (decide (aA ≥ 1488))=false:=by have q0:=(show aA=215 by simpa using aY); exact decide_eq_false (by omega)
    have bg:=lV be
    have bh : (decide (aA ≥ 19968))=false:=by have q0:=(show aA=215 by simpa using aY); exact decide_eq_false (by omega)
    have bi:=lV bh
    obtain rfl:=si h
    exact pv_q F94 (qa 83 bi<|qa 76 bg<|qa 69 bd<|qa 62 bb<|qa 54 ac<|qa 50 aN<|qa 47 aM<|qa 42 aL<|qa 39 aK<|qa 35 aJ<|qa 32 aH<|qa 28 aI<|qa 24 aG<|qa 20 aF<|qa 16 aE<|qa 12 aD<|qa 8 aC<|qa 5 aB<|q0) [] []
   rcases cn h with ⟨aZ,ag,h⟩ | ⟨aZ,ag,h⟩
   ·obtain rfl:=si h
    exact pv_q F94 (qa 58 ag<|qa 54 ac<|qa 50 aN<|qa 47 aM<|qa 42 aL<|qa 39 aK<|qa 35 aJ<|qa 32 aH<|qa 28 aI<|qa 24 aG<|qa 20 aF<|qa 16 aE<|qa 12 aD<|qa 8 aC<|qa 5 aB<|q0) [] []
   have bj : (decide (aA ≥ 880))=false:=by have q0:=(show aA=247 by simpa using aZ); exact decide_eq_false (by omega)
   have bk:=lV bj
   have bl : (decide (aA ≥ 1024))=false:=by have q0:=(show aA=247 by simpa using aZ); exact decide_eq_false (by omega)
   have bm:=lV bl
   have bn : (decide (aA ≥ 1488))=false:=by have q0:=(show aA=247 by simpa using aZ); exact decide_eq_false (by omega)
   have bo:=lV bn
   have bp : (decide (aA ≥ 19968))=false:=by have q0:=(show aA=247 by simpa using aZ); exact decide_eq_false (by omega)
   have bq:=lV bp
   obtain rfl:=si h
   exact pv_q F94 (qa 83 bq<|qa 76 bo<|qa 69 bm<|qa 62 bk<|qa 58 ag<|qa 54 ac<|qa 50 aN<|qa 47 aM<|qa 42 aL<|qa 39 aK<|qa 35 aJ<|qa 32 aH<|qa 28 aI<|qa 24 aG<|qa 20 aF<|qa 16 aE<|qa 12 aD<|qa 8 aC<|qa 5 aB<|q0) [] []
  rcases cn h with ⟨ad,aO,h⟩ | ⟨ad,aO,h⟩
  rotate_left
  ·have br : (decide (aA ≥ 1024))=false:=by have q0:=of_decide_eq_false ab; have q1:=of_decide_eq_false ad; exact decide_eq_false (by omega)
   have bs:=lV br
   have bu : (decide (aA ≥ 1488))=false:=by have q0:=of_decide_eq_false ab; have q1:=of_decide_eq_false ad; exact decide_eq_false (by omega)
   have bw:=lV bu
   have bx : (decide (aA ≥ 19968))=false:=by have q0:=of_decide_eq_false ab; have q1:=of_decide_eq_false ad; exact decide_eq_false (by omega)
   have bz:=lV bx
   obtain rfl:=si h
   exact pv_q F94 (qa 83 bz<|qa 76 bw<|qa 69 bs<|qa 62 aO<|qa 50 aN<|qa 47 aM<|qa 42 aL<|qa 39 aK<|qa 35 aJ<|qa 32 aH<|qa 28 aI<|qa 24 aG<|qa 20 aF<|qa 16 aE<|qa 12 aD<|qa 8 aC<|qa 5 aB<|q0) [] []
  rcases cn h with ⟨aj,aP,h⟩ | ⟨aj,aP,h⟩
  ·obtain rfl:=si h
   exact pv_q F94 (qa 65 aP<|qa 62 aO<|qa 50 aN<|qa 47 aM<|qa 42 aL<|qa 39 aK<|qa 35 aJ<|qa 32 aH<|qa 28 aI<|qa 24 aG<|qa 20 aF<|qa 16 aE<|qa 12 aD<|qa 8 aC<|qa 5 aB<|q0) [] []
  have cA : (decide (aA ≥ 1024))=true:=by have q0:=of_decide_eq_false aj; exact decide_eq_true (by omega)
  have aU:=lV cA
  rcases cn h with ⟨ak,aR,h⟩ | ⟨ak,aR,h⟩
  ·obtain rfl:=si h
   exact pv_q F94 (qa 72 aR<|qa 69 aU<|qa 65 aP<|qa 62 aO<|qa 50 aN<|qa 47 aM<|qa 42 aL<|qa 39 aK<|qa 35 aJ<|qa 32 aH<|qa 28 aI<|qa 24 aG<|qa 20 aF<|qa 16 aE<|qa 12 aD<|qa 8 aC<|qa 5 aB<|q0) [] []
  rcases cn h with ⟨al,aV,h⟩ | ⟨al,aV,h⟩
  rotate_left
  ·have cB : (decide (aA ≥ 19968))=false:=by have q0:=of_decide_eq_false ak; have q1:=of_decide_eq_false al; exact decide_eq_false (by omega)
   have cC:=lV cB
   obtain rfl:=si h
   exact pv_q F94 (qa 83 cC<|qa 76 aV<|qa 72 aR<|qa 69 aU<|qa 65 aP<|qa 62 aO<|qa 50 aN<|qa 47 aM<|qa 42 aL<|qa 39 aK<|qa 35 aJ<|qa 32 aH<|qa 28 aI<|qa 24 aG<|qa 20 aF<|qa 16 aE<|qa 12 aD<|qa 8 aC<|qa 5 aB<|q0) [] []
  rcases cn h with ⟨cD,aa,h⟩ | ⟨cD,aa,h⟩
  ·obtain rfl:=si h
   exact pv_q F94 (qa 79 aa<|qa 76 aV<|qa 72 aR<|qa 69 aU<|qa 65 aP<|qa 62 aO<|qa 50 aN<|qa 47 aM<|qa 42 aL<|qa 39 aK<|qa 35 aJ<|qa 32 aH<|qa 28 aI<|qa 24 aG<|qa 20 aF<|qa 16 aE<|qa 12 aD<|qa 8 aC<|qa 5 aB<|q0) [] []
  rcases cn h with ⟨cE,ae,h⟩ | ⟨cE,ae,h⟩
  rotate_left
  ·obtain rfl:=si h
   exact pv_q F94 (qa 83 ae<|qa 79 aa<|qa 76 aV<|qa 72 aR<|qa 69 aU<|qa 65 aP<|qa 62 aO<|qa 50 aN<|qa 47 aM<|qa 42 aL<|qa 39 aK<|qa 35 aJ<|qa 32 aH<|qa 28 aI<|qa 24 aG<|qa 20 aF<|qa 16 aE<|qa 12 aD<|qa 8 aC<|qa 5 aB<|q0) [] []
  rcases cn h with ⟨cF,ah,h⟩ | ⟨cF,ah,h⟩
  ·obtain rfl:=si h
   exact pv_q F94 (qa 86 ah<|qa 83 ae<|qa 79 aa<|qa 76 aV<|qa 72 aR<|qa 69 aU<|qa 65 aP<|qa 62 aO<|qa 50 aN<|qa 47 aM<|qa 42 aL<|qa 39 aK<|qa 35 aJ<|qa 32 aH<|qa 28 aI<|qa 24 aG<|qa 20 aF<|qa 16 aE<|qa 12 aD<|qa 8 aC<|qa 5 aB<|q0) [] []
  obtain rfl:=si h
  exact pv_q F94 (qa 86 ah<|qa 83 ae<|qa 79 aa<|qa 76 aV<|qa 72 aR<|qa 69 aU<|qa 65 aP<|qa 62 aO<|qa 50 aN<|qa 47 aM<|qa 42 aL<|qa 39 aK<|qa 35 aJ<|qa 32 aH<|qa 28 aI<|qa 24 aG<|qa 20 aF<|qa 16 aE<|qa 12 aD<|qa 8 aC<|qa 5 aB<|q0) [] []
def f95 : Nat→Int→Option ByteArray
 | 0,_=>none
 | n + 1,aA=>(cnd (decide (aA < 128)) (some (uM [(IntKind.u8.wrap aA)])) (cnd (decide (aA < 2048)) (some (uM [(IntKind.u8.wrap (IntKind.i64.wrap (192 + (IntKind.i64.wrap (Int.tdiv aA 64))))),(IntKind.u8.wrap (IntKind.i64.wrap (128 + (Int.tmod aA 64))))])) (some (uM [(IntKind.u8.wrap (IntKind.i64.wrap (224 + (IntKind.i64.wrap (Int.tdiv aA 4096))))),(IntKind.u8.wrap (IntKind.i64.wrap (128 + (Int.tmod (IntKind.i64.wrap (Int.tdiv aA 64)) 64)))),(IntKind.u8.wrap (IntKind.i64.wrap (128 + (Int.tmod aA 64))))]))))
theorem aXi (n : Nat) (aA : Int) (r : ByteArray) (h : f95 n aA=some r) : pv PP T n 95 [(iv aA)]=some (sv r):=by
 cases n with
 | zero=>cases h
 | succ n =>
  rw [f95] at h
  rcases cn h with ⟨aD,aB,h⟩ | ⟨aD,aB,h⟩
  ·obtain rfl:=si h
   exact pv_q F95 (qa 5 aB<|q0) [] []
  rcases cn h with ⟨aE,aC,h⟩ | ⟨aE,aC,h⟩
  ·have aF:=aMx (P:=PP) (cf:=evF PP T n) (fl:=0) (H:=[]) (t:=3) (k:=.i64) (a:=aA) (d:=64) (by decide)
   have aG:=yO (P:=PP) (cf:=evF PP T n) (fl:=0) (H:=[]) (t:=3) (k:=.i64) (a:=aA) (d:=64) (by decide)
   obtain rfl:=si h
   exact pv_q F95 (qb 18 aG<|qb 14 aF<|qa 12 aC<|qa 5 aB<|q0) [] []
  have aH:=aMx (P:=PP) (cf:=evF PP T n) (fl:=0) (H:=[]) (t:=3) (k:=.i64) (a:=aA) (d:=4096) (by decide)
  have aI:=aMx (P:=PP) (cf:=evF PP T n) (fl:=0) (H:=[]) (t:=3) (k:=.i64) (a:=aA) (d:=64) (by decide)
  have aJ:=yO (P:=PP) (cf:=evF PP T n) (fl:=0) (H:=[]) (t:=3) (k:=.i64) (a:=(IntKind.i64.wrap (Int.tdiv aA 64))) (d:=64) (by decide)
  have aK:=yO (P:=PP) (cf:=evF PP T n) (fl:=0) (H:=[]) (t:=3) (k:=.i64) (a:=aA) (d:=64) (by decide)
  obtain rfl:=si h
  exact pv_q F95 (qb 33 aK<|qb 29 aJ<|qb 28 aI<|qb 24 aH<|qa 12 aC<|qa 5 aB<|q0) [] []
def aJ9 (aB : ByteArray) (aA : (List Int)) (aC : Int) : St:=⟨[(sv aB),U,U,U,(.ms 0 aA.length 0 aA.length),(iv aC),U,U,U,U,U,U,U,U,U,U,U,U,U,U,U,U,U,U,U,U,U,U,U,U,U,U,U,U,U,U,U,U,U,U,U,U,U,U,U,U,U,U,U,U,U,U,U,U,U,U,U,U,U,U,U],[(.blk 1 (List.map kL aA))]⟩
def aBm (aB : ByteArray) (aA : (List Int)) : St:=⟨[U,U,(.sl false []),(iv 4),U,U,U,U,U,U,U,U,U,U,U,U,U,U,U,U,U,U,U,U,U,U,U,U,U,U,U,U,U,U,U,U,U,U,U,U,U,U,U,U,U,U,U,U,U,U,U,U,U,U,U,U,U,U,U,U,U],[(.blk 1 (List.map kL aA))]⟩
def aBl (aB : ByteArray) (aA : (List Int)) : St:=⟨[U,U,U,U,(.ms 0 aA.length 0 aA.length),U,U,U,U,U,U,U,U,U,U,U,U,U,U,U,U,U,U,U,U,U,U,U,U,U,U,U,U,U,U,U,U,U,U,U,U,U,U,U,U,U,U,U,U,U,U,U,U,U,U,U,U,U,U,U,U],[(.blk 1 (List.map kL aA))]⟩
def zO (aB : ByteArray) (aC : Int) (aA : (List Int)) (aD : Int) (aE : Int) : St:=⟨[(sv aB),U,U,U,(.ms 0 aA.length 0 aA.length),(iv aC),(iv aD),(iv aE),U,U,U,U,U,U,U,U,U,U,U,U,U,U,U,U,U,U,U,U,U,U,U,U,U,U,U,U,U,U,U,U,U,U,U,U,U,U,U,U,U,U,U,U,U,U,U,U,U,U,U,U,U],[(.blk 1 (List.map kL aA))]⟩
def qZ (aB : ByteArray) (aC : Int) (aA : (List Int)) (aD : Int) : St:=⟨[(sv aB),U,U,U,(.ms 0 aA.length 0 aA.length),(iv aC),(iv aD),U,U,U,U,U,U,U,U,U,U,U,U,U,U,U,U,U,U,U,U,U,U,U,U,U,U,U,U,U,U,U,U,U,U,U,U,U,U,U,U,U,U,U,U,U,U,U,U,U,U,U,U,U,U],[(.blk 1 (List.map kL aA))]⟩
def oM (n : Nat) (aC : ByteArray) (aA : Int) : Nat→(List Int)→Int→Int→Option ((List Int) × Int)
 | 0,_,_,_=>none
 | m + 1,aD,aE,aB=>(cnd (decide (aB ≤ 3)) (cnd (decide ((IntKind.i64.wrap (aA + aB)) ≤ ((aC.size : Nat) : Int))) (cnd (aE == 0) (bnd (cutS aC aA (IntKind.i64.wrap (aA + aB))) fun aG=>(bnd (f93 n aG) fun aF=>(bnd (f94 n aF) fun aH=>(cnd (decide (aH ≥ 0)) (bnd (f95 n aF) fun aI=>(bnd (cutS aC aA (IntKind.i64.wrap (aA + aB))) fun aJ=>(cnd (decide (aI=aJ)) (bnd (app aD [aF]) fun aK=>(oM n aC aA m aK aB (IntKind.i64.wrap (aB + 1)))) (oM n aC aA m aD aE (IntKind.i64.wrap (aB + 1)))))) (oM n aC aA m aD aE (IntKind.i64.wrap (aB + 1))))))) (some (aD,aE))) (some (aD,aE))) (some (aD,aE)))
theorem wJ (n : Nat) (aB : ByteArray) (aC : Int) : ∀ (m : Nat) (aA : (List Int)) (aE : Int) (aD : Int) (r : ((List Int) × Int)),oM n aB aC m aA aE aD=some r→lT lv30 [false,false,true,true] false 0 1 (kW (kY (some lv29) false 0 1) (evC PP (evF PP T n) n 0 bBo) m (zO aB aC aA aE aD))=some ((.exit 2),qZ aB aC r.1 r.2)
 | 0,_,_,_,_,h=>by cases h
 | m + 1,aA,aE,aD,r,h=>by
  rw [oM] at h
  rcases cn h with ⟨aS,aF,h⟩ | ⟨aS,aF,h⟩
  rotate_left
  ·obtain rfl:=si h
   exact kX (some lv29) false (qZ aB aC aA aE) (qa 14 aF<|q0) [] [] trivial
  have aH:=qF (cf:=evF PP T n) (fl:=0) (H:=[(.blk 1 (List.map kL aA))]) aB
  rcases cn h with ⟨aT,aG,h⟩ | ⟨aT,aG,h⟩
  rotate_left
  ·obtain rfl:=si h
   exact kX (some lv29) false (qZ aB aC aA aE) (qa 21 aG<|qb 20 aH<|qa 14 aF<|q0) [] [] trivial
  rcases cn h with ⟨aU,aI,h⟩ | ⟨aU,aI,h⟩
  rotate_left
  ·obtain rfl:=si h
   exact kX (some lv29) false (qZ aB aC aA aE) (qa 25 aI<|qa 21 aG<|qb 20 aH<|qa 14 aF<|q0) [] [] trivial
  obtain ⟨aV,aW,h⟩:=kE h
  have aK:=aJa (P:=PP) (cf:=evF PP T n) (fl:=0) (H:=[(.blk 1 (List.map kL aA))]) (t:=9) aW
  obtain ⟨aO,aX,h⟩:=kE h
  have aL:=aXk n aV _ aX
  obtain ⟨ah,aY,h⟩:=kE h
  have aM:=aSl n aO _ aY
  rcases cn h with ⟨aZ,aJ,h⟩ | ⟨aZ,aJ,h⟩
  rotate_left
  ·exact nx_q (zO aB aC aA aE (IntKind.i64.wrap (aD + 1))) (qa 38 aJ<|qa 37 aM<|qa 35 aL<|qb 34 aK<|qa 25 aI<|qa 21 aG<|qb 20 aH<|qa 14 aF<|q0) [] [] trivial (wJ n aB aC m aA aE (IntKind.i64.wrap (aD + 1)) r h)
  obtain ⟨ai,aa,h⟩:=kE h
  have aP:=aXi n aO _ aa
  obtain ⟨aj,ab,h⟩:=kE h
  have aQ:=aJa (P:=PP) (cf:=evF PP T n) (fl:=0) (H:=[(.blk 1 (List.map kL aA))]) (t:=9) ab
  rcases cn h with ⟨aN,ac,h⟩ | ⟨aN,ac,h⟩
  rotate_left
  ·have ad:=lL (P:=PP) (cf:=evF PP T n) (fl:=0) (H:=[(.blk 1 (List.map kL aA))]) (t:=9) aN
   exact nx_q (zO aB aC aA aE (IntKind.i64.wrap (aD + 1))) (qb 48 ad<|qb 47 aQ<|qa 41 aP<|qa 38 aJ<|qa 37 aM<|qa 35 aL<|qb 34 aK<|qa 25 aI<|qa 21 aG<|qb 20 aH<|qa 14 aF<|q0) [] [] trivial (wJ n aB aC m aA aE (IntKind.i64.wrap (aD + 1)) r h)
  have ae:=lL (P:=PP) (cf:=evF PP T n) (fl:=0) (H:=[(.blk 1 (List.map kL aA))]) (t:=9) aN
  obtain ⟨aR,af,h⟩:=kE h
  have ag:=xM (fl:=0) (H:=[(.blk 1 (List.map kL aA))]) (id:=0) (s:=1) (bytes:=8) (c:=kL) (l:=aA) af rfl lS (by omega) (by omega) (by omega)
  exact nx_q (zO aB aC aR aD (IntKind.i64.wrap (aD + 1))) (qc 54 ag<|qb 48 ae<|qb 47 aQ<|qa 41 aP<|qa 38 aJ<|qa 37 aM<|qa 35 aL<|qb 34 aK<|qa 25 aI<|qa 21 aG<|qb 20 aH<|qa 14 aF<|q0) [] [] trivial (wJ n aB aC m aR aD (IntKind.i64.wrap (aD + 1)) r h)
def aBn (n : Nat) (aB : ByteArray) : Nat→(List Int)→Int→Option ((List Int) ⊕ (List Int))
 | 0,_,_=>none
 | m + 1,aD,aC=>(cnd (decide (aC < ((aB.size : Nat) : Int))) (bnd (oM n aB aC n aD 0 1) fun aA=>(cnd (aA.2 == 0) (some (Sum.inl aA.1)) (aBn n aB m aA.1 (IntKind.i64.wrap (aC + aA.2))))) (some (Sum.inr aD)))
theorem aBk (n : Nat) (aA : ByteArray) : ∀ (m : Nat) (aD : (List Int)) (aC : Int) (r : ((List Int) ⊕ (List Int))),aBn n aA m aD aC=some r→lT lv1 [false,false,true,true] false 0 1 (kW (kY (some lv28) false 0 1) (evC PP (evF PP T n) n 0 bBp) m (aJ9 aA aD aC))=(match r with | .inl r=>some (.ret,aBm aA r) | .inr r=>some ((.exit 0),aBl aA r))
 | 0,_,_,_,h=>by cases h
 | m + 1,aD,aC,r,h=>by
  rw [aBn] at h
  have aF:=qF (cf:=evF PP T n) (fl:=0) (H:=[(.blk 1 (List.map kL aD))]) aA
  rcases cn h with ⟨aJ,aE,h⟩ | ⟨aJ,aE,h⟩
  rotate_left
  ·obtain rfl:=si h
   exact kX (some lv28) false (aBl aA aD) (qa 12 aE<|qb 11 aF<|q0) [] [] trivial
  have aH : kV false 0 1 [(.blk 1 (List.map kL aD))]:=trivial
  obtain ⟨aB,aK,h⟩:=kE h
  have aI:=wJ n aA aC n aD 0 1 _ aK
  rcases cn h with ⟨aL,aG,h⟩ | ⟨aL,aG,h⟩
  ·obtain rfl:=si h
   exact kX (some lv28) false (aBm aA aB.1) (qa 56 aG<|qp aI<|qp aH<|qa 12 aE<|qb 11 aF<|q0) [((.exit 2),qZ aA aC aB.1 aB.2)] [] trivial
  exact nx_q (aJ9 aA aB.1 (IntKind.i64.wrap (aC + aB.2))) (qa 56 aG<|qp aI<|qp aH<|qa 12 aE<|qb 11 aF<|q0) [((.exit 2),qZ aA aC aB.1 aB.2)] [] trivial (aBk n aA m aB.1 (IntKind.i64.wrap (aC + aB.2)) r h)
def f70 : Nat→ByteArray→Option ((List Int) × Int)
 | 0,_=>none
 | n + 1,aA=>(bnd2 (aBn n aA n [] 0) (fun aC=>(some ([],4))) (fun aB=>(some (aB,0))))
theorem aX6 (n : Nat) (aB : ByteArray) (r : ((List Int) × Int)) (h : f70 n aB=some r) : pv PP T n 70 [(sv aB)]=some (.tup [(.sl false (List.map kL r.1)),(iv r.2)]):=by
 cases n with
 | zero=>cases h
 | succ n =>
  rw [f70] at h
  have aE : kV false 0 1 [(.blk 1 (List.map kL []))]:=trivial
  rcases kQ h with ⟨aF,aC,h⟩ | ⟨aA,aC,h⟩
  ·have aD:=aBk n aB n [] 0 _ aC
   obtain rfl:=si h
   exact pv_q F70 (qp aD<|qp aE<|q0) [(.ret,aBm aB aF)] []
  have aD:=aBk n aB n [] 0 _ aC
  obtain rfl:=si h
  refine uO (kT F70 (qp aD<|qp aE<|q0) [((.exit 0),aBl aB aA)] [] (r:=(.tup [(.ms 0 aA.length 0 aA.length),(iv 0)])) (H':=[(.blk 1 (List.map kL aA))])) ?_
  show (AV.tup [(mV [(.blk 1 (List.map kL aA))] 0 (.ms 0 aA.length 0 aA.length)),(mV [(.blk 1 (List.map kL aA))] 0 (iv 0))])=_
  rw [oJ (H:=[(.blk 1 (List.map kL aA))]) (id:=0) (s:=1) (c:=kL) (l:=aA) rfl (uJ _ _ _)]
  first | done | rfl
def aE5 (aA : (List Int)) (aB : Int) : St:=⟨[(.sl false (List.map kL aA)),U,U,(iv aB),U,U,U,U,U,U,U,U,U,U,U,U,U,U,U,U,U,U,U,U,U,U,U,U,U,U,U,U,U,U,U,U],[]⟩
def aBj (aA : (List Int)) : St:=⟨[U,U,bt,U,U,U,U,U,U,U,U,U,U,U,U,U,U,U,U,U,U,U,U,U,U,U,U,U,U,U,U,U,U,U,U,U],[]⟩
def aBi (aA : (List Int)) : St:=⟨[U,U,U,U,U,U,U,U,U,U,U,U,U,U,U,U,U,U,U,U,U,U,U,U,U,U,U,U,U,U,U,U,U,U,U,U],[]⟩
def wI (n : Nat) (aA : (List Int)) : Nat→Int→Option (Unit ⊕ Unit)
 | 0,_=>none
 | m + 1,aB=>(cnd (decide (aB < ((aA.length : Nat) : Int))) (bnd (idx aA aB) fun aC=>(cnd (aC == 32) (bnd (idx aA (IntKind.i64.wrap (aB - 1))) fun aD=>(cnd (aD == 32) (some (Sum.inl ())) (wI n aA m (IntKind.i64.wrap (aB + 1))))) (wI n aA m (IntKind.i64.wrap (aB + 1))))) (some (Sum.inr ())))
theorem wH (n : Nat) (aA : (List Int)) : ∀ (m : Nat) (aB : Int) (r : (Unit ⊕ Unit)),wI n aA m aB=some r→lT [] [false,false,true] false 0 0 (kW (kY (some [true,false,false,true]) false 0 0) (evC PP (evF PP T n) n 0 bBn) m (aE5 aA aB))=(match r with | .inl r=>some (.ret,aBj aA) | .inr r=>some ((.exit 0),aBi aA))
 | 0,_,_,h=>by cases h
 | m + 1,aB,r,h=>by
  rw [wI] at h
  have aD:=kP (P:=PP) (cf:=evF PP T n) (fl:=0) (H:=[]) (f:=false) (c:=kL) (l:=aA)
  rcases cn h with ⟨aI,aC,h⟩ | ⟨aI,aC,h⟩
  rotate_left
  ·obtain rfl:=si h
   exact kX (some [true,false,false,true]) false (aBi aA) (qa 20 aC<|qb 19 aD<|q0) [] [] trivial
  obtain ⟨aN,aJ,h⟩:=kE h
  have aF:=idxl (H:=[]) (f:=false) (c:=kL) aJ (lS _)
  rcases cn h with ⟨aK,aE,h⟩ | ⟨aK,aE,h⟩
  rotate_left
  ·exact nx_q (aE5 aA (IntKind.i64.wrap (aB + 1))) (qa 27 aE<|qa 25 aF<|qa 20 aC<|qb 19 aD<|q0) [] [] trivial (wH n aA m (IntKind.i64.wrap (aB + 1)) r h)
  obtain ⟨aO,aL,h⟩:=kE h
  have aH:=idxl (H:=[]) (f:=false) (c:=kL) aL (lS _)
  rcases cn h with ⟨aM,aG,h⟩ | ⟨aM,aG,h⟩
  ·obtain rfl:=si h
   exact kX (some [true,false,false,true]) false (aBj aA) (qa 34 aG<|qa 32 aH<|qa 27 aE<|qa 25 aF<|qa 20 aC<|qb 19 aD<|q0) [] [] trivial
  exact nx_q (aE5 aA (IntKind.i64.wrap (aB + 1))) (qa 34 aG<|qa 32 aH<|qa 27 aE<|qa 25 aF<|qa 20 aC<|qb 19 aD<|q0) [] [] trivial (wH n aA m (IntKind.i64.wrap (aB + 1)) r h)
def f71 : Nat→(List Int)→Option Bool
 | 0,_=>none
 | n + 1,aA=>(bnd (idx aA 0) fun aB=>(cnd (aB == 32) (some true) (bnd (idx aA (IntKind.i64.wrap (((aA.length : Nat) : Int) - 1))) fun aC=>(cnd (aC == 32) (some true) (bnd2 (wI n aA n 1) (fun aD=>(some true)) (fun aE=>(some false)))))))
theorem aSu (n : Nat) (aA : (List Int)) (r : Bool) (h : f71 n aA=some r) : pv PP T n 71 [(.sl false (List.map kL aA))]=some (bv r):=by
 cases n with
 | zero=>cases h
 | succ n =>
  rw [f71] at h
  obtain ⟨aN,aJ,h⟩:=kE h
  have aC:=idxl (H:=[]) (f:=false) (c:=kL) aJ (lS _)
  rcases cn h with ⟨aK,aB,h⟩ | ⟨aK,aB,h⟩
  ·obtain rfl:=si h
   exact pv_q F71 (qa 7 aB<|qa 5 aC<|q0) [] []
  have aE:=kP (P:=PP) (cf:=evF PP T n) (fl:=0) (H:=[]) (f:=false) (c:=kL) (l:=aA)
  obtain ⟨aO,aL,h⟩:=kE h
  have aF:=idxl (H:=[]) (f:=false) (c:=kL) aL (lS _)
  rcases cn h with ⟨aM,aD,h⟩ | ⟨aM,aD,h⟩
  ·obtain rfl:=si h
   exact pv_q F71 (qa 15 aD<|qa 13 aF<|qb 11 aE<|qa 7 aB<|qa 5 aC<|q0) [] []
  have aI : kV false 0 0 []:=trivial
  rcases kQ h with ⟨aP,aG,h⟩ | ⟨aQ,aG,h⟩
  ·have aH:=wH n aA n 1 _ aG
   obtain rfl:=si h
   exact pv_q F71 (qp aH<|qp aI<|qa 15 aD<|qa 13 aF<|qb 11 aE<|qa 7 aB<|qa 5 aC<|q0) [(.ret,aBj aA)] []
  have aH:=wH n aA n 1 _ aG
  obtain rfl:=si h
  exact pv_q F71 (qp aH<|qp aI<|qa 15 aD<|qa 13 aF<|qb 11 aE<|qa 7 aB<|qa 5 aC<|q0) [((.exit 0),aBi aA)] []
def aJ8 (aA : (List Int)) (aB : Int) : St:=⟨[(.sl false (List.map kL aA)),U,U,(iv aB),U,U,U,U,U,U,U,U,U,U,U,U],[]⟩
def aBh (aA : (List Int)) : St:=⟨[U,U,bf,U,U,U,U,U,U,U,U,U,U,U,U,U],[]⟩
def aBg (aA : (List Int)) : St:=⟨[U,U,U,U,U,U,U,U,U,U,U,U,U,U,U,U],[]⟩
def yT (n : Nat) (aA : (List Int)) : Nat→Int→Option (Unit ⊕ Unit)
 | 0,_=>none
 | m + 1,aB=>(cnd (decide (aB < ((aA.length : Nat) : Int))) (bnd (idx aA aB) fun aC=>(bnd (f94 n aC) fun aD=>(cnd (aD != 0) (some (Sum.inl ())) (yT n aA m (IntKind.i64.wrap (aB + 1)))))) (some (Sum.inr ())))
theorem aBf (n : Nat) (aA : (List Int)) : ∀ (m : Nat) (aB : Int) (r : (Unit ⊕ Unit)),yT n aA m aB=some r→lT [] [false,false,true] false 0 0 (kW (kY (some [true,false,false,true]) false 0 0) (evC PP (evF PP T n) n 0 bBm) m (aJ8 aA aB))=(match r with | .inl r=>some (.ret,aBh aA) | .inr r=>some ((.exit 0),aBg aA))
 | 0,_,_,h=>by cases h
 | m + 1,aB,r,h=>by
  rw [yT] at h
  have aD:=kP (P:=PP) (cf:=evF PP T n) (fl:=0) (H:=[]) (f:=false) (c:=kL) (l:=aA)
  rcases cn h with ⟨aH,aC,h⟩ | ⟨aH,aC,h⟩
  rotate_left
  ·obtain rfl:=si h
   exact kX (some [true,false,false,true]) false (aBg aA) (qa 7 aC<|qb 6 aD<|q0) [] [] trivial
  obtain ⟨aI,aJ,h⟩:=kE h
  have aF:=idxl (H:=[]) (f:=false) (c:=kL) aJ (lS _)
  obtain ⟨aM,aK,h⟩:=kE h
  have aG:=aSl n aI _ aK
  rcases cn h with ⟨aL,aE,h⟩ | ⟨aL,aE,h⟩
  ·obtain rfl:=si h
   exact kX (some [true,false,false,true]) false (aBh aA) (qa 15 aE<|qa 14 aG<|qa 12 aF<|qa 7 aC<|qb 6 aD<|q0) [] [] trivial
  exact nx_q (aJ8 aA (IntKind.i64.wrap (aB + 1))) (qa 15 aE<|qa 14 aG<|qa 12 aF<|qa 7 aC<|qb 6 aD<|q0) [] [] trivial (aBf n aA m (IntKind.i64.wrap (aB + 1)) r h)
def f72 : Nat→(List Int)→Option Bool
 | 0,_=>none
 | n + 1,aA=>(bnd2 (yT n aA n 0) (fun aB=>(some false)) (fun aC=>(some true)))
theorem aSt (n : Nat) (aA : (List Int)) (r : Bool) (h : f72 n aA=some r) : pv PP T n 72 [(.sl false (List.map kL aA))]=some (bv r):=by
 cases n with
 | zero=>cases h
 | succ n =>
  rw [f72] at h
  have aD : kV false 0 0 []:=trivial
  rcases kQ h with ⟨aE,aB,h⟩ | ⟨aF,aB,h⟩
  ·have aC:=aBf n aA n 0 _ aB
   obtain rfl:=si h
   exact pv_q F72 (qp aC<|qp aD<|q0) [(.ret,aBh aA)] []
  have aC:=aBf n aA n 0 _ aB
  obtain rfl:=si h
  exact pv_q F72 (qp aC<|qp aD<|q0) [((.exit 0),aBg aA)] []
def f45 : Nat→ByteArray→Option Int
 | 0,_=>none
 | n + 1,aB=>(cnd (decide (aB=(⟨#[]⟩ : ByteArray))) (some 14) (cnd (decide (((aB.size : Nat) : Int) > 40)) (some 3) (bnd (f70 n aB) fun aA=>(cnd (aA.2 != 0) (some aA.2) (cnd (((aA.1.length : Nat) : Int) == 0) (some 14) (bnd (f71 n aA.1) fun aC=>(cnd (aC) (some 14) (bnd (f72 n aA.1) fun aD=>(cnd (aD) (some 14) (some 0))))))))))
theorem aO3 (n : Nat) (aH : ByteArray) (r : Int) (h : f45 n aH=some r) : pv PP T n 45 [(sv aH)]=some (iv r):=by
 cases n with
 | zero=>cases h
 | succ n =>
  rw [f45] at h
  rcases cn h with ⟨aJ,aP,h⟩ | ⟨aJ,aP,h⟩
  ·have aQ:=lL (P:=PP) (cf:=evF PP T n) (fl:=0) (H:=[]) (t:=9) aJ
   obtain rfl:=si h
   exact pv_q F45 (qb 6 aQ<|q0) [] []
  have aB:=lL (P:=PP) (cf:=evF PP T n) (fl:=0) (H:=[]) (t:=9) aJ
  have aC:=qF (cf:=evF PP T n) (fl:=0) (H:=[]) aH
  rcases cn h with ⟨aR,aA,h⟩ | ⟨aR,aA,h⟩
  ·obtain rfl:=si h
   exact pv_q F45 (qa 9 aA<|qb 8 aC<|qb 6 aB<|q0) [] []
  obtain ⟨aE,aS,h⟩:=kE h
  have aF:=aX6 n aH _ aS
  rcases cn h with ⟨aT,aD,h⟩ | ⟨aT,aD,h⟩
  ·obtain rfl:=si h
   exact pv_q F45 (qa 16 aD<|qa 12 aF<|qa 9 aA<|qb 8 aC<|qb 6 aB<|q0) [] []
  have aI:=kP (P:=PP) (cf:=evF PP T n) (fl:=0) (H:=[]) (f:=false) (c:=kL) (l:=aE.1)
  rcases cn h with ⟨aU,aG,h⟩ | ⟨aU,aG,h⟩
  ·obtain rfl:=si h
   exact pv_q F45 (qa 20 aG<|qb 19 aI<|qa 16 aD<|qa 12 aF<|qa 9 aA<|qb 8 aC<|qb 6 aB<|q0) [] []
  obtain ⟨aa,aM,h⟩:=kE h
  rcases cn h with ⟨aK,aV,h⟩ | ⟨aK,aV,h⟩
  ·have aW:=by have q:=aSu n aE.1 _ aM; rw [aK] at q; exact q
   obtain rfl:=si h
   exact pv_q F45 (qa 23 aW<|qa 20 aG<|qb 19 aI<|qa 16 aD<|qa 12 aF<|qa 9 aA<|qb 8 aC<|qb 6 aB<|q0) [] []
  have aN:=by have q:=aSu n aE.1 _ aM; rw [aK] at q; exact q
  obtain ⟨ab,aO,h⟩:=kE h
  rcases cn h with ⟨aL,aX,h⟩ | ⟨aL,aX,h⟩
  ·have aY:=by have q:=aSt n aE.1 _ aO; rw [aL] at q; exact q
   obtain rfl:=si h
   exact pv_q F45 (qa 27 aY<|qa 23 aN<|qa 20 aG<|qb 19 aI<|qa 16 aD<|qa 12 aF<|qa 9 aA<|qb 8 aC<|qb 6 aB<|q0) [] []
  have aZ:=by have q:=aSt n aE.1 _ aO; rw [aL] at q; exact q
  obtain rfl:=si h
  exact pv_q F45 (qa 27 aZ<|qa 23 aN<|qa 20 aG<|qb 19 aI<|qa 16 aD<|qa 12 aF<|qa 9 aA<|qb 8 aC<|qb 6 aB<|q0) [] []
def f73 : Nat→Int→Option Int
 | 0,_=>none
 | n + 1,aA=>(cnd (aA == 1) (some 1) (cnd (aA == 2) (some 1) (cnd (aA == 8) (some 1) (cnd (aA == 3) (some 2) (cnd (aA == 4) (some 2) (cnd (aA == 5) (some 3) (cnd (aA == 6) (some 3) (cnd (aA == 7) (some 3) (some 0)))))))))
theorem aX2 (n : Nat) (aI : Int) (r : Int) (h : f73 n aI=some r) : pv PP T n 73 [(iv aI)]=some (iv r):=by
 cases n with
 | zero=>cases h
 | succ n =>
  rw [f73] at h
  rcases cn h with ⟨aJ,aA,h⟩ | ⟨aJ,aA,h⟩
  ·obtain rfl:=si h
   exact pv_q F73 (qa 5 aA<|q0) [] []
  rcases cn h with ⟨aK,aB,h⟩ | ⟨aK,aB,h⟩
  ·obtain rfl:=si h
   exact pv_q F73 (qa 6 aB<|qa 5 aA<|q0) [] []
  rcases cn h with ⟨aL,aC,h⟩ | ⟨aL,aC,h⟩
  ·obtain rfl:=si h
   exact pv_q F73 (qa 7 aC<|qa 6 aB<|qa 5 aA<|q0) [] []
  rcases cn h with ⟨aM,aD,h⟩ | ⟨aM,aD,h⟩
  ·obtain rfl:=si h
   exact pv_q F73 (qa 9 aD<|qa 7 aC<|qa 6 aB<|qa 5 aA<|q0) [] []
  rcases cn h with ⟨aN,aE,h⟩ | ⟨aN,aE,h⟩
  ·obtain rfl:=si h
   exact pv_q F73 (qa 10 aE<|qa 9 aD<|qa 7 aC<|qa 6 aB<|qa 5 aA<|q0) [] []
  rcases cn h with ⟨aO,aF,h⟩ | ⟨aO,aF,h⟩
  ·obtain rfl:=si h
   exact pv_q F73 (qa 12 aF<|qa 10 aE<|qa 9 aD<|qa 7 aC<|qa 6 aB<|qa 5 aA<|q0) [] []
  rcases cn h with ⟨aP,aG,h⟩ | ⟨aP,aG,h⟩
  ·obtain rfl:=si h
   exact pv_q F73 (qa 13 aG<|qa 12 aF<|qa 10 aE<|qa 9 aD<|qa 7 aC<|qa 6 aB<|qa 5 aA<|q0) [] []
  rcases cn h with ⟨aQ,aH,h⟩ | ⟨aQ,aH,h⟩
  ·obtain rfl:=si h
   exact pv_q F73 (qa 14 aH<|qa 13 aG<|qa 12 aF<|qa 10 aE<|qa 9 aD<|qa 7 aC<|qa 6 aB<|qa 5 aA<|q0) [] []
  obtain rfl:=si h
  exact pv_q F73 (qa 14 aH<|qa 13 aG<|qa 12 aF<|qa 10 aE<|qa 9 aD<|qa 7 aC<|qa 6 aB<|qa 5 aA<|q0) [] []
def f74 : Nat→Int→Option ByteArray
 | 0,_=>none
 | n + 1,aA=>(cnd (aA == 1) (some ⟨#[116]⟩) (cnd (aA == 3) (some ⟨#[116]⟩) (cnd (aA == 4) (some ⟨#[97,98,99,118]⟩) (cnd (aA == 6) (some ⟨#[118]⟩) (cnd (aA == 7) (some ⟨#[97,98,110,112]⟩) (cnd (aA == 9) (some ⟨#[110]⟩) (cnd (aA == 10) (some ⟨#[98]⟩) (cnd (aA == 11) (some ⟨#[112]⟩) (cnd (aA == 12) (some ⟨#[97]⟩) (some ⟨#[]⟩))))))))))
theorem aSs (n : Nat) (aJ : Int) (r : ByteArray) (h : f74 n aJ=some r) : pv PP T n 74 [(iv aJ)]=some (sv r):=by
 cases n with
 | zero=>cases h
 | succ n =>
  rw [f74] at h
  rcases cn h with ⟨aK,aA,h⟩ | ⟨aK,aA,h⟩
  ·obtain rfl:=si h
   exact pv_q F74 (qa 5 aA<|q0) [] []
  rcases cn h with ⟨aL,aB,h⟩ | ⟨aL,aB,h⟩
  ·obtain rfl:=si h
   exact pv_q F74 (qa 6 aB<|qa 5 aA<|q0) [] []
  rcases cn h with ⟨aM,aC,h⟩ | ⟨aM,aC,h⟩
  ·obtain rfl:=si h
   exact pv_q F74 (qa 8 aC<|qa 6 aB<|qa 5 aA<|q0) [] []
  rcases cn h with ⟨aN,aD,h⟩ | ⟨aN,aD,h⟩
  ·obtain rfl:=si h
   exact pv_q F74 (qa 10 aD<|qa 8 aC<|qa 6 aB<|qa 5 aA<|q0) [] []
  rcases cn h with ⟨aO,aE,h⟩ | ⟨aO,aE,h⟩
  ·obtain rfl:=si h
   exact pv_q F74 (qa 12 aE<|qa 10 aD<|qa 8 aC<|qa 6 aB<|qa 5 aA<|q0) [] []
  rcases cn h with ⟨aP,aF,h⟩ | ⟨aP,aF,h⟩
  ·obtain rfl:=si h
   exact pv_q F74 (qa 14 aF<|qa 12 aE<|qa 10 aD<|qa 8 aC<|qa 6 aB<|qa 5 aA<|q0) [] []
  rcases cn h with ⟨aQ,aG,h⟩ | ⟨aQ,aG,h⟩
  ·obtain rfl:=si h
   exact pv_q F74 (qa 16 aG<|qa 14 aF<|qa 12 aE<|qa 10 aD<|qa 8 aC<|qa 6 aB<|qa 5 aA<|q0) [] []
  rcases cn h with ⟨aR,aH,h⟩ | ⟨aR,aH,h⟩
  ·obtain rfl:=si h
   exact pv_q F74 (qa 18 aH<|qa 16 aG<|qa 14 aF<|qa 12 aE<|qa 10 aD<|qa 8 aC<|qa 6 aB<|qa 5 aA<|q0) [] []
  rcases cn h with ⟨aS,aI,h⟩ | ⟨aS,aI,h⟩
  ·obtain rfl:=si h
   exact pv_q F74 (qa 20 aI<|qa 18 aH<|qa 16 aG<|qa 14 aF<|qa 12 aE<|qa 10 aD<|qa 8 aC<|qa 6 aB<|qa 5 aA<|q0) [] []
  obtain rfl:=si h
  exact pv_q F74 (qa 20 aI<|qa 18 aH<|qa 16 aG<|qa 14 aF<|qa 12 aE<|qa 10 aD<|qa 8 aC<|qa 6 aB<|qa 5 aA<|q0) [] []
def aOu : Nat→GEdit→Option Bool
 | 0,_=>none
 | n + 1,aA=>(bnd (prdk 1 n) fun aB=>(cnd (decide (aA.At=(GPoint.mk 0 0))) (cnd (aA.A != 0) (some false) (cnd (aA.B != 0) (some false) (cnd (aA.C != 0) (some false) (cnd (((aA.Via.length : Nat) : Int) == 0) (cnd (decide (aA.Name=(⟨#[]⟩ : ByteArray))) (cnd (((aA.Parts.length : Nat) : Int) == 0) (some true) (some false)) (some false)) (some false))))) (some false)))
theorem aRd (n : Nat) (aA : GEdit) (r : Bool) (h : aOu n aA=some r) : pv PP T n 75 [(.agg (kD aA)),(sv (⟨#[]⟩))]=some (bv r):=by
 cases n with
 | zero=>cases h
 | succ n =>
  rw [aOu] at h
  obtain ⟨aZ,aO,h⟩:=kE h
  have aP:=rM aO
  have aB : kV false 0 1 [(.blk 10 [(kD aA)])]:=trivial
  have aC : lT lv31 lv1 false 0 1 (kW (kY (some lv32) false 0 1) (evC PP (evF PP T n) n 0 aC7) n ⟨[U,(sv (⟨#[]⟩)),(.ptr 0 1 0 0),U,U,bf,bf,bf,bf,bf,bf,bf,(iv 0),U,U,U,U,U,U,U,U,U,U,U,U,U,U,U,U,U,U,U,U,U,U,U,U,U,U,U,U,U,U,U,U,U,U,U,U,U,U,U,U,U,U,U,U,U,U,U,U,U,U,U,U,U,U,U,U,U,U,U,U,U,U,U,U,U,U,U,U,U,U,U,U,U,U,U,U,U,U,U,U,U,U],[(.blk 10 [(kD aA)])]⟩)=some ((.exit 0),⟨[U,U,(.ptr 0 1 0 0),U,U,bf,bf,bf,bf,bf,bf,bf,U,U,U,U,U,U,U,U,U,U,U,U,U,U,U,U,U,U,U,U,U,U,U,U,U,U,U,U,U,U,U,U,U,U,U,U,U,U,U,U,U,U,U,U,U,U,U,U,U,U,U,U,U,U,U,U,U,U,U,U,U,U,U,U,U,U,U,U,U,U,U,U,U,U,U,U,U,U,U,U,U,U,U],[(.blk 10 [(kD aA)])]⟩):=by rw [aP]; kernel_rfl
  rcases cn h with ⟨aJ,aQ,h⟩ | ⟨aJ,aQ,h⟩
  rotate_left
  ·have aR:=kR (cf:=evF PP T n) (fl:=0) (H:=[(.blk 10 [(kD aA)])]) (a:=aA.At) (b:=(GPoint.mk 0 0)) aJ
   obtain rfl:=si h
   exact pv_q F75 (qb 42 aR<|qp aC<|qp aB<|q0) [((.exit 0),⟨[U,U,(.ptr 0 1 0 0),U,U,bf,bf,bf,bf,bf,bf,bf,U,U,U,U,U,U,U,U,U,U,U,U,U,U,U,U,U,U,U,U,U,U,U,U,U,U,U,U,U,U,U,U,U,U,U,U,U,U,U,U,U,U,U,U,U,U,U,U,U,U,U,U,U,U,U,U,U,U,U,U,U,U,U,U,U,U,U,U,U,U,U,U,U,U,U,U,U,U,U,U,U,U,U],[(.blk 10 [(kD aA)])]⟩)] []
  have aE:=kR (cf:=evF PP T n) (fl:=0) (H:=[(.blk 10 [(kD aA)])]) (a:=aA.At) (b:=(GPoint.mk 0 0)) aJ
  rcases cn h with ⟨aS,aD,h⟩ | ⟨aS,aD,h⟩
  ·obtain rfl:=si h
   exact pv_q F75 (qa 50 aD<|qb 42 aE<|qp aC<|qp aB<|q0) [((.exit 0),⟨[U,U,(.ptr 0 1 0 0),U,U,bf,bf,bf,bf,bf,bf,bf,U,U,U,U,U,U,U,U,U,U,U,U,U,U,U,U,U,U,U,U,U,U,U,U,U,U,U,U,U,U,U,U,U,U,U,U,U,U,U,U,U,U,U,U,U,U,U,U,U,U,U,U,U,U,U,U,U,U,U,U,U,U,U,U,U,U,U,U,U,U,U,U,U,U,U,U,U,U,U,U,U,U,U],[(.blk 10 [(kD aA)])]⟩)] []
  rcases cn h with ⟨aT,aF,h⟩ | ⟨aT,aF,h⟩
  ·obtain rfl:=si h
   exact pv_q F75 (qa 59 aF<|qa 50 aD<|qb 42 aE<|qp aC<|qp aB<|q0) [((.exit 0),⟨[U,U,(.ptr 0 1 0 0),U,U,bf,bf,bf,bf,bf,bf,bf,U,U,U,U,U,U,U,U,U,U,U,U,U,U,U,U,U,U,U,U,U,U,U,U,U,U,U,U,U,U,U,U,U,U,U,U,U,U,U,U,U,U,U,U,U,U,U,U,U,U,U,U,U,U,U,U,U,U,U,U,U,U,U,U,U,U,U,U,U,U,U,U,U,U,U,U,U,U,U,U,U,U,U],[(.blk 10 [(kD aA)])]⟩)] []
  rcases cn h with ⟨aU,aG,h⟩ | ⟨aU,aG,h⟩
  ·obtain rfl:=si h
   exact pv_q F75 (qa 68 aG<|qa 59 aF<|qa 50 aD<|qb 42 aE<|qp aC<|qp aB<|q0) [((.exit 0),⟨[U,U,(.ptr 0 1 0 0),U,U,bf,bf,bf,bf,bf,bf,bf,U,U,U,U,U,U,U,U,U,U,U,U,U,U,U,U,U,U,U,U,U,U,U,U,U,U,U,U,U,U,U,U,U,U,U,U,U,U,U,U,U,U,U,U,U,U,U,U,U,U,U,U,U,U,U,U,U,U,U,U,U,U,U,U,U,U,U,U,U,U,U,U,U,U,U,U,U,U,U,U,U,U,U],[(.blk 10 [(kD aA)])]⟩)] []
  have aI:=kP (P:=PP) (cf:=evF PP T n) (fl:=0) (H:=[(.blk 10 [(kD aA)])]) (f:=false) (c:=kI) (l:=aA.Via)
  rcases cn h with ⟨aV,aH,h⟩ | ⟨aV,aH,h⟩
  rotate_left
  ·obtain rfl:=si h
   exact pv_q F75 (qa 76 aH<|qb 75 aI<|qa 68 aG<|qa 59 aF<|qa 50 aD<|qb 42 aE<|qp aC<|qp aB<|q0) [((.exit 0),⟨[U,U,(.ptr 0 1 0 0),U,U,bf,bf,bf,bf,bf,bf,bf,U,U,U,U,U,U,U,U,U,U,U,U,U,U,U,U,U,U,U,U,U,U,U,U,U,U,U,U,U,U,U,U,U,U,U,U,U,U,U,U,U,U,U,U,U,U,U,U,U,U,U,U,U,U,U,U,U,U,U,U,U,U,U,U,U,U,U,U,U,U,U,U,U,U,U,U,U,U,U,U,U,U,U],[(.blk 10 [(kD aA)])]⟩)] []
  rcases cn h with ⟨aK,aW,h⟩ | ⟨aK,aW,h⟩
  rotate_left
  ·have aX:=lL (P:=PP) (cf:=evF PP T n) (fl:=0) (H:=[(.blk 10 [(kD aA)])]) (t:=9) aK
   obtain rfl:=si h
   exact pv_q F75 (qb 83 aX<|qa 76 aH<|qb 75 aI<|qa 68 aG<|qa 59 aF<|qa 50 aD<|qb 42 aE<|qp aC<|qp aB<|q0) [((.exit 0),⟨[U,U,(.ptr 0 1 0 0),U,U,bf,bf,bf,bf,bf,bf,bf,U,U,U,U,U,U,U,U,U,U,U,U,U,U,U,U,U,U,U,U,U,U,U,U,U,U,U,U,U,U,U,U,U,U,U,U,U,U,U,U,U,U,U,U,U,U,U,U,U,U,U,U,U,U,U,U,U,U,U,U,U,U,U,U,U,U,U,U,U,U,U,U,U,U,U,U,U,U,U,U,U,U,U],[(.blk 10 [(kD aA)])]⟩)] []
  have aM:=lL (P:=PP) (cf:=evF PP T n) (fl:=0) (H:=[(.blk 10 [(kD aA)])]) (t:=9) aK
  have aN:=kP (P:=PP) (cf:=evF PP T n) (fl:=0) (H:=[(.blk 10 [(kD aA)])]) (f:=false) (c:=kL) (l:=aA.Parts)
  rcases cn h with ⟨aY,aL,h⟩ | ⟨aY,aL,h⟩
  ·obtain rfl:=si h
   exact pv_q F75 (qa 92 aL<|qb 91 aN<|qb 83 aM<|qa 76 aH<|qb 75 aI<|qa 68 aG<|qa 59 aF<|qa 50 aD<|qb 42 aE<|qp aC<|qp aB<|q0) [((.exit 0),⟨[U,U,(.ptr 0 1 0 0),U,U,bf,bf,bf,bf,bf,bf,bf,U,U,U,U,U,U,U,U,U,U,U,U,U,U,U,U,U,U,U,U,U,U,U,U,U,U,U,U,U,U,U,U,U,U,U,U,U,U,U,U,U,U,U,U,U,U,U,U,U,U,U,U,U,U,U,U,U,U,U,U,U,U,U,U,U,U,U,U,U,U,U,U,U,U,U,U,U,U,U,U,U,U,U],[(.blk 10 [(kD aA)])]⟩)] []
  obtain rfl:=si h
  exact pv_q F75 (qa 92 aL<|qb 91 aN<|qb 83 aM<|qa 76 aH<|qb 75 aI<|qa 68 aG<|qa 59 aF<|qa 50 aD<|qb 42 aE<|qp aC<|qp aB<|q0) [((.exit 0),⟨[U,U,(.ptr 0 1 0 0),U,U,bf,bf,bf,bf,bf,bf,bf,U,U,U,U,U,U,U,U,U,U,U,U,U,U,U,U,U,U,U,U,U,U,U,U,U,U,U,U,U,U,U,U,U,U,U,U,U,U,U,U,U,U,U,U,U,U,U,U,U,U,U,U,U,U,U,U,U,U,U,U,U,U,U,U,U,U,U,U,U,U,U,U,U,U,U,U,U,U,U,U,U,U,U],[(.blk 10 [(kD aA)])]⟩)] []
def aL0 : Nat→GEdit→Option Bool
 | 0,_=>none
 | n + 1,aA=>(bnd (prdk 2 n) fun aB=>(cnd (aA.A != 0) (some false) (cnd (aA.B != 0) (some false) (cnd (aA.C != 0) (some false) (cnd (((aA.Via.length : Nat) : Int) == 0) (cnd (decide (aA.Name=(⟨#[]⟩ : ByteArray))) (cnd (((aA.Parts.length : Nat) : Int) == 0) (some true) (some false)) (some false)) (some false))))))
theorem aRc (n : Nat) (aA : GEdit) (r : Bool) (h : aL0 n aA=some r) : pv PP T n 75 [(.agg (kD aA)),(sv (⟨#[116]⟩))]=some (bv r):=by
 cases n with
 | zero=>cases h
 | succ n =>
  rw [aL0] at h
  obtain ⟨aV,aM,h⟩:=kE h
  have aN:=rM aM
  have aC : kV false 0 1 [(.blk 10 [(kD aA)])]:=trivial
  have aD : lT lv31 lv1 false 0 1 (kW (kY (some lv32) false 0 1) (evC PP (evF PP T n) n 0 aC7) n ⟨[U,(sv (⟨#[116]⟩)),(.ptr 0 1 0 0),U,U,bf,bf,bf,bf,bf,bf,bf,(iv 0),U,U,U,U,U,U,U,U,U,U,U,U,U,U,U,U,U,U,U,U,U,U,U,U,U,U,U,U,U,U,U,U,U,U,U,U,U,U,U,U,U,U,U,U,U,U,U,U,U,U,U,U,U,U,U,U,U,U,U,U,U,U,U,U,U,U,U,U,U,U,U,U,U,U,U,U,U,U,U,U,U,U],[(.blk 10 [(kD aA)])]⟩)=some ((.exit 0),⟨[U,U,(.ptr 0 1 0 0),U,U,bt,bf,bf,bf,bf,bf,bf,U,U,U,U,U,U,U,U,U,U,U,U,U,U,U,U,U,U,U,U,U,U,U,U,U,U,U,U,U,U,U,U,U,U,U,U,U,U,U,U,U,U,U,U,U,U,U,U,U,U,U,U,U,U,U,U,U,U,U,U,U,U,U,U,U,U,U,U,U,U,U,U,U,U,U,U,U,U,U,U,U,U,U],[(.blk 10 [(kD aA)])]⟩):=by rw [aN]; kernel_rfl
  rcases cn h with ⟨aO,aB,h⟩ | ⟨aO,aB,h⟩
  ·obtain rfl:=si h
   exact pv_q F75 (qa 50 aB<|qp aD<|qp aC<|q0) [((.exit 0),⟨[U,U,(.ptr 0 1 0 0),U,U,bt,bf,bf,bf,bf,bf,bf,U,U,U,U,U,U,U,U,U,U,U,U,U,U,U,U,U,U,U,U,U,U,U,U,U,U,U,U,U,U,U,U,U,U,U,U,U,U,U,U,U,U,U,U,U,U,U,U,U,U,U,U,U,U,U,U,U,U,U,U,U,U,U,U,U,U,U,U,U,U,U,U,U,U,U,U,U,U,U,U,U,U,U],[(.blk 10 [(kD aA)])]⟩)] []
  rcases cn h with ⟨aP,aE,h⟩ | ⟨aP,aE,h⟩
  ·obtain rfl:=si h
   exact pv_q F75 (qa 59 aE<|qa 50 aB<|qp aD<|qp aC<|q0) [((.exit 0),⟨[U,U,(.ptr 0 1 0 0),U,U,bt,bf,bf,bf,bf,bf,bf,U,U,U,U,U,U,U,U,U,U,U,U,U,U,U,U,U,U,U,U,U,U,U,U,U,U,U,U,U,U,U,U,U,U,U,U,U,U,U,U,U,U,U,U,U,U,U,U,U,U,U,U,U,U,U,U,U,U,U,U,U,U,U,U,U,U,U,U,U,U,U,U,U,U,U,U,U,U,U,U,U,U,U],[(.blk 10 [(kD aA)])]⟩)] []
  rcases cn h with ⟨aQ,aF,h⟩ | ⟨aQ,aF,h⟩
  ·obtain rfl:=si h
   exact pv_q F75 (qa 68 aF<|qa 59 aE<|qa 50 aB<|qp aD<|qp aC<|q0) [((.exit 0),⟨[U,U,(.ptr 0 1 0 0),U,U,bt,bf,bf,bf,bf,bf,bf,U,U,U,U,U,U,U,U,U,U,U,U,U,U,U,U,U,U,U,U,U,U,U,U,U,U,U,U,U,U,U,U,U,U,U,U,U,U,U,U,U,U,U,U,U,U,U,U,U,U,U,U,U,U,U,U,U,U,U,U,U,U,U,U,U,U,U,U,U,U,U,U,U,U,U,U,U,U,U,U,U,U,U],[(.blk 10 [(kD aA)])]⟩)] []
  have aH:=kP (P:=PP) (cf:=evF PP T n) (fl:=0) (H:=[(.blk 10 [(kD aA)])]) (f:=false) (c:=kI) (l:=aA.Via)
  rcases cn h with ⟨aR,aG,h⟩ | ⟨aR,aG,h⟩
  rotate_left
  ·obtain rfl:=si h
   exact pv_q F75 (qa 76 aG<|qb 75 aH<|qa 68 aF<|qa 59 aE<|qa 50 aB<|qp aD<|qp aC<|q0) [((.exit 0),⟨[U,U,(.ptr 0 1 0 0),U,U,bt,bf,bf,bf,bf,bf,bf,U,U,U,U,U,U,U,U,U,U,U,U,U,U,U,U,U,U,U,U,U,U,U,U,U,U,U,U,U,U,U,U,U,U,U,U,U,U,U,U,U,U,U,U,U,U,U,U,U,U,U,U,U,U,U,U,U,U,U,U,U,U,U,U,U,U,U,U,U,U,U,U,U,U,U,U,U,U,U,U,U,U,U],[(.blk 10 [(kD aA)])]⟩)] []
  rcases cn h with ⟨aI,aS,h⟩ | ⟨aI,aS,h⟩
  rotate_left
  ·have aT:=lL (P:=PP) (cf:=evF PP T n) (fl:=0) (H:=[(.blk 10 [(kD aA)])]) (t:=9) aI
   obtain rfl:=si h
   exact pv_q F75 (qb 83 aT<|qa 76 aG<|qb 75 aH<|qa 68 aF<|qa 59 aE<|qa 50 aB<|qp aD<|qp aC<|q0) [((.exit 0),⟨[U,U,(.ptr 0 1 0 0),U,U,bt,bf,bf,bf,bf,bf,bf,U,U,U,U,U,U,U,U,U,U,U,U,U,U,U,U,U,U,U,U,U,U,U,U,U,U,U,U,U,U,U,U,U,U,U,U,U,U,U,U,U,U,U,U,U,U,U,U,U,U,U,U,U,U,U,U,U,U,U,U,U,U,U,U,U,U,U,U,U,U,U,U,U,U,U,U,U,U,U,U,U,U,U],[(.blk 10 [(kD aA)])]⟩)] []
  have aK:=lL (P:=PP) (cf:=evF PP T n) (fl:=0) (H:=[(.blk 10 [(kD aA)])]) (t:=9) aI
  have aL:=kP (P:=PP) (cf:=evF PP T n) (fl:=0) (H:=[(.blk 10 [(kD aA)])]) (f:=false) (c:=kL) (l:=aA.Parts)
  rcases cn h with ⟨aU,aJ,h⟩ | ⟨aU,aJ,h⟩
  ·obtain rfl:=si h
   exact pv_q F75 (qa 92 aJ<|qb 91 aL<|qb 83 aK<|qa 76 aG<|qb 75 aH<|qa 68 aF<|qa 59 aE<|qa 50 aB<|qp aD<|qp aC<|q0) [((.exit 0),⟨[U,U,(.ptr 0 1 0 0),U,U,bt,bf,bf,bf,bf,bf,bf,U,U,U,U,U,U,U,U,U,U,U,U,U,U,U,U,U,U,U,U,U,U,U,U,U,U,U,U,U,U,U,U,U,U,U,U,U,U,U,U,U,U,U,U,U,U,U,U,U,U,U,U,U,U,U,U,U,U,U,U,U,U,U,U,U,U,U,U,U,U,U,U,U,U,U,U,U,U,U,U,U,U,U],[(.blk 10 [(kD aA)])]⟩)] []
  obtain rfl:=si h
  exact pv_q F75 (qa 92 aJ<|qb 91 aL<|qb 83 aK<|qa 76 aG<|qb 75 aH<|qa 68 aF<|qa 59 aE<|qa 50 aB<|qp aD<|qp aC<|q0) [((.exit 0),⟨[U,U,(.ptr 0 1 0 0),U,U,bt,bf,bf,bf,bf,bf,bf,U,U,U,U,U,U,U,U,U,U,U,U,U,U,U,U,U,U,U,U,U,U,U,U,U,U,U,U,U,U,U,U,U,U,U,U,U,U,U,U,U,U,U,U,U,U,U,U,U,U,U,U,U,U,U,U,U,U,U,U,U,U,U,U,U,U,U,U,U,U,U,U,U,U,U,U,U,U,U,U,U,U,U],[(.blk 10 [(kD aA)])]⟩)] []
def aOt : Nat→GEdit→Option Bool
 | 0,_=>none
 | n + 1,aA=>(bnd (prdk 5 n) fun aB=>(cnd (decide (aA.At=(GPoint.mk 0 0))) (cnd (decide (aA.Name=(⟨#[]⟩ : ByteArray))) (cnd (((aA.Parts.length : Nat) : Int) == 0) (some true) (some false)) (some false)) (some false)))
theorem aRb (n : Nat) (aA : GEdit) (r : Bool) (h : aOt n aA=some r) : pv PP T n 75 [(.agg (kD aA)),(sv (⟨#[97,98,99,118]⟩))]=some (bv r):=by
 cases n with
 | zero=>cases h
 | succ n =>
  rw [aOt] at h
  obtain ⟨aQ,aJ,h⟩:=kE h
  have aK:=rM aJ
  have aB : kV false 0 1 [(.blk 10 [(kD aA)])]:=trivial
  have aC : lT lv31 lv1 false 0 1 (kW (kY (some lv32) false 0 1) (evC PP (evF PP T n) n 0 aC7) n ⟨[U,(sv (⟨#[97,98,99,118]⟩)),(.ptr 0 1 0 0),U,U,bf,bf,bf,bf,bf,bf,bf,(iv 0),U,U,U,U,U,U,U,U,U,U,U,U,U,U,U,U,U,U,U,U,U,U,U,U,U,U,U,U,U,U,U,U,U,U,U,U,U,U,U,U,U,U,U,U,U,U,U,U,U,U,U,U,U,U,U,U,U,U,U,U,U,U,U,U,U,U,U,U,U,U,U,U,U,U,U,U,U,U,U,U,U,U],[(.blk 10 [(kD aA)])]⟩)=some ((.exit 0),⟨[U,U,(.ptr 0 1 0 0),U,U,bf,bt,bt,bt,bt,bf,bf,U,U,U,U,U,U,U,U,U,U,U,U,U,U,U,U,U,U,U,U,U,U,U,U,U,U,U,U,U,U,U,U,U,U,U,U,U,U,U,U,U,U,U,U,U,U,U,U,U,U,U,U,U,U,U,U,U,U,U,U,U,U,U,U,U,U,U,U,U,U,U,U,U,U,U,U,U,U,U,U,U,U,U],[(.blk 10 [(kD aA)])]⟩):=by rw [aK]; kernel_rfl
  rcases cn h with ⟨aD,aL,h⟩ | ⟨aD,aL,h⟩
  rotate_left
  ·have aM:=kR (cf:=evF PP T n) (fl:=0) (H:=[(.blk 10 [(kD aA)])]) (a:=aA.At) (b:=(GPoint.mk 0 0)) aD
   obtain rfl:=si h
   exact pv_q F75 (qb 42 aM<|qp aC<|qp aB<|q0) [((.exit 0),⟨[U,U,(.ptr 0 1 0 0),U,U,bf,bt,bt,bt,bt,bf,bf,U,U,U,U,U,U,U,U,U,U,U,U,U,U,U,U,U,U,U,U,U,U,U,U,U,U,U,U,U,U,U,U,U,U,U,U,U,U,U,U,U,U,U,U,U,U,U,U,U,U,U,U,U,U,U,U,U,U,U,U,U,U,U,U,U,U,U,U,U,U,U,U,U,U,U,U,U,U,U,U,U,U,U],[(.blk 10 [(kD aA)])]⟩)] []
  have aE:=kR (cf:=evF PP T n) (fl:=0) (H:=[(.blk 10 [(kD aA)])]) (a:=aA.At) (b:=(GPoint.mk 0 0)) aD
  rcases cn h with ⟨aF,aN,h⟩ | ⟨aF,aN,h⟩
  rotate_left
  ·have aO:=lL (P:=PP) (cf:=evF PP T n) (fl:=0) (H:=[(.blk 10 [(kD aA)])]) (t:=9) aF
   obtain rfl:=si h
   exact pv_q F75 (qb 83 aO<|qb 42 aE<|qp aC<|qp aB<|q0) [((.exit 0),⟨[U,U,(.ptr 0 1 0 0),U,U,bf,bt,bt,bt,bt,bf,bf,U,U,U,U,U,U,U,U,U,U,U,U,U,U,U,U,U,U,U,U,U,U,U,U,U,U,U,U,U,U,U,U,U,U,U,U,U,U,U,U,U,U,U,U,U,U,U,U,U,U,U,U,U,U,U,U,U,U,U,U,U,U,U,U,U,U,U,U,U,U,U,U,U,U,U,U,U,U,U,U,U,U,U],[(.blk 10 [(kD aA)])]⟩)] []
  have aH:=lL (P:=PP) (cf:=evF PP T n) (fl:=0) (H:=[(.blk 10 [(kD aA)])]) (t:=9) aF
  have aI:=kP (P:=PP) (cf:=evF PP T n) (fl:=0) (H:=[(.blk 10 [(kD aA)])]) (f:=false) (c:=kL) (l:=aA.Parts)
  rcases cn h with ⟨aP,aG,h⟩ | ⟨aP,aG,h⟩
  ·obtain rfl:=si h
   exact pv_q F75 (qa 92 aG<|qb 91 aI<|qb 83 aH<|qb 42 aE<|qp aC<|qp aB<|q0) [((.exit 0),⟨[U,U,(.ptr 0 1 0 0),U,U,bf,bt,bt,bt,bt,bf,bf,U,U,U,U,U,U,U,U,U,U,U,U,U,U,U,U,U,U,U,U,U,U,U,U,U,U,U,U,U,U,U,U,U,U,U,U,U,U,U,U,U,U,U,U,U,U,U,U,U,U,U,U,U,U,U,U,U,U,U,U,U,U,U,U,U,U,U,U,U,U,U,U,U,U,U,U,U,U,U,U,U,U,U],[(.blk 10 [(kD aA)])]⟩)] []
  obtain rfl:=si h
  exact pv_q F75 (qa 92 aG<|qb 91 aI<|qb 83 aH<|qb 42 aE<|qp aC<|qp aB<|q0) [((.exit 0),⟨[U,U,(.ptr 0 1 0 0),U,U,bf,bt,bt,bt,bt,bf,bf,U,U,U,U,U,U,U,U,U,U,U,U,U,U,U,U,U,U,U,U,U,U,U,U,U,U,U,U,U,U,U,U,U,U,U,U,U,U,U,U,U,U,U,U,U,U,U,U,U,U,U,U,U,U,U,U,U,U,U,U,U,U,U,U,U,U,U,U,U,U,U,U,U,U,U,U,U,U,U,U,U,U,U],[(.blk 10 [(kD aA)])]⟩)] []
def aOs : Nat→GEdit→Option Bool
 | 0,_=>none
 | n + 1,aA=>(bnd (prdk 2 n) fun aB=>(cnd (decide (aA.At=(GPoint.mk 0 0))) (cnd (aA.A != 0) (some false) (cnd (aA.B != 0) (some false) (cnd (aA.C != 0) (some false) (cnd (decide (aA.Name=(⟨#[]⟩ : ByteArray))) (cnd (((aA.Parts.length : Nat) : Int) == 0) (some true) (some false)) (some false))))) (some false)))
theorem aRa (n : Nat) (aA : GEdit) (r : Bool) (h : aOs n aA=some r) : pv PP T n 75 [(.agg (kD aA)),(sv (⟨#[118]⟩))]=some (bv r):=by
 cases n with
 | zero=>cases h
 | succ n =>
  rw [aOs] at h
  obtain ⟨aW,aM,h⟩:=kE h
  have aN:=rM aM
  have aB : kV false 0 1 [(.blk 10 [(kD aA)])]:=trivial
  have aC : lT lv31 lv1 false 0 1 (kW (kY (some lv32) false 0 1) (evC PP (evF PP T n) n 0 aC7) n ⟨[U,(sv (⟨#[118]⟩)),(.ptr 0 1 0 0),U,U,bf,bf,bf,bf,bf,bf,bf,(iv 0),U,U,U,U,U,U,U,U,U,U,U,U,U,U,U,U,U,U,U,U,U,U,U,U,U,U,U,U,U,U,U,U,U,U,U,U,U,U,U,U,U,U,U,U,U,U,U,U,U,U,U,U,U,U,U,U,U,U,U,U,U,U,U,U,U,U,U,U,U,U,U,U,U,U,U,U,U,U,U,U,U,U],[(.blk 10 [(kD aA)])]⟩)=some ((.exit 0),⟨[U,U,(.ptr 0 1 0 0),U,U,bf,bf,bf,bf,bt,bf,bf,U,U,U,U,U,U,U,U,U,U,U,U,U,U,U,U,U,U,U,U,U,U,U,U,U,U,U,U,U,U,U,U,U,U,U,U,U,U,U,U,U,U,U,U,U,U,U,U,U,U,U,U,U,U,U,U,U,U,U,U,U,U,U,U,U,U,U,U,U,U,U,U,U,U,U,U,U,U,U,U,U,U,U],[(.blk 10 [(kD aA)])]⟩):=by rw [aN]; kernel_rfl
  rcases cn h with ⟨aH,aO,h⟩ | ⟨aH,aO,h⟩
  rotate_left
  ·have aP:=kR (cf:=evF PP T n) (fl:=0) (H:=[(.blk 10 [(kD aA)])]) (a:=aA.At) (b:=(GPoint.mk 0 0)) aH
   obtain rfl:=si h
   exact pv_q F75 (qb 42 aP<|qp aC<|qp aB<|q0) [((.exit 0),⟨[U,U,(.ptr 0 1 0 0),U,U,bf,bf,bf,bf,bt,bf,bf,U,U,U,U,U,U,U,U,U,U,U,U,U,U,U,U,U,U,U,U,U,U,U,U,U,U,U,U,U,U,U,U,U,U,U,U,U,U,U,U,U,U,U,U,U,U,U,U,U,U,U,U,U,U,U,U,U,U,U,U,U,U,U,U,U,U,U,U,U,U,U,U,U,U,U,U,U,U,U,U,U,U,U],[(.blk 10 [(kD aA)])]⟩)] []
  have aE:=kR (cf:=evF PP T n) (fl:=0) (H:=[(.blk 10 [(kD aA)])]) (a:=aA.At) (b:=(GPoint.mk 0 0)) aH
  rcases cn h with ⟨aQ,aD,h⟩ | ⟨aQ,aD,h⟩
  ·obtain rfl:=si h
   exact pv_q F75 (qa 50 aD<|qb 42 aE<|qp aC<|qp aB<|q0) [((.exit 0),⟨[U,U,(.ptr 0 1 0 0),U,U,bf,bf,bf,bf,bt,bf,bf,U,U,U,U,U,U,U,U,U,U,U,U,U,U,U,U,U,U,U,U,U,U,U,U,U,U,U,U,U,U,U,U,U,U,U,U,U,U,U,U,U,U,U,U,U,U,U,U,U,U,U,U,U,U,U,U,U,U,U,U,U,U,U,U,U,U,U,U,U,U,U,U,U,U,U,U,U,U,U,U,U,U,U],[(.blk 10 [(kD aA)])]⟩)] []
  rcases cn h with ⟨aR,aF,h⟩ | ⟨aR,aF,h⟩
  ·obtain rfl:=si h
   exact pv_q F75 (qa 59 aF<|qa 50 aD<|qb 42 aE<|qp aC<|qp aB<|q0) [((.exit 0),⟨[U,U,(.ptr 0 1 0 0),U,U,bf,bf,bf,bf,bt,bf,bf,U,U,U,U,U,U,U,U,U,U,U,U,U,U,U,U,U,U,U,U,U,U,U,U,U,U,U,U,U,U,U,U,U,U,U,U,U,U,U,U,U,U,U,U,U,U,U,U,U,U,U,U,U,U,U,U,U,U,U,U,U,U,U,U,U,U,U,U,U,U,U,U,U,U,U,U,U,U,U,U,U,U,U],[(.blk 10 [(kD aA)])]⟩)] []
  rcases cn h with ⟨aS,aG,h⟩ | ⟨aS,aG,h⟩
  ·obtain rfl:=si h
   exact pv_q F75 (qa 68 aG<|qa 59 aF<|qa 50 aD<|qb 42 aE<|qp aC<|qp aB<|q0) [((.exit 0),⟨[U,U,(.ptr 0 1 0 0),U,U,bf,bf,bf,bf,bt,bf,bf,U,U,U,U,U,U,U,U,U,U,U,U,U,U,U,U,U,U,U,U,U,U,U,U,U,U,U,U,U,U,U,U,U,U,U,U,U,U,U,U,U,U,U,U,U,U,U,U,U,U,U,U,U,U,U,U,U,U,U,U,U,U,U,U,U,U,U,U,U,U,U,U,U,U,U,U,U,U,U,U,U,U,U],[(.blk 10 [(kD aA)])]⟩)] []
  rcases cn h with ⟨aI,aT,h⟩ | ⟨aI,aT,h⟩
  rotate_left
  ·have aU:=lL (P:=PP) (cf:=evF PP T n) (fl:=0) (H:=[(.blk 10 [(kD aA)])]) (t:=9) aI
   obtain rfl:=si h
   exact pv_q F75 (qb 83 aU<|qa 68 aG<|qa 59 aF<|qa 50 aD<|qb 42 aE<|qp aC<|qp aB<|q0) [((.exit 0),⟨[U,U,(.ptr 0 1 0 0),U,U,bf,bf,bf,bf,bt,bf,bf,U,U,U,U,U,U,U,U,U,U,U,U,U,U,U,U,U,U,U,U,U,U,U,U,U,U,U,U,U,U,U,U,U,U,U,U,U,U,U,U,U,U,U,U,U,U,U,U,U,U,U,U,U,U,U,U,U,U,U,U,U,U,U,U,U,U,U,U,U,U,U,U,U,U,U,U,U,U,U,U,U,U,U],[(.blk 10 [(kD aA)])]⟩)] []
  have aK:=lL (P:=PP) (cf:=evF PP T n) (fl:=0) (H:=[(.blk 10 [(kD aA)])]) (t:=9) aI
  have aL:=kP (P:=PP) (cf:=evF PP T n) (fl:=0) (H:=[(.blk 10 [(kD aA)])]) (f:=false) (c:=kL) (l:=aA.Parts)
  rcases cn h with ⟨aV,aJ,h⟩ | ⟨aV,aJ,h⟩
  ·obtain rfl:=si h
   exact pv_q F75 (qa 92 aJ<|qb 91 aL<|qb 83 aK<|qa 68 aG<|qa 59 aF<|qa 50 aD<|qb 42 aE<|qp aC<|qp aB<|q0) [((.exit 0),⟨[U,U,(.ptr 0 1 0 0),U,U,bf,bf,bf,bf,bt,bf,bf,U,U,U,U,U,U,U,U,U,U,U,U,U,U,U,U,U,U,U,U,U,U,U,U,U,U,U,U,U,U,U,U,U,U,U,U,U,U,U,U,U,U,U,U,U,U,U,U,U,U,U,U,U,U,U,U,U,U,U,U,U,U,U,U,U,U,U,U,U,U,U,U,U,U,U,U,U,U,U,U,U,U,U],[(.blk 10 [(kD aA)])]⟩)] []
  obtain rfl:=si h
  exact pv_q F75 (qa 92 aJ<|qb 91 aL<|qb 83 aK<|qa 68 aG<|qa 59 aF<|qa 50 aD<|qb 42 aE<|qp aC<|qp aB<|q0) [((.exit 0),⟨[U,U,(.ptr 0 1 0 0),U,U,bf,bf,bf,bf,bt,bf,bf,U,U,U,U,U,U,U,U,U,U,U,U,U,U,U,U,U,U,U,U,U,U,U,U,U,U,U,U,U,U,U,U,U,U,U,U,U,U,U,U,U,U,U,U,U,U,U,U,U,U,U,U,U,U,U,U,U,U,U,U,U,U,U,U,U,U,U,U,U,U,U,U,U,U,U,U,U,U,U,U,U,U,U],[(.blk 10 [(kD aA)])]⟩)] []
def aOr : Nat→GEdit→Option Bool
 | 0,_=>none
 | n + 1,aA=>(bnd (prdk 5 n) fun aB=>(cnd (decide (aA.At=(GPoint.mk 0 0))) (cnd (aA.C != 0) (some false) (cnd (((aA.Via.length : Nat) : Int) == 0) (some true) (some false))) (some false)))
theorem aQ9 (n : Nat) (aA : GEdit) (r : Bool) (h : aOr n aA=some r) : pv PP T n 75 [(.agg (kD aA)),(sv (⟨#[97,98,110,112]⟩))]=some (bv r):=by
 cases n with
 | zero=>cases h
 | succ n =>
  rw [aOr] at h
  obtain ⟨aO,aI,h⟩:=kE h
  have aJ:=rM aI
  have aB : kV false 0 1 [(.blk 10 [(kD aA)])]:=trivial
  have aC : lT lv31 lv1 false 0 1 (kW (kY (some lv32) false 0 1) (evC PP (evF PP T n) n 0 aC7) n ⟨[U,(sv (⟨#[97,98,110,112]⟩)),(.ptr 0 1 0 0),U,U,bf,bf,bf,bf,bf,bf,bf,(iv 0),U,U,U,U,U,U,U,U,U,U,U,U,U,U,U,U,U,U,U,U,U,U,U,U,U,U,U,U,U,U,U,U,U,U,U,U,U,U,U,U,U,U,U,U,U,U,U,U,U,U,U,U,U,U,U,U,U,U,U,U,U,U,U,U,U,U,U,U,U,U,U,U,U,U,U,U,U,U,U,U,U,U],[(.blk 10 [(kD aA)])]⟩)=some ((.exit 0),⟨[U,U,(.ptr 0 1 0 0),U,U,bf,bt,bt,bf,bf,bt,bt,U,U,U,U,U,U,U,U,U,U,U,U,U,U,U,U,U,U,U,U,U,U,U,U,U,U,U,U,U,U,U,U,U,U,U,U,U,U,U,U,U,U,U,U,U,U,U,U,U,U,U,U,U,U,U,U,U,U,U,U,U,U,U,U,U,U,U,U,U,U,U,U,U,U,U,U,U,U,U,U,U,U,U],[(.blk 10 [(kD aA)])]⟩):=by rw [aJ]; kernel_rfl
  rcases cn h with ⟨aE,aK,h⟩ | ⟨aE,aK,h⟩
  rotate_left
  ·have aL:=kR (cf:=evF PP T n) (fl:=0) (H:=[(.blk 10 [(kD aA)])]) (a:=aA.At) (b:=(GPoint.mk 0 0)) aE
   obtain rfl:=si h
   exact pv_q F75 (qb 42 aL<|qp aC<|qp aB<|q0) [((.exit 0),⟨[U,U,(.ptr 0 1 0 0),U,U,bf,bt,bt,bf,bf,bt,bt,U,U,U,U,U,U,U,U,U,U,U,U,U,U,U,U,U,U,U,U,U,U,U,U,U,U,U,U,U,U,U,U,U,U,U,U,U,U,U,U,U,U,U,U,U,U,U,U,U,U,U,U,U,U,U,U,U,U,U,U,U,U,U,U,U,U,U,U,U,U,U,U,U,U,U,U,U,U,U,U,U,U,U],[(.blk 10 [(kD aA)])]⟩)] []
  have aF:=kR (cf:=evF PP T n) (fl:=0) (H:=[(.blk 10 [(kD aA)])]) (a:=aA.At) (b:=(GPoint.mk 0 0)) aE
  rcases cn h with ⟨aM,aD,h⟩ | ⟨aM,aD,h⟩
  ·obtain rfl:=si h
   exact pv_q F75 (qa 68 aD<|qb 42 aF<|qp aC<|qp aB<|q0) [((.exit 0),⟨[U,U,(.ptr 0 1 0 0),U,U,bf,bt,bt,bf,bf,bt,bt,U,U,U,U,U,U,U,U,U,U,U,U,U,U,U,U,U,U,U,U,U,U,U,U,U,U,U,U,U,U,U,U,U,U,U,U,U,U,U,U,U,U,U,U,U,U,U,U,U,U,U,U,U,U,U,U,U,U,U,U,U,U,U,U,U,U,U,U,U,U,U,U,U,U,U,U,U,U,U,U,U,U,U],[(.blk 10 [(kD aA)])]⟩)] []
  have aH:=kP (P:=PP) (cf:=evF PP T n) (fl:=0) (H:=[(.blk 10 [(kD aA)])]) (f:=false) (c:=kI) (l:=aA.Via)
  rcases cn h with ⟨aN,aG,h⟩ | ⟨aN,aG,h⟩
  ·obtain rfl:=si h
   exact pv_q F75 (qa 76 aG<|qb 75 aH<|qa 68 aD<|qb 42 aF<|qp aC<|qp aB<|q0) [((.exit 0),⟨[U,U,(.ptr 0 1 0 0),U,U,bf,bt,bt,bf,bf,bt,bt,U,U,U,U,U,U,U,U,U,U,U,U,U,U,U,U,U,U,U,U,U,U,U,U,U,U,U,U,U,U,U,U,U,U,U,U,U,U,U,U,U,U,U,U,U,U,U,U,U,U,U,U,U,U,U,U,U,U,U,U,U,U,U,U,U,U,U,U,U,U,U,U,U,U,U,U,U,U,U,U,U,U,U],[(.blk 10 [(kD aA)])]⟩)] []
  obtain rfl:=si h
  exact pv_q F75 (qa 76 aG<|qb 75 aH<|qa 68 aD<|qb 42 aF<|qp aC<|qp aB<|q0) [((.exit 0),⟨[U,U,(.ptr 0 1 0 0),U,U,bf,bt,bt,bf,bf,bt,bt,U,U,U,U,U,U,U,U,U,U,U,U,U,U,U,U,U,U,U,U,U,U,U,U,U,U,U,U,U,U,U,U,U,U,U,U,U,U,U,U,U,U,U,U,U,U,U,U,U,U,U,U,U,U,U,U,U,U,U,U,U,U,U,U,U,U,U,U,U,U,U,U,U,U,U,U,U,U,U,U,U,U,U],[(.blk 10 [(kD aA)])]⟩)] []
def aOq : Nat→GEdit→Option Bool
 | 0,_=>none
 | n + 1,aA=>(bnd (prdk 2 n) fun aB=>(cnd (decide (aA.At=(GPoint.mk 0 0))) (cnd (aA.A != 0) (some false) (cnd (aA.B != 0) (some false) (cnd (aA.C != 0) (some false) (cnd (((aA.Via.length : Nat) : Int) == 0) (cnd (((aA.Parts.length : Nat) : Int) == 0) (some true) (some false)) (some false))))) (some false)))
theorem aQ8 (n : Nat) (aA : GEdit) (r : Bool) (h : aOq n aA=some r) : pv PP T n 75 [(.agg (kD aA)),(sv (⟨#[110]⟩))]=some (bv r):=by
 cases n with
 | zero=>cases h
 | succ n =>
  rw [aOq] at h
  obtain ⟨aV,aM,h⟩:=kE h
  have aN:=rM aM
  have aB : kV false 0 1 [(.blk 10 [(kD aA)])]:=trivial
  have aC : lT lv31 lv1 false 0 1 (kW (kY (some lv32) false 0 1) (evC PP (evF PP T n) n 0 aC7) n ⟨[U,(sv (⟨#[110]⟩)),(.ptr 0 1 0 0),U,U,bf,bf,bf,bf,bf,bf,bf,(iv 0),U,U,U,U,U,U,U,U,U,U,U,U,U,U,U,U,U,U,U,U,U,U,U,U,U,U,U,U,U,U,U,U,U,U,U,U,U,U,U,U,U,U,U,U,U,U,U,U,U,U,U,U,U,U,U,U,U,U,U,U,U,U,U,U,U,U,U,U,U,U,U,U,U,U,U,U,U,U,U,U,U,U],[(.blk 10 [(kD aA)])]⟩)=some ((.exit 0),⟨[U,U,(.ptr 0 1 0 0),U,U,bf,bf,bf,bf,bf,bt,bf,U,U,U,U,U,U,U,U,U,U,U,U,U,U,U,U,U,U,U,U,U,U,U,U,U,U,U,U,U,U,U,U,U,U,U,U,U,U,U,U,U,U,U,U,U,U,U,U,U,U,U,U,U,U,U,U,U,U,U,U,U,U,U,U,U,U,U,U,U,U,U,U,U,U,U,U,U,U,U,U,U,U,U],[(.blk 10 [(kD aA)])]⟩):=by rw [aN]; kernel_rfl
  rcases cn h with ⟨aI,aO,h⟩ | ⟨aI,aO,h⟩
  rotate_left
  ·have aP:=kR (cf:=evF PP T n) (fl:=0) (H:=[(.blk 10 [(kD aA)])]) (a:=aA.At) (b:=(GPoint.mk 0 0)) aI
   obtain rfl:=si h
   exact pv_q F75 (qb 42 aP<|qp aC<|qp aB<|q0) [((.exit 0),⟨[U,U,(.ptr 0 1 0 0),U,U,bf,bf,bf,bf,bf,bt,bf,U,U,U,U,U,U,U,U,U,U,U,U,U,U,U,U,U,U,U,U,U,U,U,U,U,U,U,U,U,U,U,U,U,U,U,U,U,U,U,U,U,U,U,U,U,U,U,U,U,U,U,U,U,U,U,U,U,U,U,U,U,U,U,U,U,U,U,U,U,U,U,U,U,U,U,U,U,U,U,U,U,U,U],[(.blk 10 [(kD aA)])]⟩)] []
  have aE:=kR (cf:=evF PP T n) (fl:=0) (H:=[(.blk 10 [(kD aA)])]) (a:=aA.At) (b:=(GPoint.mk 0 0)) aI
  rcases cn h with ⟨aQ,aD,h⟩ | ⟨aQ,aD,h⟩
  ·obtain rfl:=si h
   exact pv_q F75 (qa 50 aD<|qb 42 aE<|qp aC<|qp aB<|q0) [((.exit 0),⟨[U,U,(.ptr 0 1 0 0),U,U,bf,bf,bf,bf,bf,bt,bf,U,U,U,U,U,U,U,U,U,U,U,U,U,U,U,U,U,U,U,U,U,U,U,U,U,U,U,U,U,U,U,U,U,U,U,U,U,U,U,U,U,U,U,U,U,U,U,U,U,U,U,U,U,U,U,U,U,U,U,U,U,U,U,U,U,U,U,U,U,U,U,U,U,U,U,U,U,U,U,U,U,U,U],[(.blk 10 [(kD aA)])]⟩)] []
  rcases cn h with ⟨aR,aF,h⟩ | ⟨aR,aF,h⟩
  ·obtain rfl:=si h
   exact pv_q F75 (qa 59 aF<|qa 50 aD<|qb 42 aE<|qp aC<|qp aB<|q0) [((.exit 0),⟨[U,U,(.ptr 0 1 0 0),U,U,bf,bf,bf,bf,bf,bt,bf,U,U,U,U,U,U,U,U,U,U,U,U,U,U,U,U,U,U,U,U,U,U,U,U,U,U,U,U,U,U,U,U,U,U,U,U,U,U,U,U,U,U,U,U,U,U,U,U,U,U,U,U,U,U,U,U,U,U,U,U,U,U,U,U,U,U,U,U,U,U,U,U,U,U,U,U,U,U,U,U,U,U,U],[(.blk 10 [(kD aA)])]⟩)] []
  rcases cn h with ⟨aS,aG,h⟩ | ⟨aS,aG,h⟩
  ·obtain rfl:=si h
   exact pv_q F75 (qa 68 aG<|qa 59 aF<|qa 50 aD<|qb 42 aE<|qp aC<|qp aB<|q0) [((.exit 0),⟨[U,U,(.ptr 0 1 0 0),U,U,bf,bf,bf,bf,bf,bt,bf,U,U,U,U,U,U,U,U,U,U,U,U,U,U,U,U,U,U,U,U,U,U,U,U,U,U,U,U,U,U,U,U,U,U,U,U,U,U,U,U,U,U,U,U,U,U,U,U,U,U,U,U,U,U,U,U,U,U,U,U,U,U,U,U,U,U,U,U,U,U,U,U,U,U,U,U,U,U,U,U,U,U,U],[(.blk 10 [(kD aA)])]⟩)] []
  have aJ:=kP (P:=PP) (cf:=evF PP T n) (fl:=0) (H:=[(.blk 10 [(kD aA)])]) (f:=false) (c:=kI) (l:=aA.Via)
  rcases cn h with ⟨aT,aH,h⟩ | ⟨aT,aH,h⟩
  rotate_left
  ·obtain rfl:=si h
   exact pv_q F75 (qa 76 aH<|qb 75 aJ<|qa 68 aG<|qa 59 aF<|qa 50 aD<|qb 42 aE<|qp aC<|qp aB<|q0) [((.exit 0),⟨[U,U,(.ptr 0 1 0 0),U,U,bf,bf,bf,bf,bf,bt,bf,U,U,U,U,U,U,U,U,U,U,U,U,U,U,U,U,U,U,U,U,U,U,U,U,U,U,U,U,U,U,U,U,U,U,U,U,U,U,U,U,U,U,U,U,U,U,U,U,U,U,U,U,U,U,U,U,U,U,U,U,U,U,U,U,U,U,U,U,U,U,U,U,U,U,U,U,U,U,U,U,U,U,U],[(.blk 10 [(kD aA)])]⟩)] []
  have aL:=kP (P:=PP) (cf:=evF PP T n) (fl:=0) (H:=[(.blk 10 [(kD aA)])]) (f:=false) (c:=kL) (l:=aA.Parts)
  rcases cn h with ⟨aU,aK,h⟩ | ⟨aU,aK,h⟩
  ·obtain rfl:=si h
   exact pv_q F75 (qa 92 aK<|qb 91 aL<|qa 76 aH<|qb 75 aJ<|qa 68 aG<|qa 59 aF<|qa 50 aD<|qb 42 aE<|qp aC<|qp aB<|q0) [((.exit 0),⟨[U,U,(.ptr 0 1 0 0),U,U,bf,bf,bf,bf,bf,bt,bf,U,U,U,U,U,U,U,U,U,U,U,U,U,U,U,U,U,U,U,U,U,U,U,U,U,U,U,U,U,U,U,U,U,U,U,U,U,U,U,U,U,U,U,U,U,U,U,U,U,U,U,U,U,U,U,U,U,U,U,U,U,U,U,U,U,U,U,U,U,U,U,U,U,U,U,U,U,U,U,U,U,U,U],[(.blk 10 [(kD aA)])]⟩)] []
  obtain rfl:=si h
  exact pv_q F75 (qa 92 aK<|qb 91 aL<|qa 76 aH<|qb 75 aJ<|qa 68 aG<|qa 59 aF<|qa 50 aD<|qb 42 aE<|qp aC<|qp aB<|q0) [((.exit 0),⟨[U,U,(.ptr 0 1 0 0),U,U,bf,bf,bf,bf,bf,bt,bf,U,U,U,U,U,U,U,U,U,U,U,U,U,U,U,U,U,U,U,U,U,U,U,U,U,U,U,U,U,U,U,U,U,U,U,U,U,U,U,U,U,U,U,U,U,U,U,U,U,U,U,U,U,U,U,U,U,U,U,U,U,U,U,U,U,U,U,U,U,U,U,U,U,U,U,U,U,U,U,U,U,U,U],[(.blk 10 [(kD aA)])]⟩)] []
def aOp : Nat→GEdit→Option Bool
 | 0,_=>none
 | n + 1,aA=>(bnd (prdk 2 n) fun aB=>(cnd (decide (aA.At=(GPoint.mk 0 0))) (cnd (aA.A != 0) (some false) (cnd (aA.C != 0) (some false) (cnd (((aA.Via.length : Nat) : Int) == 0) (cnd (decide (aA.Name=(⟨#[]⟩ : ByteArray))) (cnd (((aA.Parts.length : Nat) : Int) == 0) (some true) (some false)) (some false)) (some false)))) (some false)))
theorem aQ7 (n : Nat) (aA : GEdit) (r : Bool) (h : aOp n aA=some r) : pv PP T n 75 [(.agg (kD aA)),(sv (⟨#[98]⟩))]=some (bv r):=by
 cases n with
 | zero=>cases h
 | succ n =>
  rw [aOp] at h
  obtain ⟨aX,aN,h⟩:=kE h
  have aO:=rM aN
  have aB : kV false 0 1 [(.blk 10 [(kD aA)])]:=trivial
  have aC : lT lv31 lv1 false 0 1 (kW (kY (some lv32) false 0 1) (evC PP (evF PP T n) n 0 aC7) n ⟨[U,(sv (⟨#[98]⟩)),(.ptr 0 1 0 0),U,U,bf,bf,bf,bf,bf,bf,bf,(iv 0),U,U,U,U,U,U,U,U,U,U,U,U,U,U,U,U,U,U,U,U,U,U,U,U,U,U,U,U,U,U,U,U,U,U,U,U,U,U,U,U,U,U,U,U,U,U,U,U,U,U,U,U,U,U,U,U,U,U,U,U,U,U,U,U,U,U,U,U,U,U,U,U,U,U,U,U,U,U,U,U,U,U],[(.blk 10 [(kD aA)])]⟩)=some ((.exit 0),⟨[U,U,(.ptr 0 1 0 0),U,U,bf,bf,bt,bf,bf,bf,bf,U,U,U,U,U,U,U,U,U,U,U,U,U,U,U,U,U,U,U,U,U,U,U,U,U,U,U,U,U,U,U,U,U,U,U,U,U,U,U,U,U,U,U,U,U,U,U,U,U,U,U,U,U,U,U,U,U,U,U,U,U,U,U,U,U,U,U,U,U,U,U,U,U,U,U,U,U,U,U,U,U,U,U],[(.blk 10 [(kD aA)])]⟩):=by rw [aO]; kernel_rfl
  rcases cn h with ⟨aI,aP,h⟩ | ⟨aI,aP,h⟩
  rotate_left
  ·have aQ:=kR (cf:=evF PP T n) (fl:=0) (H:=[(.blk 10 [(kD aA)])]) (a:=aA.At) (b:=(GPoint.mk 0 0)) aI
   obtain rfl:=si h
   exact pv_q F75 (qb 42 aQ<|qp aC<|qp aB<|q0) [((.exit 0),⟨[U,U,(.ptr 0 1 0 0),U,U,bf,bf,bt,bf,bf,bf,bf,U,U,U,U,U,U,U,U,U,U,U,U,U,U,U,U,U,U,U,U,U,U,U,U,U,U,U,U,U,U,U,U,U,U,U,U,U,U,U,U,U,U,U,U,U,U,U,U,U,U,U,U,U,U,U,U,U,U,U,U,U,U,U,U,U,U,U,U,U,U,U,U,U,U,U,U,U,U,U,U,U,U,U],[(.blk 10 [(kD aA)])]⟩)] []
  have aE:=kR (cf:=evF PP T n) (fl:=0) (H:=[(.blk 10 [(kD aA)])]) (a:=aA.At) (b:=(GPoint.mk 0 0)) aI
  rcases cn h with ⟨aR,aD,h⟩ | ⟨aR,aD,h⟩
  ·obtain rfl:=si h
   exact pv_q F75 (qa 50 aD<|qb 42 aE<|qp aC<|qp aB<|q0) [((.exit 0),⟨[U,U,(.ptr 0 1 0 0),U,U,bf,bf,bt,bf,bf,bf,bf,U,U,U,U,U,U,U,U,U,U,U,U,U,U,U,U,U,U,U,U,U,U,U,U,U,U,U,U,U,U,U,U,U,U,U,U,U,U,U,U,U,U,U,U,U,U,U,U,U,U,U,U,U,U,U,U,U,U,U,U,U,U,U,U,U,U,U,U,U,U,U,U,U,U,U,U,U,U,U,U,U,U,U],[(.blk 10 [(kD aA)])]⟩)] []
  rcases cn h with ⟨aS,aF,h⟩ | ⟨aS,aF,h⟩
  ·obtain rfl:=si h
   exact pv_q F75 (qa 68 aF<|qa 50 aD<|qb 42 aE<|qp aC<|qp aB<|q0) [((.exit 0),⟨[U,U,(.ptr 0 1 0 0),U,U,bf,bf,bt,bf,bf,bf,bf,U,U,U,U,U,U,U,U,U,U,U,U,U,U,U,U,U,U,U,U,U,U,U,U,U,U,U,U,U,U,U,U,U,U,U,U,U,U,U,U,U,U,U,U,U,U,U,U,U,U,U,U,U,U,U,U,U,U,U,U,U,U,U,U,U,U,U,U,U,U,U,U,U,U,U,U,U,U,U,U,U,U,U],[(.blk 10 [(kD aA)])]⟩)] []
  have aH:=kP (P:=PP) (cf:=evF PP T n) (fl:=0) (H:=[(.blk 10 [(kD aA)])]) (f:=false) (c:=kI) (l:=aA.Via)
  rcases cn h with ⟨aT,aG,h⟩ | ⟨aT,aG,h⟩
  rotate_left
  ·obtain rfl:=si h
   exact pv_q F75 (qa 76 aG<|qb 75 aH<|qa 68 aF<|qa 50 aD<|qb 42 aE<|qp aC<|qp aB<|q0) [((.exit 0),⟨[U,U,(.ptr 0 1 0 0),U,U,bf,bf,bt,bf,bf,bf,bf,U,U,U,U,U,U,U,U,U,U,U,U,U,U,U,U,U,U,U,U,U,U,U,U,U,U,U,U,U,U,U,U,U,U,U,U,U,U,U,U,U,U,U,U,U,U,U,U,U,U,U,U,U,U,U,U,U,U,U,U,U,U,U,U,U,U,U,U,U,U,U,U,U,U,U,U,U,U,U,U,U,U,U],[(.blk 10 [(kD aA)])]⟩)] []
  rcases cn h with ⟨aJ,aU,h⟩ | ⟨aJ,aU,h⟩
  rotate_left
  ·have aV:=lL (P:=PP) (cf:=evF PP T n) (fl:=0) (H:=[(.blk 10 [(kD aA)])]) (t:=9) aJ
   obtain rfl:=si h
   exact pv_q F75 (qb 83 aV<|qa 76 aG<|qb 75 aH<|qa 68 aF<|qa 50 aD<|qb 42 aE<|qp aC<|qp aB<|q0) [((.exit 0),⟨[U,U,(.ptr 0 1 0 0),U,U,bf,bf,bt,bf,bf,bf,bf,U,U,U,U,U,U,U,U,U,U,U,U,U,U,U,U,U,U,U,U,U,U,U,U,U,U,U,U,U,U,U,U,U,U,U,U,U,U,U,U,U,U,U,U,U,U,U,U,U,U,U,U,U,U,U,U,U,U,U,U,U,U,U,U,U,U,U,U,U,U,U,U,U,U,U,U,U,U,U,U,U,U,U],[(.blk 10 [(kD aA)])]⟩)] []
  have aL:=lL (P:=PP) (cf:=evF PP T n) (fl:=0) (H:=[(.blk 10 [(kD aA)])]) (t:=9) aJ
  have aM:=kP (P:=PP) (cf:=evF PP T n) (fl:=0) (H:=[(.blk 10 [(kD aA)])]) (f:=false) (c:=kL) (l:=aA.Parts)
  rcases cn h with ⟨aW,aK,h⟩ | ⟨aW,aK,h⟩
  ·obtain rfl:=si h
   exact pv_q F75 (qa 92 aK<|qb 91 aM<|qb 83 aL<|qa 76 aG<|qb 75 aH<|qa 68 aF<|qa 50 aD<|qb 42 aE<|qp aC<|qp aB<|q0) [((.exit 0),⟨[U,U,(.ptr 0 1 0 0),U,U,bf,bf,bt,bf,bf,bf,bf,U,U,U,U,U,U,U,U,U,U,U,U,U,U,U,U,U,U,U,U,U,U,U,U,U,U,U,U,U,U,U,U,U,U,U,U,U,U,U,U,U,U,U,U,U,U,U,U,U,U,U,U,U,U,U,U,U,U,U,U,U,U,U,U,U,U,U,U,U,U,U,U,U,U,U,U,U,U,U,U,U,U,U],[(.blk 10 [(kD aA)])]⟩)] []
  obtain rfl:=si h
  exact pv_q F75 (qa 92 aK<|qb 91 aM<|qb 83 aL<|qa 76 aG<|qb 75 aH<|qa 68 aF<|qa 50 aD<|qb 42 aE<|qp aC<|qp aB<|q0) [((.exit 0),⟨[U,U,(.ptr 0 1 0 0),U,U,bf,bf,bt,bf,bf,bf,bf,U,U,U,U,U,U,U,U,U,U,U,U,U,U,U,U,U,U,U,U,U,U,U,U,U,U,U,U,U,U,U,U,U,U,U,U,U,U,U,U,U,U,U,U,U,U,U,U,U,U,U,U,U,U,U,U,U,U,U,U,U,U,U,U,U,U,U,U,U,U,U,U,U,U,U,U,U,U,U,U,U,U,U],[(.blk 10 [(kD aA)])]⟩)] []
def aOo : Nat→GEdit→Option Bool
 | 0,_=>none
 | n + 1,aA=>(bnd (prdk 2 n) fun aB=>(cnd (decide (aA.At=(GPoint.mk 0 0))) (cnd (aA.A != 0) (some false) (cnd (aA.B != 0) (some false) (cnd (aA.C != 0) (some false) (cnd (((aA.Via.length : Nat) : Int) == 0) (cnd (decide (aA.Name=(⟨#[]⟩ : ByteArray))) (some true) (some false)) (some false))))) (some false)))
theorem aQ6 (n : Nat) (aA : GEdit) (r : Bool) (h : aOo n aA=some r) : pv PP T n 75 [(.agg (kD aA)),(sv (⟨#[112]⟩))]=some (bv r):=by
 cases n with
 | zero=>cases h
 | succ n =>
  rw [aOo] at h
  obtain ⟨aW,aL,h⟩:=kE h
  have aM:=rM aL
  have aB : kV false 0 1 [(.blk 10 [(kD aA)])]:=trivial
  have aC : lT lv31 lv1 false 0 1 (kW (kY (some lv32) false 0 1) (evC PP (evF PP T n) n 0 aC7) n ⟨[U,(sv (⟨#[112]⟩)),(.ptr 0 1 0 0),U,U,bf,bf,bf,bf,bf,bf,bf,(iv 0),U,U,U,U,U,U,U,U,U,U,U,U,U,U,U,U,U,U,U,U,U,U,U,U,U,U,U,U,U,U,U,U,U,U,U,U,U,U,U,U,U,U,U,U,U,U,U,U,U,U,U,U,U,U,U,U,U,U,U,U,U,U,U,U,U,U,U,U,U,U,U,U,U,U,U,U,U,U,U,U,U,U],[(.blk 10 [(kD aA)])]⟩)=some ((.exit 0),⟨[U,U,(.ptr 0 1 0 0),U,U,bf,bf,bf,bf,bf,bf,bt,U,U,U,U,U,U,U,U,U,U,U,U,U,U,U,U,U,U,U,U,U,U,U,U,U,U,U,U,U,U,U,U,U,U,U,U,U,U,U,U,U,U,U,U,U,U,U,U,U,U,U,U,U,U,U,U,U,U,U,U,U,U,U,U,U,U,U,U,U,U,U,U,U,U,U,U,U,U,U,U,U,U,U],[(.blk 10 [(kD aA)])]⟩):=by rw [aM]; kernel_rfl
  rcases cn h with ⟨aI,aN,h⟩ | ⟨aI,aN,h⟩
  rotate_left
  ·have aO:=kR (cf:=evF PP T n) (fl:=0) (H:=[(.blk 10 [(kD aA)])]) (a:=aA.At) (b:=(GPoint.mk 0 0)) aI
   obtain rfl:=si h
   exact pv_q F75 (qb 42 aO<|qp aC<|qp aB<|q0) [((.exit 0),⟨[U,U,(.ptr 0 1 0 0),U,U,bf,bf,bf,bf,bf,bf,bt,U,U,U,U,U,U,U,U,U,U,U,U,U,U,U,U,U,U,U,U,U,U,U,U,U,U,U,U,U,U,U,U,U,U,U,U,U,U,U,U,U,U,U,U,U,U,U,U,U,U,U,U,U,U,U,U,U,U,U,U,U,U,U,U,U,U,U,U,U,U,U,U,U,U,U,U,U,U,U,U,U,U,U],[(.blk 10 [(kD aA)])]⟩)] []
  have aE:=kR (cf:=evF PP T n) (fl:=0) (H:=[(.blk 10 [(kD aA)])]) (a:=aA.At) (b:=(GPoint.mk 0 0)) aI
  rcases cn h with ⟨aP,aD,h⟩ | ⟨aP,aD,h⟩
  ·obtain rfl:=si h
   exact pv_q F75 (qa 50 aD<|qb 42 aE<|qp aC<|qp aB<|q0) [((.exit 0),⟨[U,U,(.ptr 0 1 0 0),U,U,bf,bf,bf,bf,bf,bf,bt,U,U,U,U,U,U,U,U,U,U,U,U,U,U,U,U,U,U,U,U,U,U,U,U,U,U,U,U,U,U,U,U,U,U,U,U,U,U,U,U,U,U,U,U,U,U,U,U,U,U,U,U,U,U,U,U,U,U,U,U,U,U,U,U,U,U,U,U,U,U,U,U,U,U,U,U,U,U,U,U,U,U,U],[(.blk 10 [(kD aA)])]⟩)] []
  rcases cn h with ⟨aQ,aF,h⟩ | ⟨aQ,aF,h⟩
  ·obtain rfl:=si h
   exact pv_q F75 (qa 59 aF<|qa 50 aD<|qb 42 aE<|qp aC<|qp aB<|q0) [((.exit 0),⟨[U,U,(.ptr 0 1 0 0),U,U,bf,bf,bf,bf,bf,bf,bt,U,U,U,U,U,U,U,U,U,U,U,U,U,U,U,U,U,U,U,U,U,U,U,U,U,U,U,U,U,U,U,U,U,U,U,U,U,U,U,U,U,U,U,U,U,U,U,U,U,U,U,U,U,U,U,U,U,U,U,U,U,U,U,U,U,U,U,U,U,U,U,U,U,U,U,U,U,U,U,U,U,U,U],[(.blk 10 [(kD aA)])]⟩)] []
  rcases cn h with ⟨aR,aG,h⟩ | ⟨aR,aG,h⟩
  ·obtain rfl:=si h
   exact pv_q F75 (qa 68 aG<|qa 59 aF<|qa 50 aD<|qb 42 aE<|qp aC<|qp aB<|q0) [((.exit 0),⟨[U,U,(.ptr 0 1 0 0),U,U,bf,bf,bf,bf,bf,bf,bt,U,U,U,U,U,U,U,U,U,U,U,U,U,U,U,U,U,U,U,U,U,U,U,U,U,U,U,U,U,U,U,U,U,U,U,U,U,U,U,U,U,U,U,U,U,U,U,U,U,U,U,U,U,U,U,U,U,U,U,U,U,U,U,U,U,U,U,U,U,U,U,U,U,U,U,U,U,U,U,U,U,U,U],[(.blk 10 [(kD aA)])]⟩)] []
  have aJ:=kP (P:=PP) (cf:=evF PP T n) (fl:=0) (H:=[(.blk 10 [(kD aA)])]) (f:=false) (c:=kI) (l:=aA.Via)
  rcases cn h with ⟨aS,aH,h⟩ | ⟨aS,aH,h⟩
  rotate_left
  ·obtain rfl:=si h
   exact pv_q F75 (qa 76 aH<|qb 75 aJ<|qa 68 aG<|qa 59 aF<|qa 50 aD<|qb 42 aE<|qp aC<|qp aB<|q0) [((.exit 0),⟨[U,U,(.ptr 0 1 0 0),U,U,bf,bf,bf,bf,bf,bf,bt,U,U,U,U,U,U,U,U,U,U,U,U,U,U,U,U,U,U,U,U,U,U,U,U,U,U,U,U,U,U,U,U,U,U,U,U,U,U,U,U,U,U,U,U,U,U,U,U,U,U,U,U,U,U,U,U,U,U,U,U,U,U,U,U,U,U,U,U,U,U,U,U,U,U,U,U,U,U,U,U,U,U,U],[(.blk 10 [(kD aA)])]⟩)] []
  rcases cn h with ⟨aK,aT,h⟩ | ⟨aK,aT,h⟩
  ·have aU:=lL (P:=PP) (cf:=evF PP T n) (fl:=0) (H:=[(.blk 10 [(kD aA)])]) (t:=9) aK
   obtain rfl:=si h
   exact pv_q F75 (qb 83 aU<|qa 76 aH<|qb 75 aJ<|qa 68 aG<|qa 59 aF<|qa 50 aD<|qb 42 aE<|qp aC<|qp aB<|q0) [((.exit 0),⟨[U,U,(.ptr 0 1 0 0),U,U,bf,bf,bf,bf,bf,bf,bt,U,U,U,U,U,U,U,U,U,U,U,U,U,U,U,U,U,U,U,U,U,U,U,U,U,U,U,U,U,U,U,U,U,U,U,U,U,U,U,U,U,U,U,U,U,U,U,U,U,U,U,U,U,U,U,U,U,U,U,U,U,U,U,U,U,U,U,U,U,U,U,U,U,U,U,U,U,U,U,U,U,U,U],[(.blk 10 [(kD aA)])]⟩)] []
  have aV:=lL (P:=PP) (cf:=evF PP T n) (fl:=0) (H:=[(.blk 10 [(kD aA)])]) (t:=9) aK
  obtain rfl:=si h
  exact pv_q F75 (qb 83 aV<|qa 76 aH<|qb 75 aJ<|qa 68 aG<|qa 59 aF<|qa 50 aD<|qb 42 aE<|qp aC<|qp aB<|q0) [((.exit 0),⟨[U,U,(.ptr 0 1 0 0),U,U,bf,bf,bf,bf,bf,bf,bt,U,U,U,U,U,U,U,U,U,U,U,U,U,U,U,U,U,U,U,U,U,U,U,U,U,U,U,U,U,U,U,U,U,U,U,U,U,U,U,U,U,U,U,U,U,U,U,U,U,U,U,U,U,U,U,U,U,U,U,U,U,U,U,U,U,U,U,U,U,U,U,U,U,U,U,U,U,U,U,U,U,U,U],[(.blk 10 [(kD aA)])]⟩)] []
def aOn : Nat→GEdit→Option Bool
 | 0,_=>none
 | n + 1,aA=>(bnd (prdk 2 n) fun aB=>(cnd (decide (aA.At=(GPoint.mk 0 0))) (cnd (aA.B != 0) (some false) (cnd (aA.C != 0) (some false) (cnd (((aA.Via.length : Nat) : Int) == 0) (cnd (decide (aA.Name=(⟨#[]⟩ : ByteArray))) (cnd (((aA.Parts.length : Nat) : Int) == 0) (some true) (some false)) (some false)) (some false)))) (some false)))
theorem aQ5 (n : Nat) (aA : GEdit) (r : Bool) (h : aOn n aA=some r) : pv PP T n 75 [(.agg (kD aA)),(sv (⟨#[97]⟩))]=some (bv r):=by
 cases n with
 | zero=>cases h
 | succ n =>
  rw [aOn] at h
  obtain ⟨aX,aN,h⟩:=kE h
  have aO:=rM aN
  have aB : kV false 0 1 [(.blk 10 [(kD aA)])]:=trivial
  have aC : lT lv31 lv1 false 0 1 (kW (kY (some lv32) false 0 1) (evC PP (evF PP T n) n 0 aC7) n ⟨[U,(sv (⟨#[97]⟩)),(.ptr 0 1 0 0),U,U,bf,bf,bf,bf,bf,bf,bf,(iv 0),U,U,U,U,U,U,U,U,U,U,U,U,U,U,U,U,U,U,U,U,U,U,U,U,U,U,U,U,U,U,U,U,U,U,U,U,U,U,U,U,U,U,U,U,U,U,U,U,U,U,U,U,U,U,U,U,U,U,U,U,U,U,U,U,U,U,U,U,U,U,U,U,U,U,U,U,U,U,U,U,U,U],[(.blk 10 [(kD aA)])]⟩)=some ((.exit 0),⟨[U,U,(.ptr 0 1 0 0),U,U,bf,bt,bf,bf,bf,bf,bf,U,U,U,U,U,U,U,U,U,U,U,U,U,U,U,U,U,U,U,U,U,U,U,U,U,U,U,U,U,U,U,U,U,U,U,U,U,U,U,U,U,U,U,U,U,U,U,U,U,U,U,U,U,U,U,U,U,U,U,U,U,U,U,U,U,U,U,U,U,U,U,U,U,U,U,U,U,U,U,U,U,U,U],[(.blk 10 [(kD aA)])]⟩):=by rw [aO]; kernel_rfl
  rcases cn h with ⟨aI,aP,h⟩ | ⟨aI,aP,h⟩
  rotate_left
  ·have aQ:=kR (cf:=evF PP T n) (fl:=0) (H:=[(.blk 10 [(kD aA)])]) (a:=aA.At) (b:=(GPoint.mk 0 0)) aI
   obtain rfl:=si h
   exact pv_q F75 (qb 42 aQ<|qp aC<|qp aB<|q0) [((.exit 0),⟨[U,U,(.ptr 0 1 0 0),U,U,bf,bt,bf,bf,bf,bf,bf,U,U,U,U,U,U,U,U,U,U,U,U,U,U,U,U,U,U,U,U,U,U,U,U,U,U,U,U,U,U,U,U,U,U,U,U,U,U,U,U,U,U,U,U,U,U,U,U,U,U,U,U,U,U,U,U,U,U,U,U,U,U,U,U,U,U,U,U,U,U,U,U,U,U,U,U,U,U,U,U,U,U,U],[(.blk 10 [(kD aA)])]⟩)] []
  have aE:=kR (cf:=evF PP T n) (fl:=0) (H:=[(.blk 10 [(kD aA)])]) (a:=aA.At) (b:=(GPoint.mk 0 0)) aI
  rcases cn h with ⟨aR,aD,h⟩ | ⟨aR,aD,h⟩
  ·obtain rfl:=si h
   exact pv_q F75 (qa 59 aD<|qb 42 aE<|qp aC<|qp aB<|q0) [((.exit 0),⟨[U,U,(.ptr 0 1 0 0),U,U,bf,bt,bf,bf,bf,bf,bf,U,U,U,U,U,U,U,U,U,U,U,U,U,U,U,U,U,U,U,U,U,U,U,U,U,U,U,U,U,U,U,U,U,U,U,U,U,U,U,U,U,U,U,U,U,U,U,U,U,U,U,U,U,U,U,U,U,U,U,U,U,U,U,U,U,U,U,U,U,U,U,U,U,U,U,U,U,U,U,U,U,U,U],[(.blk 10 [(kD aA)])]⟩)] []
  rcases cn h with ⟨aS,aF,h⟩ | ⟨aS,aF,h⟩
  ·obtain rfl:=si h
   exact pv_q F75 (qa 68 aF<|qa 59 aD<|qb 42 aE<|qp aC<|qp aB<|q0) [((.exit 0),⟨[U,U,(.ptr 0 1 0 0),U,U,bf,bt,bf,bf,bf,bf,bf,U,U,U,U,U,U,U,U,U,U,U,U,U,U,U,U,U,U,U,U,U,U,U,U,U,U,U,U,U,U,U,U,U,U,U,U,U,U,U,U,U,U,U,U,U,U,U,U,U,U,U,U,U,U,U,U,U,U,U,U,U,U,U,U,U,U,U,U,U,U,U,U,U,U,U,U,U,U,U,U,U,U,U],[(.blk 10 [(kD aA)])]⟩)] []
  have aH:=kP (P:=PP) (cf:=evF PP T n) (fl:=0) (H:=[(.blk 10 [(kD aA)])]) (f:=false) (c:=kI) (l:=aA.Via)
  rcases cn h with ⟨aT,aG,h⟩ | ⟨aT,aG,h⟩
  rotate_left
  ·obtain rfl:=si h
   exact pv_q F75 (qa 76 aG<|qb 75 aH<|qa 68 aF<|qa 59 aD<|qb 42 aE<|qp aC<|qp aB<|q0) [((.exit 0),⟨[U,U,(.ptr 0 1 0 0),U,U,bf,bt,bf,bf,bf,bf,bf,U,U,U,U,U,U,U,U,U,U,U,U,U,U,U,U,U,U,U,U,U,U,U,U,U,U,U,U,U,U,U,U,U,U,U,U,U,U,U,U,U,U,U,U,U,U,U,U,U,U,U,U,U,U,U,U,U,U,U,U,U,U,U,U,U,U,U,U,U,U,U,U,U,U,U,U,U,U,U,U,U,U,U],[(.blk 10 [(kD aA)])]⟩)] []
  rcases cn h with ⟨aJ,aU,h⟩ | ⟨aJ,aU,h⟩
  rotate_left
  ·have aV:=lL (P:=PP) (cf:=evF PP T n) (fl:=0) (H:=[(.blk 10 [(kD aA)])]) (t:=9) aJ
   obtain rfl:=si h
   exact pv_q F75 (qb 83 aV<|qa 76 aG<|qb 75 aH<|qa 68 aF<|qa 59 aD<|qb 42 aE<|qp aC<|qp aB<|q0) [((.exit 0),⟨[U,U,(.ptr 0 1 0 0),U,U,bf,bt,bf,bf,bf,bf,bf,U,U,U,U,U,U,U,U,U,U,U,U,U,U,U,U,U,U,U,U,U,U,U,U,U,U,U,U,U,U,U,U,U,U,U,U,U,U,U,U,U,U,U,U,U,U,U,U,U,U,U,U,U,U,U,U,U,U,U,U,U,U,U,U,U,U,U,U,U,U,U,U,U,U,U,U,U,U,U,U,U,U,U],[(.blk 10 [(kD aA)])]⟩)] []
  have aL:=lL (P:=PP) (cf:=evF PP T n) (fl:=0) (H:=[(.blk 10 [(kD aA)])]) (t:=9) aJ
  have aM:=kP (P:=PP) (cf:=evF PP T n) (fl:=0) (H:=[(.blk 10 [(kD aA)])]) (f:=false) (c:=kL) (l:=aA.Parts)
  rcases cn h with ⟨aW,aK,h⟩ | ⟨aW,aK,h⟩
  ·obtain rfl:=si h
   exact pv_q F75 (qa 92 aK<|qb 91 aM<|qb 83 aL<|qa 76 aG<|qb 75 aH<|qa 68 aF<|qa 59 aD<|qb 42 aE<|qp aC<|qp aB<|q0) [((.exit 0),⟨[U,U,(.ptr 0 1 0 0),U,U,bf,bt,bf,bf,bf,bf,bf,U,U,U,U,U,U,U,U,U,U,U,U,U,U,U,U,U,U,U,U,U,U,U,U,U,U,U,U,U,U,U,U,U,U,U,U,U,U,U,U,U,U,U,U,U,U,U,U,U,U,U,U,U,U,U,U,U,U,U,U,U,U,U,U,U,U,U,U,U,U,U,U,U,U,U,U,U,U,U,U,U,U,U],[(.blk 10 [(kD aA)])]⟩)] []
  obtain rfl:=si h
  exact pv_q F75 (qa 92 aK<|qb 91 aM<|qb 83 aL<|qa 76 aG<|qb 75 aH<|qa 68 aF<|qa 59 aD<|qb 42 aE<|qp aC<|qp aB<|q0) [((.exit 0),⟨[U,U,(.ptr 0 1 0 0),U,U,bf,bt,bf,bf,bf,bf,bf,U,U,U,U,U,U,U,U,U,U,U,U,U,U,U,U,U,U,U,U,U,U,U,U,U,U,U,U,U,U,U,U,U,U,U,U,U,U,U,U,U,U,U,U,U,U,U,U,U,U,U,U,U,U,U,U,U,U,U,U,U,U,U,U,U,U,U,U,U,U,U,U,U,U,U,U,U,U,U,U,U,U,U],[(.blk 10 [(kD aA)])]⟩)] []
def f75 (n : Nat) (x : GEdit) (s : ByteArray) : Option Bool:=if s=⟨#[]⟩ then aOu n x else if s=⟨#[116]⟩ then aL0 n x else if s=⟨#[97,98,99,118]⟩ then aOt n x else if s=⟨#[118]⟩ then aOs n x else if s=⟨#[97,98,110,112]⟩ then aOr n x else if s=⟨#[110]⟩ then aOq n x else if s=⟨#[98]⟩ then aOp n x else if s=⟨#[112]⟩ then aOo n x else if s=⟨#[97]⟩ then aOn n x else none
theorem aJ7 (n : Nat) (x : GEdit) (s : ByteArray) (r : Bool) (h : f75 n x s=some r) : pv PP T n 75 [.agg (kD x),sv s]=some (bv r):=by
 unfold f75 at h
 split at h
 ·rename_i e; subst e; exact aRd n x r h
 split at h
 ·rename_i e; subst e; exact aRc n x r h
 split at h
 ·rename_i e; subst e; exact aRb n x r h
 split at h
 ·rename_i e; subst e; exact aRa n x r h
 split at h
 ·rename_i e; subst e; exact aQ9 n x r h
 split at h
 ·rename_i e; subst e; exact aQ8 n x r h
 split at h
 ·rename_i e; subst e; exact aQ7 n x r h
 split at h
 ·rename_i e; subst e; exact aQ6 n x r h
 split at h
 ·rename_i e; subst e; exact aQ5 n x r h
 cases h
def f96 : Nat→Int→Option Bool
 | 0,_=>none
 | n + 1,aA=>(cnd (decide (aA ≥ 1)) (cnd (decide (aA ≤ 1073741824)) (some true) (some false)) (some false))
theorem uS (n : Nat) (aC : Int) (r : Bool) (h : f96 n aC=some r) : pv PP T n 96 [(iv aC)]=some (bv r):=by
 cases n with
 | zero=>cases h
 | succ n =>
  rw [f96] at h
  rcases cn h with ⟨aD,aA,h⟩ | ⟨aD,aA,h⟩
  rotate_left
  ·obtain rfl:=si h
   exact pv_q F96 (qa 4 aA<|q0) [] []
  rcases cn h with ⟨aE,aB,h⟩ | ⟨aE,aB,h⟩
  ·obtain rfl:=si h
   exact pv_q F96 (qa 7 aB<|qa 4 aA<|q0) [] []
  obtain rfl:=si h
  exact pv_q F96 (qa 7 aB<|qa 4 aA<|q0) [] []
def f97 : Nat→GPoint→Option Bool
 | 0,_=>none
 | n + 1,aA=>(cnd (decide (aA.X ≥ (-1048576))) (cnd (decide (aA.X ≤ 1048576)) (cnd (decide (aA.Y ≥ (-1048576))) (cnd (decide (aA.Y ≤ 1048576)) (some true) (some false)) (some false)) (some false)) (some false))
theorem sI (n : Nat) (aE : GPoint) (r : Bool) (h : f97 n aE=some r) : pv PP T n 97 [(.agg (kI aE))]=some (bv r):=by
 cases n with
 | zero=>cases h
 | succ n =>
  rw [f97] at h
  rcases cn h with ⟨aF,aA,h⟩ | ⟨aF,aA,h⟩
  rotate_left
  ·obtain rfl:=si h
   exact pv_q F97 (qa 5 aA<|q0) [] []
  rcases cn h with ⟨aG,aB,h⟩ | ⟨aG,aB,h⟩
  rotate_left
  ·obtain rfl:=si h
   exact pv_q F97 (qa 9 aB<|qa 5 aA<|q0) [] []
  rcases cn h with ⟨aH,aC,h⟩ | ⟨aH,aC,h⟩
  rotate_left
  ·obtain rfl:=si h
   exact pv_q F97 (qa 14 aC<|qa 9 aB<|qa 5 aA<|q0) [] []
  rcases cn h with ⟨aI,aD,h⟩ | ⟨aI,aD,h⟩
  ·obtain rfl:=si h
   exact pv_q F97 (qa 19 aD<|qa 14 aC<|qa 9 aB<|qa 5 aA<|q0) [] []
  obtain rfl:=si h
  exact pv_q F97 (qa 19 aD<|qa 14 aC<|qa 9 aB<|qa 5 aA<|q0) [] []
def aJ6 (aA : GEdit) (aB : Int) : St:=⟨[U,(.ptr 0 1 0 0),U,(iv aB),U,U,U,U,U,U,U,U,U,U,U,U,U,U,U,U,U,U,U,U,U,U,U,U,U,U,U,U,U,U,U,U,U,U,U,U,U,U,U,U,U,U,U,U,U,U,U,U,U,U,U,U,U,U,U,U,U,U,U,U,U,U,U,U,U,U,U,U,U,U,U,U,U,U,U,U,U,U,U,U,U,U,U,U,U,U,U,U,U,U,U,U],[(.blk 10 [(kD aA)])]⟩
def pV (aA : GEdit) : St:=⟨[U,U,bf,U,U,U,U,U,U,U,U,U,U,U,U,U,U,U,U,U,U,U,U,U,U,U,U,U,U,U,U,U,U,U,U,U,U,U,U,U,U,U,U,U,U,U,U,U,U,U,U,U,U,U,U,U,U,U,U,U,U,U,U,U,U,U,U,U,U,U,U,U,U,U,U,U,U,U,U,U,U,U,U,U,U,U,U,U,U,U,U,U,U,U,U,U],[(.blk 10 [(kD aA)])]⟩
def mJ (aA : GEdit) : St:=⟨[U,(.ptr 0 1 0 0),U,U,U,U,U,U,U,U,U,U,U,U,U,U,U,U,U,U,U,U,U,U,U,U,U,U,U,U,U,U,U,U,U,U,U,U,U,U,U,U,U,U,U,U,U,U,U,U,U,U,U,U,U,U,U,U,U,U,U,U,U,U,U,U,U,U,U,U,U,U,U,U,U,U,U,U,U,U,U,U,U,U,U,U,U,U,U,U,U,U,U,U,U,U],[(.blk 10 [(kD aA)])]⟩
def qY (n : Nat) (aA : GEdit) : Nat→Int→Option (Unit ⊕ Unit)
 | 0,_=>none
 | m + 1,aB=>(cnd (decide (aB < ((aA.Via.length : Nat) : Int))) (bnd (idx aA.Via aB) fun aC=>(bnd (f97 n aC) fun aD=>(cnd (aD) (qY n aA m (IntKind.i64.wrap (aB + 1))) (some (Sum.inl ()))))) (some (Sum.inr ())))
theorem nK (n : Nat) (aA : GEdit) : ∀ (m : Nat) (aB : Int) (r : (Unit ⊕ Unit)),qY n aA m aB=some r→lT [false,true] [false,false,true] false 0 1 (kW (kY (some [false,true,false,true]) false 0 1) (evC PP (evF PP T n) n 0 bBl) m (aJ6 aA aB))=(match r with | .inl r=>some (.ret,pV aA) | .inr r=>some ((.exit 0),mJ aA))
 | 0,_,_,h=>by cases h
 | m + 1,aB,r,h=>by
  rw [qY] at h
  have aD:=kP (P:=PP) (cf:=evF PP T n) (fl:=0) (H:=[(.blk 10 [(kD aA)])]) (f:=false) (c:=kI) (l:=aA.Via)
  rcases cn h with ⟨aI,aC,h⟩ | ⟨aI,aC,h⟩
  rotate_left
  ·obtain rfl:=si h
   exact kX (some [false,true,false,true]) false (mJ aA) (qa 69 aC<|qb 68 aD<|q0) [] [] trivial
  obtain ⟨aF,aJ,h⟩:=kE h
  have aG:=idxl (H:=[(.blk 10 [(kD aA)])]) (f:=false) (c:=kI) aJ (mS _)
  obtain ⟨aN,aH,h⟩:=kE h
  rcases cn h with ⟨aE,aK,h⟩ | ⟨aE,aK,h⟩
  rotate_left
  ·have aL:=by have q:=sI n aF _ aH; rw [aE] at q; exact q
   obtain rfl:=si h
   exact kX (some [false,true,false,true]) false (pV aA) (qa 77 aL<|qa 75 aG<|qa 69 aC<|qb 68 aD<|q0) [] [] trivial
  have aM:=by have q:=sI n aF _ aH; rw [aE] at q; exact q
  exact nx_q (aJ6 aA (IntKind.i64.wrap (aB + 1))) (qa 77 aM<|qa 75 aG<|qa 69 aC<|qb 68 aD<|q0) [] [] trivial (nK n aA m (IntKind.i64.wrap (aB + 1)) r h)
def aJ5 (aA : GEdit) (aB : Int) : St:=⟨[U,(.ptr 0 1 0 0),U,U,(iv aB),U,U,U,U,U,U,U,U,U,U,U,U,U,U,U,U,U,U,U,U,U,U,U,U,U,U,U,U,U,U,U,U,U,U,U,U,U,U,U,U,U,U,U,U,U,U,U,U,U,U,U,U,U,U,U,U,U,U,U,U,U,U,U,U,U,U,U,U,U,U,U,U,U,U,U,U,U,U,U,U,U,U,U,U,U,U,U,U,U,U,U],[(.blk 10 [(kD aA)])]⟩
def pU (aA : GEdit) : St:=⟨[U,U,bf,U,U,U,U,U,U,U,U,U,U,U,U,U,U,U,U,U,U,U,U,U,U,U,U,U,U,U,U,U,U,U,U,U,U,U,U,U,U,U,U,U,U,U,U,U,U,U,U,U,U,U,U,U,U,U,U,U,U,U,U,U,U,U,U,U,U,U,U,U,U,U,U,U,U,U,U,U,U,U,U,U,U,U,U,U,U,U,U,U,U,U,U,U],[(.blk 10 [(kD aA)])]⟩
def nE (aA : GEdit) : St:=⟨[U,(.ptr 0 1 0 0),U,U,U,U,U,U,U,U,U,U,U,U,U,U,U,U,U,U,U,U,U,U,U,U,U,U,U,U,U,U,U,U,U,U,U,U,U,U,U,U,U,U,U,U,U,U,U,U,U,U,U,U,U,U,U,U,U,U,U,U,U,U,U,U,U,U,U,U,U,U,U,U,U,U,U,U,U,U,U,U,U,U,U,U,U,U,U,U,U,U,U,U,U,U],[(.blk 10 [(kD aA)])]⟩
def qX (n : Nat) (aA : GEdit) : Nat→Int→Option (Unit ⊕ Unit)
 | 0,_=>none
 | m + 1,aB=>(cnd (decide (aB < ((aA.Parts.length : Nat) : Int))) (bnd (idx aA.Parts aB) fun aC=>(bnd (f96 n aC) fun aD=>(cnd (aD) (qX n aA m (IntKind.i64.wrap (aB + 1))) (some (Sum.inl ()))))) (some (Sum.inr ())))
theorem nJ (n : Nat) (aA : GEdit) : ∀ (m : Nat) (aB : Int) (r : (Unit ⊕ Unit)),qX n aA m aB=some r→lT [false,true] [false,false,true] false 0 1 (kW (kY (some lv33) false 0 1) (evC PP (evF PP T n) n 0 bBk) m (aJ5 aA aB))=(match r with | .inl r=>some (.ret,pU aA) | .inr r=>some ((.exit 2),nE aA))
 | 0,_,_,h=>by cases h
 | m + 1,aB,r,h=>by
  rw [qX] at h
  have aD:=kP (P:=PP) (cf:=evF PP T n) (fl:=0) (H:=[(.blk 10 [(kD aA)])]) (f:=false) (c:=kL) (l:=aA.Parts)
  rcases cn h with ⟨aI,aC,h⟩ | ⟨aI,aC,h⟩
  rotate_left
  ·obtain rfl:=si h
   exact kX (some lv33) false (nE aA) (qa 83 aC<|qb 82 aD<|q0) [] [] trivial
  obtain ⟨aF,aJ,h⟩:=kE h
  have aG:=idxl (H:=[(.blk 10 [(kD aA)])]) (f:=false) (c:=kL) aJ (lS _)
  obtain ⟨aN,aH,h⟩:=kE h
  rcases cn h with ⟨aE,aK,h⟩ | ⟨aE,aK,h⟩
  rotate_left
  ·have aL:=by have q:=uS n aF _ aH; rw [aE] at q; exact q
   obtain rfl:=si h
   exact kX (some lv33) false (pU aA) (qa 91 aL<|qa 89 aG<|qa 83 aC<|qb 82 aD<|q0) [] [] trivial
  have aM:=by have q:=uS n aF _ aH; rw [aE] at q; exact q
  exact nx_q (aJ5 aA (IntKind.i64.wrap (aB + 1))) (qa 91 aM<|qa 89 aG<|qa 83 aC<|qb 82 aD<|q0) [] [] trivial (nJ n aA m (IntKind.i64.wrap (aB + 1)) r h)
def f76 : Nat→GEdit→Option Bool
 | 0,_=>none
 | n + 1,aA=>(bnd (f96 n aA.ID) fun aB=>(cnd (aB) (cnd (aA.Kind == 4) (bnd (f96 n aA.A) fun aC=>(cnd (aC) (bnd (f96 n aA.B) fun aD=>(cnd (aD) (cnd (decide (aA.C < (-1073741824))) (some false) (cnd (decide (aA.C > 1073741824)) (some false) (bnd2 (qY n aA n 0) (fun aK=>(some false)) (fun aL=>(bnd2 (qX n aA n 0) (fun aM=>(some false)) (fun aN=>(bnd (f97 n aA.At) fun aE=>(cnd (aE) (some true) (some false))))))))) (some false))) (some false))) (cnd (aA.Kind == 12) (bnd (f96 n aA.A) fun aF=>(cnd (aF) (cnd (decide (aA.C < (-1073741824))) (some false) (cnd (decide (aA.C > 1073741824)) (some false) (bnd2 (qY n aA n 0) (fun aO=>(some false)) (fun aP=>(bnd2 (qX n aA n 0) (fun aQ=>(some false)) (fun aR=>(bnd (f97 n aA.At) fun aG=>(cnd (aG) (some true) (some false))))))))) (some false))) (cnd (decide (aA.C < (-1073741824))) (some false) (cnd (decide (aA.C > 1073741824)) (some false) (cnd (aA.Kind == 7) (cnd (decide (aA.B < 1)) (some false) (cnd (decide (aA.B > 9)) (some false) (bnd2 (qY n aA n 0) (fun aS=>(some false)) (fun aT=>(bnd2 (qX n aA n 0) (fun aU=>(some false)) (fun aV=>(bnd (f97 n aA.At) fun aH=>(cnd (aH) (some true) (some false))))))))) (cnd (aA.Kind == 10) (cnd (decide (aA.B < 1)) (some false) (cnd (decide (aA.B > 9)) (some false) (bnd2 (qY n aA n 0) (fun aW=>(some false)) (fun aX=>(bnd2 (qX n aA n 0) (fun aY=>(some false)) (fun aZ=>(bnd (f97 n aA.At) fun aI=>(cnd (aI) (some true) (some false))))))))) (bnd2 (qY n aA n 0) (fun aa=>(some false)) (fun ab=>(bnd2 (qX n aA n 0) (fun ac=>(some false)) (fun ad=>(bnd (f97 n aA.At) fun aJ=>(cnd (aJ) (some true) (some false))))))))))))) (some false)))
theorem aJ4 (n : Nat) (aA : GEdit) (r : Bool) (h : f76 n aA=some r) : pv PP T n 76 [(.agg (kD aA))]=some (bv r):=by
 cases n with
 | zero=>cases h
 | succ n =>
  rw [f76] at h
  obtain ⟨cQ,bP,h⟩:=kE h
  rcases cn h with ⟨ao,bY,h⟩ | ⟨ao,bY,h⟩
  rotate_left
  ·have bZ:=by have q:=uS n aA.ID _ bP; rw [ao] at q; exact q
   obtain rfl:=si h
   exact pv_q F76 (qa 7 bZ<|q0) [] []
  have aC:=by have q:=uS n aA.ID _ bP; rw [ao] at q; exact q
  rcases cn h with ⟨aZ,aB,h⟩ | ⟨aZ,aB,h⟩
  ·obtain ⟨cR,bQ,h⟩:=kE h
   rcases cn h with ⟨ap,ba,h⟩ | ⟨ap,ba,h⟩
   rotate_left
   ·have bb:=by have q:=uS n aA.A _ bQ; rw [ap] at q; exact q
    obtain rfl:=si h
    exact pv_q F76 (qa 16 bb<|qa 12 aB<|qa 7 aC<|q0) [] []
   have aI:=by have q:=uS n aA.A _ bQ; rw [ap] at q; exact q
   obtain ⟨cS,bR,h⟩:=kE h
   rcases cn h with ⟨aq,bc,h⟩ | ⟨aq,bc,h⟩
   rotate_left
   ·have bd:=by have q:=uS n aA.B _ bR; rw [aq] at q; exact q
    obtain rfl:=si h
    exact pv_q F76 (qa 21 bd<|qa 16 aI<|qa 12 aB<|qa 7 aC<|q0) [] []
   have aN:=by have q:=uS n aA.B _ bR; rw [aq] at q; exact q
   have be : (aA.Kind == 12)=false:=by have q0:=eq_of_beq aZ; exact beq_eq_false_iff_ne.2 (by omega)
   have aO:=lV be
   rcases cn h with ⟨bg,aJ,h⟩ | ⟨bg,aJ,h⟩
   ·obtain rfl:=si h
    exact pv_q F76 (qa 39 aJ<|qa 29 aO<|qa 21 aN<|qa 16 aI<|qa 12 aB<|qa 7 aC<|q0) [] []
   rcases cn h with ⟨bh,aP,h⟩ | ⟨bh,aP,h⟩
   ·obtain rfl:=si h
    exact pv_q F76 (qa 43 aP<|qa 39 aJ<|qa 29 aO<|qa 21 aN<|qa 16 aI<|qa 12 aB<|qa 7 aC<|q0) [] []
   have bi : (aA.Kind == 7)=false:=by have q0:=eq_of_beq aZ; exact beq_eq_false_iff_ne.2 (by omega)
   have aa:=lV bi
   have bj : (aA.Kind == 10)=false:=by have q0:=eq_of_beq aZ; exact beq_eq_false_iff_ne.2 (by omega)
   have ab:=lV bj
   have ac : kV false 0 1 [(.blk 10 [(kD aA)])]:=trivial
   rcases kQ h with ⟨cT,ar,h⟩ | ⟨cU,ar,h⟩
   ·have aU:=nK n aA n 0 _ ar
    obtain rfl:=si h
    exact pv_q F76 (qp aU<|qp ac<|qa 52 ab<|qa 48 aa<|qa 43 aP<|qa 39 aJ<|qa 29 aO<|qa 21 aN<|qa 16 aI<|qa 12 aB<|qa 7 aC<|q0) [(.ret,pV aA)] []
   have aU:=nK n aA n 0 _ ar
   have au : kV false 0 1 [(.blk 10 [(kD aA)])]:=trivial
   rcases kQ h with ⟨cV,av,h⟩ | ⟨cW,av,h⟩
   ·have ad:=nJ n aA n 0 _ av
    obtain rfl:=si h
    exact pv_q F76 (qp ad<|qp au<|qp aU<|qp ac<|qa 52 ab<|qa 48 aa<|qa 43 aP<|qa 39 aJ<|qa 29 aO<|qa 21 aN<|qa 16 aI<|qa 12 aB<|qa 7 aC<|q0) [((.exit 0),mJ aA),(.ret,pU aA)] []
   have ad:=nJ n aA n 0 _ av
   obtain ⟨cX,bS,h⟩:=kE h
   rcases cn h with ⟨aw,bk,h⟩ | ⟨aw,bk,h⟩
   ·have bl:=by have q:=sI n aA.At _ bS; rw [aw] at q; exact q
    obtain rfl:=si h
    exact pv_q F76 (qa 95 bl<|qp ad<|qp au<|qp aU<|qp ac<|qa 52 ab<|qa 48 aa<|qa 43 aP<|qa 39 aJ<|qa 29 aO<|qa 21 aN<|qa 16 aI<|qa 12 aB<|qa 7 aC<|q0) [((.exit 0),mJ aA),((.exit 2),nE aA)] []
   have bm:=by have q:=sI n aA.At _ bS; rw [aw] at q; exact q
   obtain rfl:=si h
   exact pv_q F76 (qa 95 bm<|qp ad<|qp au<|qp aU<|qp ac<|qa 52 ab<|qa 48 aa<|qa 43 aP<|qa 39 aJ<|qa 29 aO<|qa 21 aN<|qa 16 aI<|qa 12 aB<|qa 7 aC<|q0) [((.exit 0),mJ aA),((.exit 2),nE aA)] []
  rcases cn h with ⟨ax,aD,h⟩ | ⟨ax,aD,h⟩
  ·obtain ⟨cY,bT,h⟩:=kE h
   rcases cn h with ⟨ay,bn,h⟩ | ⟨ay,bn,h⟩
   rotate_left
   ·have bo:=by have q:=uS n aA.A _ bT; rw [ay] at q; exact q
    obtain rfl:=si h
    exact pv_q F76 (qa 33 bo<|qa 29 aD<|qa 12 aB<|qa 7 aC<|q0) [] []
   have aQ:=by have q:=uS n aA.A _ bT; rw [ay] at q; exact q
   rcases cn h with ⟨bp,aK,h⟩ | ⟨bp,aK,h⟩
   ·obtain rfl:=si h
    exact pv_q F76 (qa 39 aK<|qa 33 aQ<|qa 29 aD<|qa 12 aB<|qa 7 aC<|q0) [] []
   rcases cn h with ⟨bq,aR,h⟩ | ⟨bq,aR,h⟩
   ·obtain rfl:=si h
    exact pv_q F76 (qa 43 aR<|qa 39 aK<|qa 33 aQ<|qa 29 aD<|qa 12 aB<|qa 7 aC<|q0) [] []
   have br : (aA.Kind == 7)=false:=by have q0:=eq_of_beq ax; exact beq_eq_false_iff_ne.2 (by omega)
   have ae:=lV br
   have bs : (aA.Kind == 10)=false:=by have q0:=eq_of_beq ax; exact beq_eq_false_iff_ne.2 (by omega)
   have af:=lV bs
   have ag : kV false 0 1 [(.blk 10 [(kD aA)])]:=trivial
   rcases kQ h with ⟨cZ,az,h⟩ | ⟨ca,az,h⟩
   ·have aV:=nK n aA n 0 _ az
    obtain rfl:=si h
    exact pv_q F76 (qp aV<|qp ag<|qa 52 af<|qa 48 ae<|qa 43 aR<|qa 39 aK<|qa 33 aQ<|qa 29 aD<|qa 12 aB<|qa 7 aC<|q0) [(.ret,pV aA)] []
   have aV:=nK n aA n 0 _ az
   have bA : kV false 0 1 [(.blk 10 [(kD aA)])]:=trivial
   rcases kQ h with ⟨cb,bB,h⟩ | ⟨cc,bB,h⟩
   ·have ah:=nJ n aA n 0 _ bB
    obtain rfl:=si h
    exact pv_q F76 (qp ah<|qp bA<|qp aV<|qp ag<|qa 52 af<|qa 48 ae<|qa 43 aR<|qa 39 aK<|qa 33 aQ<|qa 29 aD<|qa 12 aB<|qa 7 aC<|q0) [((.exit 0),mJ aA),(.ret,pU aA)] []
   have ah:=nJ n aA n 0 _ bB
   obtain ⟨cd,bU,h⟩:=kE h
   rcases cn h with ⟨bC,bu,h⟩ | ⟨bC,bu,h⟩
   ·have bw:=by have q:=sI n aA.At _ bU; rw [bC] at q; exact q
    obtain rfl:=si h
    exact pv_q F76 (qa 95 bw<|qp ah<|qp bA<|qp aV<|qp ag<|qa 52 af<|qa 48 ae<|qa 43 aR<|qa 39 aK<|qa 33 aQ<|qa 29 aD<|qa 12 aB<|qa 7 aC<|q0) [((.exit 0),mJ aA),((.exit 2),nE aA)] []
   have bx:=by have q:=sI n aA.At _ bU; rw [bC] at q; exact q
   obtain rfl:=si h
   exact pv_q F76 (qa 95 bx<|qp ah<|qp bA<|qp aV<|qp ag<|qa 52 af<|qa 48 ae<|qa 43 aR<|qa 39 aK<|qa 33 aQ<|qa 29 aD<|qa 12 aB<|qa 7 aC<|q0) [((.exit 0),mJ aA),((.exit 2),nE aA)] []
  rcases cn h with ⟨bz,aE,h⟩ | ⟨bz,aE,h⟩
  ·obtain rfl:=si h
   exact pv_q F76 (qa 39 aE<|qa 29 aD<|qa 12 aB<|qa 7 aC<|q0) [] []
  rcases cn h with ⟨cA,aF,h⟩ | ⟨cA,aF,h⟩
  ·obtain rfl:=si h
   exact pv_q F76 (qa 43 aF<|qa 39 aE<|qa 29 aD<|qa 12 aB<|qa 7 aC<|q0) [] []
  rcases cn h with ⟨cB,aG,h⟩ | ⟨cB,aG,h⟩
  ·rcases cn h with ⟨cC,aL,h⟩ | ⟨cC,aL,h⟩
   ·obtain rfl:=si h
    exact pv_q F76 (qa 57 aL<|qa 48 aG<|qa 43 aF<|qa 39 aE<|qa 29 aD<|qa 12 aB<|qa 7 aC<|q0) [] []
   rcases cn h with ⟨cD,aS,h⟩ | ⟨cD,aS,h⟩
   ·obtain rfl:=si h
    exact pv_q F76 (qa 61 aS<|qa 57 aL<|qa 48 aG<|qa 43 aF<|qa 39 aE<|qa 29 aD<|qa 12 aB<|qa 7 aC<|q0) [] []
   have ai : kV false 0 1 [(.blk 10 [(kD aA)])]:=trivial
   rcases kQ h with ⟨ce,bD,h⟩ | ⟨cf,bD,h⟩
   ·have aW:=nK n aA n 0 _ bD
    obtain rfl:=si h
    exact pv_q F76 (qp aW<|qp ai<|qa 61 aS<|qa 57 aL<|qa 48 aG<|qa 43 aF<|qa 39 aE<|qa 29 aD<|qa 12 aB<|qa 7 aC<|q0) [(.ret,pV aA)] []
   have aW:=nK n aA n 0 _ bD
   have bE : kV false 0 1 [(.blk 10 [(kD aA)])]:=trivial
   rcases kQ h with ⟨cg,bF,h⟩ | ⟨ch,bF,h⟩
   ·have aj:=nJ n aA n 0 _ bF
    obtain rfl:=si h
    exact pv_q F76 (qp aj<|qp bE<|qp aW<|qp ai<|qa 61 aS<|qa 57 aL<|qa 48 aG<|qa 43 aF<|qa 39 aE<|qa 29 aD<|qa 12 aB<|qa 7 aC<|q0) [((.exit 0),mJ aA),(.ret,pU aA)] []
   have aj:=nJ n aA n 0 _ bF
   obtain ⟨ci,bV,h⟩:=kE h
   rcases cn h with ⟨bG,cE,h⟩ | ⟨bG,cE,h⟩
   ·have cF:=by have q:=sI n aA.At _ bV; rw [bG] at q; exact q
    obtain rfl:=si h
    exact pv_q F76 (qa 95 cF<|qp aj<|qp bE<|qp aW<|qp ai<|qa 61 aS<|qa 57 aL<|qa 48 aG<|qa 43 aF<|qa 39 aE<|qa 29 aD<|qa 12 aB<|qa 7 aC<|q0) [((.exit 0),mJ aA),((.exit 2),nE aA)] []
   have cG:=by have q:=sI n aA.At _ bV; rw [bG] at q; exact q
   obtain rfl:=si h
   exact pv_q F76 (qa 95 cG<|qp aj<|qp bE<|qp aW<|qp ai<|qa 61 aS<|qa 57 aL<|qa 48 aG<|qa 43 aF<|qa 39 aE<|qa 29 aD<|qa 12 aB<|qa 7 aC<|q0) [((.exit 0),mJ aA),((.exit 2),nE aA)] []
  rcases cn h with ⟨cH,aH,h⟩ | ⟨cH,aH,h⟩
  rotate_left
  ·have ak : kV false 0 1 [(.blk 10 [(kD aA)])]:=trivial
   rcases kQ h with ⟨cj,bH,h⟩ | ⟨ck,bH,h⟩
   ·have aX:=nK n aA n 0 _ bH
    obtain rfl:=si h
    exact pv_q F76 (qp aX<|qp ak<|qa 52 aH<|qa 48 aG<|qa 43 aF<|qa 39 aE<|qa 29 aD<|qa 12 aB<|qa 7 aC<|q0) [(.ret,pV aA)] []
   have aX:=nK n aA n 0 _ bH
   have bI : kV false 0 1 [(.blk 10 [(kD aA)])]:=trivial
   rcases kQ h with ⟨cl,bJ,h⟩ | ⟨cm,bJ,h⟩
   ·have al:=nJ n aA n 0 _ bJ
    obtain rfl:=si h
    exact pv_q F76 (qp al<|qp bI<|qp aX<|qp ak<|qa 52 aH<|qa 48 aG<|qa 43 aF<|qa 39 aE<|qa 29 aD<|qa 12 aB<|qa 7 aC<|q0) [((.exit 0),mJ aA),(.ret,pU aA)] []
   have al:=nJ n aA n 0 _ bJ
   obtain ⟨co,bW,h⟩:=kE h
   rcases cn h with ⟨bK,cI,h⟩ | ⟨bK,cI,h⟩
   ·have cJ:=by have q:=sI n aA.At _ bW; rw [bK] at q; exact q
    obtain rfl:=si h
    exact pv_q F76 (qa 95 cJ<|qp al<|qp bI<|qp aX<|qp ak<|qa 52 aH<|qa 48 aG<|qa 43 aF<|qa 39 aE<|qa 29 aD<|qa 12 aB<|qa 7 aC<|q0) [((.exit 0),mJ aA),((.exit 2),nE aA)] []
   have cK:=by have q:=sI n aA.At _ bW; rw [bK] at q; exact q
   obtain rfl:=si h
   exact pv_q F76 (qa 95 cK<|qp al<|qp bI<|qp aX<|qp ak<|qa 52 aH<|qa 48 aG<|qa 43 aF<|qa 39 aE<|qa 29 aD<|qa 12 aB<|qa 7 aC<|q0) [((.exit 0),mJ aA),((.exit 2),nE aA)] []
  rcases cn h with ⟨cL,aM,h⟩ | ⟨cL,aM,h⟩
  ·obtain rfl:=si h
   exact pv_q F76 (qa 57 aM<|qa 52 aH<|qa 48 aG<|qa 43 aF<|qa 39 aE<|qa 29 aD<|qa 12 aB<|qa 7 aC<|q0) [] []
  rcases cn h with ⟨cM,aT,h⟩ | ⟨cM,aT,h⟩
  ·obtain rfl:=si h
   exact pv_q F76 (qa 61 aT<|qa 57 aM<|qa 52 aH<|qa 48 aG<|qa 43 aF<|qa 39 aE<|qa 29 aD<|qa 12 aB<|qa 7 aC<|q0) [] []
  have am : kV false 0 1 [(.blk 10 [(kD aA)])]:=trivial
  rcases kQ h with ⟨cp,bL,h⟩ | ⟨cq,bL,h⟩
  ·have aY:=nK n aA n 0 _ bL
   obtain rfl:=si h
   exact pv_q F76 (qp aY<|qp am<|qa 61 aT<|qa 57 aM<|qa 52 aH<|qa 48 aG<|qa 43 aF<|qa 39 aE<|qa 29 aD<|qa 12 aB<|qa 7 aC<|q0) [(.ret,pV aA)] []
  have aY:=nK n aA n 0 _ bL
  have bM : kV false 0 1 [(.blk 10 [(kD aA)])]:=trivial
  rcases kQ h with ⟨cr,bN,h⟩ | ⟨cs,bN,h⟩
  ·have an:=nJ n aA n 0 _ bN
   obtain rfl:=si h
   exact pv_q F76 (qp an<|qp bM<|qp aY<|qp am<|qa 61 aT<|qa 57 aM<|qa 52 aH<|qa 48 aG<|qa 43 aF<|qa 39 aE<|qa 29 aD<|qa 12 aB<|qa 7 aC<|q0) [((.exit 0),mJ aA),(.ret,pU aA)] []
  have an:=nJ n aA n 0 _ bN
  obtain ⟨ct,bX,h⟩:=kE h
  rcases cn h with ⟨bO,cN,h⟩ | ⟨bO,cN,h⟩
  ·have cO:=by have q:=sI n aA.At _ bX; rw [bO] at q; exact q
   obtain rfl:=si h
   exact pv_q F76 (qa 95 cO<|qp an<|qp bM<|qp aY<|qp am<|qa 61 aT<|qa 57 aM<|qa 52 aH<|qa 48 aG<|qa 43 aF<|qa 39 aE<|qa 29 aD<|qa 12 aB<|qa 7 aC<|q0) [((.exit 0),mJ aA),((.exit 2),nE aA)] []
  have cP:=by have q:=sI n aA.At _ bX; rw [bO] at q; exact q
  obtain rfl:=si h
  exact pv_q F76 (qa 95 cP<|qp an<|qp bM<|qp aY<|qp am<|qa 61 aT<|qa 57 aM<|qa 52 aH<|qa 48 aG<|qa 43 aF<|qa 39 aE<|qa 29 aD<|qa 12 aB<|qa 7 aC<|q0) [((.exit 0),mJ aA),((.exit 2),nE aA)] []
def aKi (aA : GEdit) (aB : Int) : St:=⟨[U,(.ptr 0 1 0 0),U,(iv aB),U,U,U,U,U,U,U,U,U,U,U,U,U,U,U,U,U,U,U,U,U,U,U,U,U,U,U,U,U,U,U,U,U,U,U,U,U,U,U,U,U,U,U,U,U,U,U,U,U,U,U,U,U,U,U,U,U,U,U,U,U,U,U,U,U,U],[(.blk 10 [(kD aA)])]⟩
def wR (aA : GEdit) : St:=⟨[U,U,(iv 10),U,U,U,U,U,U,U,U,U,U,U,U,U,U,U,U,U,U,U,U,U,U,U,U,U,U,U,U,U,U,U,U,U,U,U,U,U,U,U,U,U,U,U,U,U,U,U,U,U,U,U,U,U,U,U,U,U,U,U,U,U,U,U,U,U,U,U],[(.blk 10 [(kD aA)])]⟩
def oY (aA : GEdit) : St:=⟨[U,(.ptr 0 1 0 0),U,U,U,U,U,U,U,U,U,U,U,U,U,U,U,U,U,U,U,U,U,U,U,U,U,U,U,U,U,U,U,U,U,U,U,U,U,U,U,U,U,U,U,U,U,U,U,U,U,U,U,U,U,U,U,U,U,U,U,U,U,U,U,U,U,U,U,U],[(.blk 10 [(kD aA)])]⟩
def yV (n : Nat) (aA : GEdit) : Nat→Int→Option (Unit ⊕ Unit)
 | 0,_=>none
 | m + 1,aB=>(cnd (decide (aB < ((aA.Parts.length : Nat) : Int))) (bnd (idx aA.Parts (IntKind.i64.wrap (aB - 1))) fun aC=>(bnd (idx aA.Parts aB) fun aD=>(cnd (decide (aC ≥ aD)) (some (Sum.inl ())) (yV n aA m (IntKind.i64.wrap (aB + 1)))))) (some (Sum.inr ())))
theorem tD (n : Nat) (aA : GEdit) : ∀ (m : Nat) (aB : Int) (r : (Unit ⊕ Unit)),yV n aA m aB=some r→lT [false,true] [false,false,true] false 0 1 (kW (kY (some [false,true,false,true]) false 0 1) (evC PP (evF PP T n) n 0 bBw) m (aKi aA aB))=(match r with | .inl r=>some (.ret,wR aA) | .inr r=>some ((.exit 0),oY aA))
 | 0,_,_,h=>by cases h
 | m + 1,aB,r,h=>by
  rw [yV] at h
  have aD:=kP (P:=PP) (cf:=evF PP T n) (fl:=0) (H:=[(.blk 10 [(kD aA)])]) (f:=false) (c:=kL) (l:=aA.Parts)
  rcases cn h with ⟨aH,aC,h⟩ | ⟨aH,aC,h⟩
  rotate_left
  ·obtain rfl:=si h
   exact kX (some [false,true,false,true]) false (oY aA) (qa 46 aC<|qb 45 aD<|q0) [] [] trivial
  obtain ⟨aL,aI,h⟩:=kE h
  have aF:=idxl (H:=[(.blk 10 [(kD aA)])]) (f:=false) (c:=kL) aI (lS _)
  obtain ⟨aM,aJ,h⟩:=kE h
  have aG:=idxl (H:=[(.blk 10 [(kD aA)])]) (f:=false) (c:=kL) aJ (lS _)
  rcases cn h with ⟨aK,aE,h⟩ | ⟨aK,aE,h⟩
  ·obtain rfl:=si h
   exact kX (some [false,true,false,true]) false (wR aA) (qa 60 aE<|qa 58 aG<|qa 53 aF<|qa 46 aC<|qb 45 aD<|q0) [] [] trivial
  exact nx_q (aKi aA (IntKind.i64.wrap (aB + 1))) (qa 60 aE<|qa 58 aG<|qa 53 aF<|qa 46 aC<|qb 45 aD<|q0) [] [] trivial (tD n aA m (IntKind.i64.wrap (aB + 1)) r h)
def f46 : Nat→GEdit→Option Int
 | 0,_=>none
 | n + 1,aA=>(cnd (decide (aA.Kind < 1)) (some 9) (cnd (decide (aA.Kind > 12)) (some 9) (cnd (aA.Kind == 7) (bnd (f73 n aA.A) fun aB=>(cnd (aB == 0) (some 9) (bnd (f74 n aA.Kind) fun aC=>(bnd (f75 n aA aC) fun aD=>(cnd (aD) (cnd (decide (((aA.Via.length : Nat) : Int) > 64)) (some 3) (cnd (decide (((aA.Parts.length : Nat) : Int) > 64)) (some 3) (bnd (f76 n aA) fun aE=>(cnd (aE) (bnd2 (yV n aA n 1) (fun aK=>(some 10)) (fun aL=>(cnd (decide (aA.Name=(⟨#[]⟩ : ByteArray))) (some 0) (bnd (f45 n aA.Name) fun aF=>(cnd (aF != 0) (some 14) (some 0)))))) (some 2))))) (some 1)))))) (bnd (f74 n aA.Kind) fun aG=>(bnd (f75 n aA aG) fun aH=>(cnd (aH) (cnd (decide (((aA.Via.length : Nat) : Int) > 64)) (some 3) (cnd (decide (((aA.Parts.length : Nat) : Int) > 64)) (some 3) (bnd (f76 n aA) fun aI=>(cnd (aI) (bnd2 (yV n aA n 1) (fun aM=>(some 10)) (fun aN=>(cnd (decide (aA.Name=(⟨#[]⟩ : ByteArray))) (some 0) (bnd (f45 n aA.Name) fun aJ=>(cnd (aJ != 0) (some 14) (some 0)))))) (some 2))))) (some 1)))))))
theorem aYr (n : Nat) (aA : GEdit) (r : Int) (h : f46 n aA=some r) : pv PP T n 46 [(.agg (kD aA))]=some (iv r):=by
 cases n with
 | zero=>cases h
 | succ n =>
  rw [f46] at h
  rcases cn h with ⟨au,aB,h⟩ | ⟨au,aB,h⟩
  ·obtain rfl:=si h
   exact pv_q F46 (qa 6 aB<|q0) [] []
  rcases cn h with ⟨av,aC,h⟩ | ⟨av,aC,h⟩
  ·obtain rfl:=si h
   exact pv_q F46 (qa 10 aC<|qa 6 aB<|q0) [] []
  rcases cn h with ⟨aw,aD,h⟩ | ⟨aw,aD,h⟩
  rotate_left
  ·obtain ⟨ai,ax,h⟩:=kE h
   have aG:=aSs n aA.Kind _ ax
   obtain ⟨bV,aj,h⟩:=kE h
   rcases cn h with ⟨aY,ay,h⟩ | ⟨aY,ay,h⟩
   rotate_left
   ·have az:=by have q:=aJ7 n aA ai _ aj; rw [aY] at q; exact q
    obtain rfl:=si h
    exact pv_q F46 (qa 27 az<|qa 26 aG<|qa 15 aD<|qa 10 aC<|qa 6 aB<|q0) [] []
   have aK:=by have q:=aJ7 n aA ai _ aj; rw [aY] at q; exact q
   have aL:=kP (P:=PP) (cf:=evF PP T n) (fl:=0) (H:=[(.blk 10 [(kD aA)])]) (f:=false) (c:=kI) (l:=aA.Via)
   rcases cn h with ⟨bA,aH,h⟩ | ⟨bA,aH,h⟩
   ·obtain rfl:=si h
    exact pv_q F46 (qa 32 aH<|qb 31 aL<|qa 27 aK<|qa 26 aG<|qa 15 aD<|qa 10 aC<|qa 6 aB<|q0) [] []
   have aQ:=kP (P:=PP) (cf:=evF PP T n) (fl:=0) (H:=[(.blk 10 [(kD aA)])]) (f:=false) (c:=kL) (l:=aA.Parts)
   rcases cn h with ⟨bB,aM,h⟩ | ⟨bB,aM,h⟩
   ·obtain rfl:=si h
    exact pv_q F46 (qa 37 aM<|qb 36 aQ<|qa 32 aH<|qb 31 aL<|qa 27 aK<|qa 26 aG<|qa 15 aD<|qa 10 aC<|qa 6 aB<|q0) [] []
   obtain ⟨bW,ak,h⟩:=kE h
   rcases cn h with ⟨aZ,bC,h⟩ | ⟨aZ,bC,h⟩
   rotate_left
   ·have bD:=by have q:=aJ4 n aA _ ak; rw [aZ] at q; exact q
    obtain rfl:=si h
    exact pv_q F46 (qa 40 bD<|qa 37 aM<|qb 36 aQ<|qa 32 aH<|qb 31 aL<|qa 27 aK<|qa 26 aG<|qa 15 aD<|qa 10 aC<|qa 6 aB<|q0) [] []
   have aU:=by have q:=aJ4 n aA _ ak; rw [aZ] at q; exact q
   have aV : kV false 0 1 [(.blk 10 [(kD aA)])]:=trivial
   rcases kQ h with ⟨bX,aa,h⟩ | ⟨bY,aa,h⟩
   ·have aS:=tD n aA n 1 _ aa
    obtain rfl:=si h
    exact pv_q F46 (qp aS<|qp aV<|qa 40 aU<|qa 37 aM<|qb 36 aQ<|qa 32 aH<|qb 31 aL<|qa 27 aK<|qa 26 aG<|qa 15 aD<|qa 10 aC<|qa 6 aB<|q0) [(.ret,wR aA)] []
   have aS:=tD n aA n 1 _ aa
   rcases cn h with ⟨ab,bE,h⟩ | ⟨ab,bE,h⟩
   ·have bF:=lF (P:=PP) (cf:=evF PP T n) (fl:=0) (H:=[(.blk 10 [(kD aA)])]) (t:=9) ab
    obtain rfl:=si h
    exact pv_q F46 (qb 63 bF<|qp aS<|qp aV<|qa 40 aU<|qa 37 aM<|qb 36 aQ<|qa 32 aH<|qb 31 aL<|qa 27 aK<|qa 26 aG<|qa 15 aD<|qa 10 aC<|qa 6 aB<|q0) [((.exit 0),oY aA)] []
   have al:=lF (P:=PP) (cf:=evF PP T n) (fl:=0) (H:=[(.blk 10 [(kD aA)])]) (t:=9) ab
   obtain ⟨bZ,bG,h⟩:=kE h
   have am:=aO3 n aA.Name _ bG
   rcases cn h with ⟨bH,ac,h⟩ | ⟨bH,ac,h⟩
   ·obtain rfl:=si h
    exact pv_q F46 (qa 68 ac<|qa 67 am<|qb 63 al<|qp aS<|qp aV<|qa 40 aU<|qa 37 aM<|qb 36 aQ<|qa 32 aH<|qb 31 aL<|qa 27 aK<|qa 26 aG<|qa 15 aD<|qa 10 aC<|qa 6 aB<|q0) [((.exit 0),oY aA)] []
   obtain rfl:=si h
   exact pv_q F46 (qa 68 ac<|qa 67 am<|qb 63 al<|qp aS<|qp aV<|qa 40 aU<|qa 37 aM<|qb 36 aQ<|qa 32 aH<|qb 31 aL<|qa 27 aK<|qa 26 aG<|qa 15 aD<|qa 10 aC<|qa 6 aB<|q0) [((.exit 0),oY aA)] []
  obtain ⟨ba,bI,h⟩:=kE h
  have aF:=aX2 n aA.A _ bI
  rcases cn h with ⟨bJ,aE,h⟩ | ⟨bJ,aE,h⟩
  ·obtain rfl:=si h
   exact pv_q F46 (qa 20 aE<|qa 19 aF<|qa 15 aD<|qa 10 aC<|qa 6 aB<|q0) [] []
  obtain ⟨an,bK,h⟩:=kE h
  have aI:=aSs n aA.Kind _ bK
  obtain ⟨bb,ao,h⟩:=kE h
  rcases cn h with ⟨ad,bL,h⟩ | ⟨ad,bL,h⟩
  rotate_left
  ·have bM:=by have q:=aJ7 n aA an _ ao; rw [ad] at q; exact q
   obtain rfl:=si h
   exact pv_q F46 (qa 27 bM<|qa 26 aI<|qa 20 aE<|qa 19 aF<|qa 15 aD<|qa 10 aC<|qa 6 aB<|q0) [] []
  have aN:=by have q:=aJ7 n aA an _ ao; rw [ad] at q; exact q
  have aO:=kP (P:=PP) (cf:=evF PP T n) (fl:=0) (H:=[(.blk 10 [(kD aA)])]) (f:=false) (c:=kI) (l:=aA.Via)
  rcases cn h with ⟨bN,aJ,h⟩ | ⟨bN,aJ,h⟩
  ·obtain rfl:=si h
   exact pv_q F46 (qa 32 aJ<|qb 31 aO<|qa 27 aN<|qa 26 aI<|qa 20 aE<|qa 19 aF<|qa 15 aD<|qa 10 aC<|qa 6 aB<|q0) [] []
  have aR:=kP (P:=PP) (cf:=evF PP T n) (fl:=0) (H:=[(.blk 10 [(kD aA)])]) (f:=false) (c:=kL) (l:=aA.Parts)
  rcases cn h with ⟨bO,aP,h⟩ | ⟨bO,aP,h⟩
  ·obtain rfl:=si h
   exact pv_q F46 (qa 37 aP<|qb 36 aR<|qa 32 aJ<|qb 31 aO<|qa 27 aN<|qa 26 aI<|qa 20 aE<|qa 19 aF<|qa 15 aD<|qa 10 aC<|qa 6 aB<|q0) [] []
  obtain ⟨bc,ap,h⟩:=kE h
  rcases cn h with ⟨ae,bP,h⟩ | ⟨ae,bP,h⟩
  rotate_left
  ·have bQ:=by have q:=aJ4 n aA _ ap; rw [ae] at q; exact q
   obtain rfl:=si h
   exact pv_q F46 (qa 40 bQ<|qa 37 aP<|qb 36 aR<|qa 32 aJ<|qb 31 aO<|qa 27 aN<|qa 26 aI<|qa 20 aE<|qa 19 aF<|qa 15 aD<|qa 10 aC<|qa 6 aB<|q0) [] []
  have aW:=by have q:=aJ4 n aA _ ap; rw [ae] at q; exact q
  have aX : kV false 0 1 [(.blk 10 [(kD aA)])]:=trivial
  rcases kQ h with ⟨bd,af,h⟩ | ⟨be,af,h⟩
  ·have aT:=tD n aA n 1 _ af
   obtain rfl:=si h
   exact pv_q F46 (qp aT<|qp aX<|qa 40 aW<|qa 37 aP<|qb 36 aR<|qa 32 aJ<|qb 31 aO<|qa 27 aN<|qa 26 aI<|qa 20 aE<|qa 19 aF<|qa 15 aD<|qa 10 aC<|qa 6 aB<|q0) [(.ret,wR aA)] []
  have aT:=tD n aA n 1 _ af
  rcases cn h with ⟨ag,bR,h⟩ | ⟨ag,bR,h⟩
  ·have bS:=lF (P:=PP) (cf:=evF PP T n) (fl:=0) (H:=[(.blk 10 [(kD aA)])]) (t:=9) ag
   obtain rfl:=si h
   exact pv_q F46 (qb 63 bS<|qp aT<|qp aX<|qa 40 aW<|qa 37 aP<|qb 36 aR<|qa 32 aJ<|qb 31 aO<|qa 27 aN<|qa 26 aI<|qa 20 aE<|qa 19 aF<|qa 15 aD<|qa 10 aC<|qa 6 aB<|q0) [((.exit 0),oY aA)] []
  have aq:=lF (P:=PP) (cf:=evF PP T n) (fl:=0) (H:=[(.blk 10 [(kD aA)])]) (t:=9) ag
  obtain ⟨bg,bT,h⟩:=kE h
  have ar:=aO3 n aA.Name _ bT
  rcases cn h with ⟨bU,ah,h⟩ | ⟨bU,ah,h⟩
  ·obtain rfl:=si h
   exact pv_q F46 (qa 68 ah<|qa 67 ar<|qb 63 aq<|qp aT<|qp aX<|qa 40 aW<|qa 37 aP<|qb 36 aR<|qa 32 aJ<|qb 31 aO<|qa 27 aN<|qa 26 aI<|qa 20 aE<|qa 19 aF<|qa 15 aD<|qa 10 aC<|qa 6 aB<|q0) [((.exit 0),oY aA)] []
  obtain rfl:=si h
  exact pv_q F46 (qa 68 ah<|qa 67 ar<|qb 63 aq<|qp aT<|qp aX<|qa 40 aW<|qa 37 aP<|qb 36 aR<|qa 32 aJ<|qb 31 aO<|qa 27 aN<|qa 26 aI<|qa 20 aE<|qa 19 aF<|qa 15 aD<|qa 10 aC<|qa 6 aB<|q0) [((.exit 0),oY aA)] []
def aKn (aA : GTxn) (aB : Int) : St:=⟨[U,(.ptr 0 1 0 0),U,U,(iv aB),U,U,U,U,U,U,U,U,U,U,U,U,U,U,U,U,U,U,U,U,U,U,U,U,U,U,U,U,U,U,U,U,U,U,U,U,U,U,U,U,U,U,U,U,U,U,U,U,U,U,U,U,U,U,U,U,U,U,U,U,U,U,U,U],[(.blk 5 [(kF aA)])]⟩
def wU (aA : GTxn) (aB : Int) : St:=⟨[U,U,(iv aB),U,U,U,U,U,U,U,U,U,U,U,U,U,U,U,U,U,U,U,U,U,U,U,U,U,U,U,U,U,U,U,U,U,U,U,U,U,U,U,U,U,U,U,U,U,U,U,U,U,U,U,U,U,U,U,U,U,U,U,U,U,U,U,U,U,U],[(.blk 5 [(kF aA)])]⟩
def wT (aA : GTxn) : St:=⟨[U,U,U,U,U,U,U,U,U,U,U,U,U,U,U,U,U,U,U,U,U,U,U,U,U,U,U,U,U,U,U,U,U,U,U,U,U,U,U,U,U,U,U,U,U,U,U,U,U,U,U,U,U,U,U,U,U,U,U,U,U,U,U,U,U,U,U,U,U],[(.blk 5 [(kF aA)])]⟩
def uT (n : Nat) (aA : GTxn) : Nat→Int→Option (Int ⊕ Unit)
 | 0,_=>none
 | m + 1,aB=>(cnd (decide (aB < ((aA.Edits.length : Nat) : Int))) (bnd (idx aA.Edits aB) fun aD=>(bnd (f46 n aD) fun aC=>(cnd (aC != 0) (some (Sum.inl aC)) (uT n aA m (IntKind.i64.wrap (aB + 1)))))) (some (Sum.inr ())))
theorem tG (n : Nat) (aA : GTxn) : ∀ (m : Nat) (aB : Int) (r : (Int ⊕ Unit)),uT n aA m aB=some r→lT [] [false,false,true] false 0 1 (kW (kY (some lv33) false 0 1) (evC PP (evF PP T n) n 0 bB2) m (aKn aA aB))=(match r with | .inl r=>some (.ret,wU aA r) | .inr r=>some ((.exit 0),wT aA))
 | 0,_,_,h=>by cases h
 | m + 1,aB,r,h=>by
  rw [uT] at h
  have aD:=kP (P:=PP) (cf:=evF PP T n) (fl:=0) (H:=[(.blk 5 [(kF aA)])]) (f:=false) (c:=kD) (l:=aA.Edits)
  rcases cn h with ⟨aH,aC,h⟩ | ⟨aH,aC,h⟩
  rotate_left
  ·obtain rfl:=si h
   exact kX (some lv33) false (wT aA) (qa 57 aC<|qb 56 aD<|q0) [] [] trivial
  obtain ⟨aI,aJ,h⟩:=kE h
  have aF:=idxl (H:=[(.blk 5 [(kF aA)])]) (f:=false) (c:=kD) aJ (lP _)
  obtain ⟨aK,aL,h⟩:=kE h
  have aG:=aYr n aI _ aL
  rcases cn h with ⟨aM,aE,h⟩ | ⟨aM,aE,h⟩
  ·obtain rfl:=si h
   exact kX (some lv33) false (wU aA aK) (qa 67 aE<|qa 65 aG<|qa 63 aF<|qa 57 aC<|qb 56 aD<|q0) [] [] trivial
  exact nx_q (aKn aA (IntKind.i64.wrap (aB + 1))) (qa 67 aE<|qa 65 aG<|qa 63 aF<|qa 57 aC<|qb 56 aD<|q0) [] [] trivial (tG n aA m (IntKind.i64.wrap (aB + 1)) r h)
def f26 : Nat→GTxn→Option Int
 | 0,_=>none
 | n + 1,aA=>(cnd (decide (aA.Office < 1)) (some 2) (cnd (decide (aA.Office > 8)) (some 2) (cnd (decide (aA.Seq < 1)) (some 2) (cnd (decide (aA.Seq > 1073741824)) (some 2) (cnd (decide (aA.Time < 0)) (some 2) (cnd (decide (aA.Time > 1073741824)) (some 2) (cnd (decide (aA.Source=(⟨#[]⟩ : ByteArray))) (cnd (decide (((aA.Edits.length : Nat) : Int) < 1)) (some 3) (cnd (decide (((aA.Edits.length : Nat) : Int) > 64)) (some 3) (bnd2 (uT n aA n 0) (fun aC=>(some aC)) (fun aE=>(some 0))))) (bnd (f45 n aA.Source) fun aB=>(cnd (aB != 0) (some aB) (cnd (decide (((aA.Edits.length : Nat) : Int) < 1)) (some 3) (cnd (decide (((aA.Edits.length : Nat) : Int) > 64)) (some 3) (bnd2 (uT n aA n 0) (fun aD=>(some aD)) (fun aF=>(some 0))))))))))))))
theorem aS3 (n : Nat) (aA : GTxn) (r : Int) (h : f26 n aA=some r) : pv PP T n 26 [(.agg (kF aA))]=some (iv r):=by
 cases n with
 | zero=>cases h
 | succ n =>
  rw [f26] at h
  rcases cn h with ⟨aa,aB,h⟩ | ⟨aa,aB,h⟩
  ·obtain rfl:=si h
   exact pv_q F26 (qa 8 aB<|q0) [] []
  rcases cn h with ⟨ab,aC,h⟩ | ⟨ab,aC,h⟩
  ·obtain rfl:=si h
   exact pv_q F26 (qa 12 aC<|qa 8 aB<|q0) [] []
  rcases cn h with ⟨ac,aD,h⟩ | ⟨ac,aD,h⟩
  ·obtain rfl:=si h
   exact pv_q F26 (qa 17 aD<|qa 12 aC<|qa 8 aB<|q0) [] []
  rcases cn h with ⟨ad,aE,h⟩ | ⟨ad,aE,h⟩
  ·obtain rfl:=si h
   exact pv_q F26 (qa 22 aE<|qa 17 aD<|qa 12 aC<|qa 8 aB<|q0) [] []
  rcases cn h with ⟨ae,aF,h⟩ | ⟨ae,aF,h⟩
  ·obtain rfl:=si h
   exact pv_q F26 (qa 27 aF<|qa 22 aE<|qa 17 aD<|qa 12 aC<|qa 8 aB<|q0) [] []
  rcases cn h with ⟨af,aG,h⟩ | ⟨af,aG,h⟩
  ·obtain rfl:=si h
   exact pv_q F26 (qa 32 aG<|qa 27 aF<|qa 22 aE<|qa 17 aD<|qa 12 aC<|qa 8 aB<|q0) [] []
  rcases cn h with ⟨aR,ag,h⟩ | ⟨aR,ag,h⟩
  ·have aM:=lF (P:=PP) (cf:=evF PP T n) (fl:=0) (H:=[(.blk 5 [(kF aA)])]) (t:=9) aR
   have aN:=kP (P:=PP) (cf:=evF PP T n) (fl:=0) (H:=[(.blk 5 [(kF aA)])]) (f:=false) (c:=kD) (l:=aA.Edits)
   rcases cn h with ⟨ah,aI,h⟩ | ⟨ah,aI,h⟩
   ·obtain rfl:=si h
    exact pv_q F26 (qa 46 aI<|qb 45 aN<|qb 36 aM<|qa 32 aG<|qa 27 aF<|qa 22 aE<|qa 17 aD<|qa 12 aC<|qa 8 aB<|q0) [] []
   have aS:=kP (P:=PP) (cf:=evF PP T n) (fl:=0) (H:=[(.blk 5 [(kF aA)])]) (f:=false) (c:=kD) (l:=aA.Edits)
   rcases cn h with ⟨ai,aO,h⟩ | ⟨ai,aO,h⟩
   ·obtain rfl:=si h
    exact pv_q F26 (qa 51 aO<|qb 50 aS<|qa 46 aI<|qb 45 aN<|qb 36 aM<|qa 32 aG<|qa 27 aF<|qa 22 aE<|qa 17 aD<|qa 12 aC<|qa 8 aB<|q0) [] []
   have aY : kV false 0 1 [(.blk 5 [(kF aA)])]:=trivial
   rcases kQ h with ⟨aj,aT,h⟩ | ⟨ap,aT,h⟩
   rotate_left
   ·have aU:=tG n aA n 0 _ aT
    obtain rfl:=si h
    exact pv_q F26 (qp aU<|qp aY<|qa 51 aO<|qb 50 aS<|qa 46 aI<|qb 45 aN<|qb 36 aM<|qa 32 aG<|qa 27 aF<|qa 22 aE<|qa 17 aD<|qa 12 aC<|qa 8 aB<|q0) [((.exit 0),wT aA)] []
   have aU:=tG n aA n 0 _ aT
   obtain rfl:=si h
   exact pv_q F26 (qp aU<|qp aY<|qa 51 aO<|qb 50 aS<|qa 46 aI<|qb 45 aN<|qb 36 aM<|qa 32 aG<|qa 27 aF<|qa 22 aE<|qa 17 aD<|qa 12 aC<|qa 8 aB<|q0) [(.ret,wU aA aj)] []
  have aJ:=lF (P:=PP) (cf:=evF PP T n) (fl:=0) (H:=[(.blk 5 [(kF aA)])]) (t:=9) aR
  obtain ⟨aq,ak,h⟩:=kE h
  have aK:=aO3 n aA.Source _ ak
  rcases cn h with ⟨al,aH,h⟩ | ⟨al,aH,h⟩
  ·obtain rfl:=si h
   exact pv_q F26 (qa 41 aH<|qa 39 aK<|qb 36 aJ<|qa 32 aG<|qa 27 aF<|qa 22 aE<|qa 17 aD<|qa 12 aC<|qa 8 aB<|q0) [] []
  have aP:=kP (P:=PP) (cf:=evF PP T n) (fl:=0) (H:=[(.blk 5 [(kF aA)])]) (f:=false) (c:=kD) (l:=aA.Edits)
  rcases cn h with ⟨am,aL,h⟩ | ⟨am,aL,h⟩
  ·obtain rfl:=si h
   exact pv_q F26 (qa 46 aL<|qb 45 aP<|qa 41 aH<|qa 39 aK<|qb 36 aJ<|qa 32 aG<|qa 27 aF<|qa 22 aE<|qa 17 aD<|qa 12 aC<|qa 8 aB<|q0) [] []
  have aV:=kP (P:=PP) (cf:=evF PP T n) (fl:=0) (H:=[(.blk 5 [(kF aA)])]) (f:=false) (c:=kD) (l:=aA.Edits)
  rcases cn h with ⟨an,aQ,h⟩ | ⟨an,aQ,h⟩
  ·obtain rfl:=si h
   exact pv_q F26 (qa 51 aQ<|qb 50 aV<|qa 46 aL<|qb 45 aP<|qa 41 aH<|qa 39 aK<|qb 36 aJ<|qa 32 aG<|qa 27 aF<|qa 22 aE<|qa 17 aD<|qa 12 aC<|qa 8 aB<|q0) [] []
  have aZ : kV false 0 1 [(.blk 5 [(kF aA)])]:=trivial
  rcases kQ h with ⟨ao,aW,h⟩ | ⟨ar,aW,h⟩
  rotate_left
  ·have aX:=tG n aA n 0 _ aW
   obtain rfl:=si h
   exact pv_q F26 (qp aX<|qp aZ<|qa 51 aQ<|qb 50 aV<|qa 46 aL<|qb 45 aP<|qa 41 aH<|qa 39 aK<|qb 36 aJ<|qa 32 aG<|qa 27 aF<|qa 22 aE<|qa 17 aD<|qa 12 aC<|qa 8 aB<|q0) [((.exit 0),wT aA)] []
  have aX:=tG n aA n 0 _ aW
  obtain rfl:=si h
  exact pv_q F26 (qp aX<|qp aZ<|qa 51 aQ<|qb 50 aV<|qa 46 aL<|qb 45 aP<|qa 41 aH<|qa 39 aK<|qb 36 aJ<|qa 32 aG<|qa 27 aF<|qa 22 aE<|qa 17 aD<|qa 12 aC<|qa 8 aB<|q0) [(.ret,wU aA ao)] []
def f44 : Nat→GTxn→GTxn→Option Bool
 | 0,_,_=>none
 | n + 1,aA,aB=>(cnd (aA.Time != aB.Time) (cnd (decide (aA.Time < aB.Time)) (some true) (some false)) (cnd (aA.Office != aB.Office) (cnd (decide (aA.Office < aB.Office)) (some true) (some false)) (cnd (decide (aA.Seq < aB.Seq)) (some true) (some false))))
end Go.Proofs.YtkdnaejhpcibnaaGreatDoor.Av
