/- A part of the proofs of laws of the chapter office: an evaluator of the program, proved sound, and what it says. -/
import Derived.Test.YtkdnaejhpcibnaaGreatDoorVoTl3
import Derived.Test.YtkdnaejhpcibnaaGreatDoorVoM0
import Derived.Test.YtkdnaejhpcibnaaGreatDoorVoTchk
import Derived.Test.YtkdnaejhpcibnaaGreatDoorAvStr
import Derived.Shelf.Strings.Search3
import Derived.Shelf.Vars
import Derived.Test.YtkdnaejhpcibnaaGreatDoorInsB
import Derived.Handed
import Derived.OpenShut
import Derived.Test.YtkdnaejhpcibnaaGreatDoorRows
import Derived.Test.YtkdnaejhpcibnaaGreatDoorTie
import Derived.Test.YtkdnaejhpcibnaaGreatDoorCards
import Derived.ChangeSame
import Derived.ChangeVars
import Derived.JoinedOf
import Derived.LaidLaws
import Derived.Lay
import Derived.MakeChecks
import Derived.Stop.Joined
import Derived.SevenTiedAt
import Derived.IntWalk
set_option linter.unusedVariables false
set_option linter.unusedSimpArgs false
namespace Go.Proofs.YtkdnaejhpcibnaaGreatDoor.Av
open Go
def f5 (n : Nat) : Option Bool:=if 10000 ≤ n then some true else none
theorem f5_ok (n : Nat) (r : Bool) (h : f5 n = some r) : pv PP T n 5 [] = some (.lit (.bool r)):=by
 unfold f5 at h
 split at h
 ·rename_i hn; cases h; exact pv_mono hn awake_pv5
 ·cases h
def f0 : Nat → GOffice → Int → ByteArray → (List GEdit) → Option Bool
 | 0,_,_,_,_ => none
 | n + 1,aA,aD,aB,aC => (bnd (f3 n aA.Txns) fun aI => (cnd (aI) (bnd (f4 n aC) fun aJ => (cnd (aJ) (cnd (decide (((aB.size : Nat) : Int) > 100)) (bnd (f5 n ) fun aK => (cnd (aK) (some true) (some false))) (bnd (f6 n aA aD aB aC) fun aE => (bnd (f7 n aA aD aB aC) fun aF => (bnd (f8 n aA.ID) fun aG => (bnd (f9 n aA.ID) fun aH => (bnd (f5 n ) fun aL => (cnd (aL) (bnd (f10 n aE.1 aF.1) fun aM => (cnd (aM) (cnd (aE.2 == aF.2) (bnd (f10 n aG.1 aH.1) fun aN => (cnd (aN) (cnd (aG.2 == aH.2) (some true) (some false)) (some false))) (some false)) (some false))) (some false)))))))) (bnd (f5 n ) fun aO => (cnd (aO) (some true) (some false))))) (bnd (f5 n ) fun aP => (cnd (aP) (some true) (some false)))))
def f29_L0 (n : Nat) (aB : (List GTxn)) (aC : Int) (aD : Int) : Nat → Int → Option (Int ⊕ Unit)
 | 0,_ => none
 | m + 1,aA => (cnd (decide (aA < ((aB.length : Nat) : Int))) (bnd (idx aB aA) fun aE => (cnd (aE.Office == aC) (cnd (aE.Seq == aD) (some (Sum.inl aA)) (f29_L0 n aB aC aD m (IntKind.i64.wrap (aA + 1)))) (f29_L0 n aB aC aD m (IntKind.i64.wrap (aA + 1))))) (some (Sum.inr ())))
def f29 : Nat → (List GTxn) → Int → Int → Option Int
 | 0,_,_,_ => none
 | n + 1,aA,aB,aC => (bnd2 (f29_L0 n aA aB aC n 0) (fun aD => (some aD)) (fun aE => (some (-1))))
def f12_L0 (n : Nat) (aC : (List GTxn)) (aE : GOffice) : Nat → (List GTxn) → Int → Option (((List GTxn) × Int) ⊕ (List GTxn))
 | 0,_,_ => none
 | m + 1,aA,aD => (cnd (decide (aD < ((aC.length : Nat) : Int))) (bnd (idx aC aD) fun aB => (bnd (f26 n aB) fun aF => (cnd (aF != 0) (some (Sum.inl (aA,aF))) (bnd (f29 n aA aB.Office aB.Seq) fun aG => (cnd (decide (aG ≥ 0)) (bnd (idx aA aG) fun aH => (bnd (f17 n aH aB) fun aI => (cnd (aI) (f12_L0 n aC aE m aA (IntKind.i64.wrap (aD + 1))) (some (Sum.inl (aA,16)))))) (cnd (decide (((aA.length : Nat) : Int) ≥ 256)) (some (Sum.inl (aA,3))) (bnd (f27 n aA aB) fun aJ => (f12_L0 n aC aE m aJ (IntKind.i64.wrap (aD + 1)))))))))) (some (Sum.inr aA)))
def f12 : Nat → GOffice → (List GTxn) → Option (GOffice × Int)
 | 0,_,_ => none
 | n + 1,aA,aB => (bnd (f25 n aA) fun aC => (cnd (aC) (bnd (app ([] : List GTxn) aA.Txns) fun aD => (bnd2 (f12_L0 n aB aA n aD 0) (fun aE => (some ((GOffice.mk 0 []),aE.2))) (fun aF => (some ((GOffice.mk aA.ID aF),0))))) (some ((GOffice.mk 0 []),19))))
def f79 : Nat → GClock → Int → Option Int
 | 0,_,_ => none
 | n + 1,aB,aA => (cnd (decide (aA < 1)) (some 0) (cnd (decide (aA > 8)) (some 0) (cnd (decide (aA > ((aB.Counts.length : Nat) : Int))) (some 0) (bnd (idx aB.Counts (IntKind.i64.wrap (aA - 1))) fun aC => (some (imax 0 aC))))))
def f53 : Nat → GClock → Int → Int → Option Bool
 | 0,_,_,_ => none
 | n + 1,aB,aC,aA => (cnd (decide (aA ≥ 1)) (bnd (f79 n aB aC) fun aD => (cnd (decide (aA ≤ aD)) (some true) (some false))) (some false))
def f31_L0 (n : Nat) (aA : (List GTxn)) (aC : GClock) : Nat → (List GTxn) → Int → Option (List GTxn)
 | 0,_,_ => none
 | m + 1,aD,aB => (cnd (decide (aB < ((aA.length : Nat) : Int))) (bnd (idx aA aB) fun aE => (bnd (f53 n aC aE.Office aE.Seq) fun aF => (cnd (aF) (f31_L0 n aA aC m aD (IntKind.i64.wrap (aB + 1))) (bnd (app aD [aE]) fun aG => (f31_L0 n aA aC m aG (IntKind.i64.wrap (aB + 1))))))) (some aD))
def f31 : Nat → GClock → (List GTxn) → Option (List GTxn)
 | 0,_,_ => none
 | n + 1,aA,aB => (bnd (f31_L0 n aB aA n [] 0) fun aC => (some aC))
def f14 : Nat → GOffice → GClock → Option (List GTxn)
 | 0,_,_ => none
 | n + 1,aA,aB => (bnd (f31 n aB aA.Txns) fun aC => (some aC))
def f1 : Nat → GOffice → (List GTxn) → GClock → Option Bool
 | 0,_,_,_ => none
 | n + 1,aA,aB,aC => (bnd (f3 n aA.Txns) fun aF => (cnd (aF) (bnd (f3 n aB) fun aG => (cnd (aG) (cnd (decide (((aC.Counts.length : Nat) : Int) > 20)) (bnd (f5 n ) fun aH => (cnd (aH) (some true) (some false))) (bnd (f11 n aA aB) fun aD => (bnd (f12 n aA aB) fun aE => (bnd (f5 n ) fun aI => (cnd (aI) (bnd (f10 n aD.1 aE.1) fun aJ => (cnd (aJ) (cnd (aD.2 == aE.2) (bnd (f13 n aA aC) fun aK => (bnd (f14 n aA aC) fun aL => (bnd (f15 n aK aL) fun aM => (cnd (aM) (some true) (some false))))) (some false)) (some false))) (some false)))))) (bnd (f5 n ) fun aN => (cnd (aN) (some true) (some false))))) (bnd (f5 n ) fun aO => (cnd (aO) (some true) (some false)))))
abbrev hp91 (a7234 : GOffice) (a7235 : GOffice) : Heap:=[(.blk 2 [[(iv a7234.ID),(.sl false (List.map c_GTxn a7234.Txns))]]),(.blk 2 [[(iv a7235.ID),(.sl false (List.map c_GTxn a7235.Txns))]])]
abbrev hp92 (a7234 : GOffice) (a7235 : GOffice) (v7268 : (GOffice × Int)) (v7277 : (GOffice × Int)) : Heap:=[(.blk 2 [[(iv a7234.ID),(.sl false (List.map c_GTxn a7234.Txns))]]),(.blk 2 [[(iv a7235.ID),(.sl false (List.map c_GTxn a7235.Txns))]]),(.blk 2 [[(iv v7268.1.ID),(.sl false (List.map c_GTxn v7268.1.Txns))]]),(.blk 2 [[(iv v7277.1.ID),(.sl false (List.map c_GTxn v7277.1.Txns))]])]
def f2_L0_S (aA : GOffice) (aB : GOffice) (aC : (GOffice × Int)) (aD : (GOffice × Int)) (aE : Int) : St:=⟨[U,U,(.ptr 0 1 0 0),(.ptr 1 1 0 0),U,(.ptr 2 1 0 0),U,(.ptr 3 1 0 0),U,(iv aE),U,U,U,U,U,U,U,U,U,U,U,U,U,U,U,U,U,U,U,U,U,U,U,U,U,U,U,U,U,U,U,U,U,U,U,U,U,U,U,U,U,U,U,U,U,U,U,U,U,U,U,U,U,U,U,U,U,U,U,U,U,U,U,U,U,U,U,U,U,U,U,U,U,U,U,U,U,U,U,U,U,U,U,U,U,U,U,U,U,U,U,U,U,U,U,U,U,U,U,U,U,U,U,U,U,U,U,U,U,U,U,U,U,U,U,U,U,U,U,U,U,U,U,U,U,U],[(.blk 2 [[(iv aA.ID),(.sl false (List.map c_GTxn aA.Txns))]]),(.blk 2 [[(iv aB.ID),(.sl false (List.map c_GTxn aB.Txns))]]),(.blk 2 [[(iv aC.1.ID),(.sl false (List.map c_GTxn aC.1.Txns))]]),(.blk 2 [[(iv aD.1.ID),(.sl false (List.map c_GTxn aD.1.Txns))]])]⟩
def f2_L0_E0 (aA : GOffice) (aB : GOffice) (aC : (GOffice × Int)) (aD : (GOffice × Int)) (aE : Bool) : St:=⟨[U,U,U,U,(bv aE),U,U,U,U,U,U,U,U,U,U,U,U,U,U,U,U,U,U,U,U,U,U,U,U,U,U,U,U,U,U,U,U,U,U,U,U,U,U,U,U,U,U,U,U,U,U,U,U,U,U,U,U,U,U,U,U,U,U,U,U,U,U,U,U,U,U,U,U,U,U,U,U,U,U,U,U,U,U,U,U,U,U,U,U,U,U,U,U,U,U,U,U,U,U,U,U,U,U,U,U,U,U,U,U,U,U,U,U,U,U,U,U,U,U,U,U,U,U,U,U,U,U,U,U,U,U,U,U,U,U,U],[(.blk 2 [[(iv aA.ID),(.sl false (List.map c_GTxn aA.Txns))]]),(.blk 2 [[(iv aB.ID),(.sl false (List.map c_GTxn aB.Txns))]]),(.blk 2 [[(iv aC.1.ID),(.sl false (List.map c_GTxn aC.1.Txns))]]),(.blk 2 [[(iv aD.1.ID),(.sl false (List.map c_GTxn aD.1.Txns))]])]⟩
def f2_L0_E1 (aA : GOffice) (aB : GOffice) (aC : (GOffice × Int)) (aD : (GOffice × Int)) : St:=⟨[U,U,U,U,U,(.ptr 2 1 0 0),U,(.ptr 3 1 0 0),U,U,U,U,U,U,U,U,U,U,U,U,U,U,U,U,U,U,U,U,U,U,U,U,U,U,U,U,U,U,U,U,U,U,U,U,U,U,U,U,U,U,U,U,U,U,U,U,U,U,U,U,U,U,U,U,U,U,U,U,U,U,U,U,U,U,U,U,U,U,U,U,U,U,U,U,U,U,U,U,U,U,U,U,U,U,U,U,U,U,U,U,U,U,U,U,U,U,U,U,U,U,U,U,U,U,U,U,U,U,U,U,U,U,U,U,U,U,U,U,U,U,U,U,U,U,U,U],[(.blk 2 [[(iv aA.ID),(.sl false (List.map c_GTxn aA.Txns))]]),(.blk 2 [[(iv aB.ID),(.sl false (List.map c_GTxn aB.Txns))]]),(.blk 2 [[(iv aC.1.ID),(.sl false (List.map c_GTxn aC.1.Txns))]]),(.blk 2 [[(iv aD.1.ID),(.sl false (List.map c_GTxn aD.1.Txns))]])]⟩
def f2_L1_S (aE : Int) (aA : GOffice) (aB : GOffice) (aC : (GOffice × Int)) (aD : (GOffice × Int)) (aF : Int) : St:=⟨[U,U,(.ptr 0 1 0 0),(.ptr 1 1 0 0),U,(.ptr 2 1 0 0),U,(.ptr 3 1 0 0),U,(iv aE),(iv aF),U,U,U,U,U,U,U,U,U,U,U,U,U,U,U,U,U,U,U,U,U,U,U,U,U,U,U,U,U,U,U,U,U,U,U,U,U,U,U,U,U,U,U,U,U,U,U,U,U,U,U,U,U,U,U,U,U,U,U,U,U,U,U,U,U,U,U,U,U,U,U,U,U,U,U,U,U,U,U,U,U,U,U,U,U,U,U,U,U,U,U,U,U,U,U,U,U,U,U,U,U,U,U,U,U,U,U,U,U,U,U,U,U,U,U,U,U,U,U,U,U,U,U,U,U],[(.blk 2 [[(iv aA.ID),(.sl false (List.map c_GTxn aA.Txns))]]),(.blk 2 [[(iv aB.ID),(.sl false (List.map c_GTxn aB.Txns))]]),(.blk 2 [[(iv aC.1.ID),(.sl false (List.map c_GTxn aC.1.Txns))]]),(.blk 2 [[(iv aD.1.ID),(.sl false (List.map c_GTxn aD.1.Txns))]])]⟩
def f2_L1_E0 (aF : Int) (aA : GOffice) (aB : GOffice) (aC : (GOffice × Int)) (aD : (GOffice × Int)) (aE : Bool) : St:=⟨[U,U,U,U,(bv aE),U,U,U,U,U,U,U,U,U,U,U,U,U,U,U,U,U,U,U,U,U,U,U,U,U,U,U,U,U,U,U,U,U,U,U,U,U,U,U,U,U,U,U,U,U,U,U,U,U,U,U,U,U,U,U,U,U,U,U,U,U,U,U,U,U,U,U,U,U,U,U,U,U,U,U,U,U,U,U,U,U,U,U,U,U,U,U,U,U,U,U,U,U,U,U,U,U,U,U,U,U,U,U,U,U,U,U,U,U,U,U,U,U,U,U,U,U,U,U,U,U,U,U,U,U,U,U,U,U,U,U],[(.blk 2 [[(iv aA.ID),(.sl false (List.map c_GTxn aA.Txns))]]),(.blk 2 [[(iv aB.ID),(.sl false (List.map c_GTxn aB.Txns))]]),(.blk 2 [[(iv aC.1.ID),(.sl false (List.map c_GTxn aC.1.Txns))]]),(.blk 2 [[(iv aD.1.ID),(.sl false (List.map c_GTxn aD.1.Txns))]])]⟩
def f2_L1_E1 (aE : Int) (aA : GOffice) (aB : GOffice) (aC : (GOffice × Int)) (aD : (GOffice × Int)) : St:=⟨[U,U,(.ptr 0 1 0 0),(.ptr 1 1 0 0),U,(.ptr 2 1 0 0),U,(.ptr 3 1 0 0),U,(iv aE),U,U,U,U,U,U,U,U,U,U,U,U,U,U,U,U,U,U,U,U,U,U,U,U,U,U,U,U,U,U,U,U,U,U,U,U,U,U,U,U,U,U,U,U,U,U,U,U,U,U,U,U,U,U,U,U,U,U,U,U,U,U,U,U,U,U,U,U,U,U,U,U,U,U,U,U,U,U,U,U,U,U,U,U,U,U,U,U,U,U,U,U,U,U,U,U,U,U,U,U,U,U,U,U,U,U,U,U,U,U,U,U,U,U,U,U,U,U,U,U,U,U,U,U,U,U],[(.blk 2 [[(iv aA.ID),(.sl false (List.map c_GTxn aA.Txns))]]),(.blk 2 [[(iv aB.ID),(.sl false (List.map c_GTxn aB.Txns))]]),(.blk 2 [[(iv aC.1.ID),(.sl false (List.map c_GTxn aC.1.Txns))]]),(.blk 2 [[(iv aD.1.ID),(.sl false (List.map c_GTxn aD.1.Txns))]])]⟩
def f2_L1 (n : Nat) (aC : Int) (aD : GOffice) (aA : GOffice) (aE : (GOffice × Int)) (aF : (GOffice × Int)) : Nat → Int → Option (Bool ⊕ Unit)
 | 0,_ => none
 | m + 1,aB => (cnd (decide (aB < ((aA.Txns.length : Nat) : Int))) (bnd (idx aD.Txns aC) fun aG => (bnd (idx aA.Txns aB) fun aH => (cnd (aG.Office == aH.Office) (cnd (aG.Seq == aH.Seq) (bnd (f17 n aG aH) fun aI => (cnd (aI) (f2_L1 n aC aD aA aE aF m (IntKind.i64.wrap (aB + 1))) (bnd (f5 n ) fun aJ => (cnd (aJ) (some (Sum.inl true)) (some (Sum.inl false)))))) (f2_L1 n aC aD aA aE aF m (IntKind.i64.wrap (aB + 1)))) (f2_L1 n aC aD aA aE aF m (IntKind.i64.wrap (aB + 1)))))) (some (Sum.inr ())))
theorem f2_L1_ok (n : Nat) (aE : Int) (aB : GOffice) (aA : GOffice) (aC : (GOffice × Int)) (aD : (GOffice × Int)) : ∀ (m : Nat) (aF : Int) (r : (Bool ⊕ Unit)),f2_L1 n aE aB aA aC aD m aF = some r → maskR lv44 lv1 false 0 4 (evLoopH (headSt (some lv46) false 0 4) (evC PP (evF PP T n) n 0 L2_1) m (f2_L1_S aE aB aA aC aD aF)) = (match r with | .inl r => some (.ret,f2_L1_E0 aE aB aA aC aD r) | .inr r => some ((.exit 2),f2_L1_E1 aE aB aA aC aD))
 | 0,_,_,h => by cases h
 | m + 1,aF,r,h => by
  rw [f2_L1] at h
  have aH:=len_sl (P:=PP) (cf:=evF PP T n) (fl:=0) (H:=(hp92 aB aA aC aD)) (f:=false) (c:=c_GTxn) (l:=aA.Txns)
  rcases cn h with ⟨aZ,aG,h⟩ | ⟨aZ,aG,h⟩
  rotate_left
  ·obtain rfl:=si h
   exact last_q (some lv46) false (f2_L1_E1 aE aB aA aC aD) (qa 82 aG <| qb 81 aH <| q0) [] [] trivial
  obtain ⟨aU,aO,h⟩:=bnd_some h
  have aJ:=idxl (H:=(hp92 aB aA aC aD)) (f:=false) (c:=c_GTxn) aO (c_GTxn_len _)
  obtain ⟨aV,aP,h⟩:=bnd_some h
  have aK:=idxl (H:=(hp92 aB aA aC aD)) (f:=false) (c:=c_GTxn) aP (c_GTxn_len _)
  rcases cn h with ⟨aa,aI,h⟩ | ⟨aa,aI,h⟩
  rotate_left
  ·exact nx_q (f2_L1_S aE aB aA aC aD (IntKind.i64.wrap (aF + 1))) (qa 97 aI <| qa 94 aK <| qa 88 aJ <| qa 82 aG <| qb 81 aH <| q0) [] [] trivial (f2_L1_ok n aE aB aA aC aD m (IntKind.i64.wrap (aF + 1)) r h)
  have aM:=idxl (H:=(hp92 aB aA aC aD)) (f:=false) (c:=c_GTxn) aO (c_GTxn_len _)
  have aN:=idxl (H:=(hp92 aB aA aC aD)) (f:=false) (c:=c_GTxn) aP (c_GTxn_len _)
  rcases cn h with ⟨ab,aL,h⟩ | ⟨ab,aL,h⟩
  rotate_left
  ·exact nx_q (f2_L1_S aE aB aA aC aD (IntKind.i64.wrap (aF + 1))) (qa 111 aL <| qa 108 aN <| qa 102 aM <| qa 97 aI <| qa 94 aK <| qa 88 aJ <| qa 82 aG <| qb 81 aH <| q0) [] [] trivial (f2_L1_ok n aE aB aA aC aD m (IntKind.i64.wrap (aF + 1)) r h)
  have aQ:=idxl (H:=(hp92 aB aA aC aD)) (f:=false) (c:=c_GTxn) aO (c_GTxn_len _)
  have aR:=idxl (H:=(hp92 aB aA aC aD)) (f:=false) (c:=c_GTxn) aP (c_GTxn_len _)
  obtain ⟨ah,aW,h⟩:=bnd_some h
  rcases cn h with ⟨aS,ac,h⟩ | ⟨aS,ac,h⟩
  ·have ad:=by have q:=f17_ok n aU aV _ aW; rw [aS] at q; exact q
   exact nx_q (f2_L1_S aE aB aA aC aD (IntKind.i64.wrap (aF + 1))) (qa 124 ad <| qa 122 aR <| qa 117 aQ <| qa 111 aL <| qa 108 aN <| qa 102 aM <| qa 97 aI <| qa 94 aK <| qa 88 aJ <| qa 82 aG <| qb 81 aH <| q0) [] [] trivial (f2_L1_ok n aE aB aA aC aD m (IntKind.i64.wrap (aF + 1)) r h)
  have aX:=by have q:=f17_ok n aU aV _ aW; rw [aS] at q; exact q
  obtain ⟨ai,aY,h⟩:=bnd_some h
  rcases cn h with ⟨aT,ae,h⟩ | ⟨aT,ae,h⟩
  ·have af:=by have q:=f5_ok n  _ aY; rw [aT] at q; exact q
   obtain rfl:=si h
   exact last_q (some lv46) false (f2_L1_E0 aE aB aA aC aD true) (qa 127 af <| qa 124 aX <| qa 122 aR <| qa 117 aQ <| qa 111 aL <| qa 108 aN <| qa 102 aM <| qa 97 aI <| qa 94 aK <| qa 88 aJ <| qa 82 aG <| qb 81 aH <| q0) [] [] trivial
  have ag:=by have q:=f5_ok n  _ aY; rw [aT] at q; exact q
  obtain rfl:=si h
  exact last_q (some lv46) false (f2_L1_E0 aE aB aA aC aD false) (qa 127 ag <| qa 124 aX <| qa 122 aR <| qa 117 aQ <| qa 111 aL <| qa 108 aN <| qa 102 aM <| qa 97 aI <| qa 94 aK <| qa 88 aJ <| qa 82 aG <| qb 81 aH <| q0) [] [] trivial
def f2_L0 (n : Nat) (aA : GOffice) (aC : GOffice) (aD : (GOffice × Int)) (aE : (GOffice × Int)) : Nat → Int → Option (Bool ⊕ Unit)
 | 0,_ => none
 | m + 1,aB => (cnd (decide (aB < ((aA.Txns.length : Nat) : Int))) (bnd2 (f2_L1 n aB aA aC aD aE n 0) (fun aF => (some (Sum.inl aF))) (fun aG => (f2_L0 n aA aC aD aE m (IntKind.i64.wrap (aB + 1))))) (some (Sum.inr ())))
theorem f2_L0_ok (n : Nat) (aA : GOffice) (aB : GOffice) (aC : (GOffice × Int)) (aD : (GOffice × Int)) : ∀ (m : Nat) (aE : Int) (r : (Bool ⊕ Unit)),f2_L0 n aA aB aC aD m aE = some r → maskR lv45 lv1 false 0 4 (evLoopH (headSt (some lv44) false 0 4) (evC PP (evF PP T n) n 0 L2_0) m (f2_L0_S aA aB aC aD aE)) = (match r with | .inl r => some (.ret,f2_L0_E0 aA aB aC aD r) | .inr r => some ((.exit 0),f2_L0_E1 aA aB aC aD))
 | 0,_,_,h => by cases h
 | m + 1,aE,r,h => by
  rw [f2_L0] at h
  have aG:=len_sl (P:=PP) (cf:=evF PP T n) (fl:=0) (H:=(hp92 aA aB aC aD)) (f:=false) (c:=c_GTxn) (l:=aA.Txns)
  rcases cn h with ⟨aL,aF,h⟩ | ⟨aL,aF,h⟩
  rotate_left
  ·obtain rfl:=si h
   exact last_q (some lv44) false (f2_L0_E1 aA aB aC aD) (qa 75 aF <| qb 74 aG <| q0) [] [] trivial
  have aJ : cleanQ false 0 4 [(.blk 2 [[(iv aA.ID),(.sl false (List.map c_GTxn aA.Txns))]]),(.blk 2 [[(iv aB.ID),(.sl false (List.map c_GTxn aB.Txns))]]),(.blk 2 [[(iv aC.1.ID),(.sl false (List.map c_GTxn aC.1.Txns))]]),(.blk 2 [[(iv aD.1.ID),(.sl false (List.map c_GTxn aD.1.Txns))]])]:=trivial
  rcases bnd2_some h with ⟨aK,aH,h⟩ | ⟨aM,aH,h⟩
  ·have aI:=f2_L1_ok n aE aA aB aC aD n 0 _ aH
   obtain rfl:=si h
   exact last_q (some lv44) false (f2_L0_E0 aA aB aC aD aK) (qp aI <| qp aJ <| qa 75 aF <| qb 74 aG <| q0) [(.ret,f2_L1_E0 aE aA aB aC aD aK)] [] trivial
  have aI:=f2_L1_ok n aE aA aB aC aD n 0 _ aH
  exact nx_q (f2_L0_S aA aB aC aD (IntKind.i64.wrap (aE + 1))) (qp aI <| qp aJ <| qa 75 aF <| qb 74 aG <| q0) [((.exit 2),f2_L1_E1 aE aA aB aC aD)] [] trivial (f2_L0_ok n aA aB aC aD m (IntKind.i64.wrap (aE + 1)) r h)
def f2 : Nat → GOffice → GOffice → Option Bool
 | 0,_,_ => none
 | n + 1,aA,aB => (cnd (decide (((aA.Txns.length : Nat) : Int) > 7)) (bnd (f5 n ) fun aE => (cnd (aE) (some true) (some false))) (cnd (decide (((aB.Txns.length : Nat) : Int) > 7)) (bnd (f5 n ) fun aF => (cnd (aF) (some true) (some false))) (bnd (f3 n aA.Txns) fun aG => (cnd (aG) (bnd (f3 n aB.Txns) fun aH => (cnd (aH) (bnd (f16 n aA.Txns) fun aI => (bnd (f13 n aB aI) fun aJ => (bnd (f11 n aA aJ) fun aC => (bnd (f16 n aB.Txns) fun aK => (bnd (f13 n aA aK) fun aL => (bnd (f11 n aB aL) fun aD => (cnd (aC.2 != 0) (bnd (f5 n ) fun aM => (cnd (aM) (cnd ((IntKind.i64.wrap (((aC.1.Txns.length : Nat) : Int) * ((aD.1.Txns.length : Nat) : Int))) == 0) (some true) (some false)) (some false))) (cnd (aD.2 != 0) (bnd (f5 n ) fun aN => (cnd (aN) (cnd ((IntKind.i64.wrap (((aC.1.Txns.length : Nat) : Int) * ((aD.1.Txns.length : Nat) : Int))) == 0) (some true) (some false)) (some false))) (bnd2 (f2_L0 n aA aB aC aD n 0) (fun aO => (some aO)) (fun aT => (bnd (f5 n ) fun aP => (cnd (aP) (bnd (f15 n aC.1.Txns aD.1.Txns) fun aQ => (cnd (aQ) (some true) (some false))) (some false))))))))))))) (bnd (f5 n ) fun aR => (cnd (aR) (some true) (some false))))) (bnd (f5 n ) fun aS => (cnd (aS) (some true) (some false)))))))
theorem f2_ok (n : Nat) (aA : GOffice) (aB : GOffice) (r : Bool) (h : f2 n aA aB = some r) : pv PP T n 2 [(.agg (c_GOffice aA)),(.agg (c_GOffice aB))] = some (bv r):=by
 cases n with
 | zero => cases h
 | succ n =>
  rw [f2] at h
  have aD:=len_sl (P:=PP) (cf:=evF PP T n) (fl:=0) (H:=(hp91 aA aB)) (f:=false) (c:=c_GTxn) (l:=aA.Txns)
  rcases cn h with ⟨bC,aC,h⟩ | ⟨bC,aC,h⟩
  ·obtain ⟨br,ah,h⟩:=bnd_some h
   rcases cn h with ⟨aU,bD,h⟩ | ⟨aU,bD,h⟩
   ·have bE:=by have q:=f5_ok n  _ ah; rw [aU] at q; exact q
    obtain rfl:=si h
    exact pv_q F2 (qa 33 bE <| qa 14 aC <| qb 13 aD <| q0) [] []
   have bF:=by have q:=f5_ok n  _ ah; rw [aU] at q; exact q
   obtain rfl:=si h
   exact pv_q F2 (qa 33 bF <| qa 14 aC <| qb 13 aD <| q0) [] []
  have aF:=len_sl (P:=PP) (cf:=evF PP T n) (fl:=0) (H:=(hp91 aA aB)) (f:=false) (c:=c_GTxn) (l:=aB.Txns)
  rcases cn h with ⟨bG,aE,h⟩ | ⟨bG,aE,h⟩
  ·obtain ⟨bs,ai,h⟩:=bnd_some h
   rcases cn h with ⟨aV,bH,h⟩ | ⟨aV,bH,h⟩
   ·have bI:=by have q:=f5_ok n  _ ai; rw [aV] at q; exact q
    obtain rfl:=si h
    exact pv_q F2 (qa 33 bI <| qa 19 aE <| qb 18 aF <| qa 14 aC <| qb 13 aD <| q0) [] []
   have bJ:=by have q:=f5_ok n  _ ai; rw [aV] at q; exact q
   obtain rfl:=si h
   exact pv_q F2 (qa 33 bJ <| qa 19 aE <| qb 18 aF <| qa 14 aC <| qb 13 aD <| q0) [] []
  obtain ⟨bu,aj,h⟩:=bnd_some h
  rcases cn h with ⟨aW,bK,h⟩ | ⟨aW,bK,h⟩
  rotate_left
  ·have ak:=by have q:=f3_ok n aA.Txns _ aj; rw [aW] at q; exact q
   obtain ⟨bw,al,h⟩:=bnd_some h
   rcases cn h with ⟨aX,bL,h⟩ | ⟨aX,bL,h⟩
   ·have bM:=by have q:=f5_ok n  _ al; rw [aX] at q; exact q
    obtain rfl:=si h
    exact pv_q F2 (qa 33 bM <| qa 24 ak <| qa 19 aE <| qb 18 aF <| qa 14 aC <| qb 13 aD <| q0) [] []
   have bN:=by have q:=f5_ok n  _ al; rw [aX] at q; exact q
   obtain rfl:=si h
   exact pv_q F2 (qa 33 bN <| qa 24 ak <| qa 19 aE <| qb 18 aF <| qa 14 aC <| qb 13 aD <| q0) [] []
  have aI:=by have q:=f3_ok n aA.Txns _ aj; rw [aW] at q; exact q
  obtain ⟨bx,am,h⟩:=bnd_some h
  rcases cn h with ⟨aY,bO,h⟩ | ⟨aY,bO,h⟩
  rotate_left
  ·have an:=by have q:=f3_ok n aB.Txns _ am; rw [aY] at q; exact q
   obtain ⟨bz,ao,h⟩:=bnd_some h
   rcases cn h with ⟨aZ,bP,h⟩ | ⟨aZ,bP,h⟩
   ·have bQ:=by have q:=f5_ok n  _ ao; rw [aZ] at q; exact q
    obtain rfl:=si h
    exact pv_q F2 (qa 33 bQ <| qa 30 an <| qa 24 aI <| qa 19 aE <| qb 18 aF <| qa 14 aC <| qb 13 aD <| q0) [] []
   have bR:=by have q:=f5_ok n  _ ao; rw [aZ] at q; exact q
   obtain rfl:=si h
   exact pv_q F2 (qa 33 bR <| qa 30 an <| qa 24 aI <| qa 19 aE <| qb 18 aF <| qa 14 aC <| qb 13 aD <| q0) [] []
  have aK:=by have q:=f3_ok n aB.Txns _ am; rw [aY] at q; exact q
  obtain ⟨bS,bT,h⟩:=bnd_some h
  have aL:=f16_ok n aA.Txns _ bT
  obtain ⟨bU,bV,h⟩:=bnd_some h
  have aM:=f13_ok n aB bS _ bV
  obtain ⟨aG,bW,h⟩:=bnd_some h
  have aN:=f11_ok n aA bU _ bW
  obtain ⟨bX,bY,h⟩:=bnd_some h
  have aO:=f16_ok n aB.Txns _ bY
  obtain ⟨bZ,ba,h⟩:=bnd_some h
  have aP:=f13_ok n aA bX _ ba
  obtain ⟨aH,bb,h⟩:=bnd_some h
  have aQ:=f11_ok n aB bZ _ bb
  rcases cn h with ⟨bc,aJ,h⟩ | ⟨bc,aJ,h⟩
  ·obtain ⟨cA,ap,h⟩:=bnd_some h
   rcases cn h with ⟨aa,bd,h⟩ | ⟨aa,bd,h⟩
   rotate_left
   ·have be:=by have q:=f5_ok n  _ ap; rw [aa] at q; exact q
    obtain rfl:=si h
    exact pv_q F2 (qa 60 be <| qa 55 aJ <| qa 51 aQ <| qa 50 aP <| qa 49 aO <| qa 41 aN <| qa 40 aM <| qa 39 aL <| qa 30 aK <| qa 24 aI <| qa 19 aE <| qb 18 aF <| qa 14 aC <| qb 13 aD <| q0) [] [none,none]
   have aq:=by have q:=f5_ok n  _ ap; rw [aa] at q; exact q
   have ar:=len_sl (P:=PP) (cf:=evF PP T n) (fl:=0) (H:=(hp92 aA aB aG aH)) (f:=false) (c:=c_GTxn) (l:=aG.1.Txns)
   have au:=len_sl (P:=PP) (cf:=evF PP T n) (fl:=0) (H:=(hp92 aA aB aG aH)) (f:=false) (c:=c_GTxn) (l:=aH.1.Txns)
   rcases cn h with ⟨bg,ab,h⟩ | ⟨bg,ab,h⟩
   ·obtain rfl:=si h
    exact pv_q F2 (qa 69 ab <| qb 67 au <| qb 64 ar <| qa 60 aq <| qa 55 aJ <| qa 51 aQ <| qa 50 aP <| qa 49 aO <| qa 41 aN <| qa 40 aM <| qa 39 aL <| qa 30 aK <| qa 24 aI <| qa 19 aE <| qb 18 aF <| qa 14 aC <| qb 13 aD <| q0) [] [none,none]
   obtain rfl:=si h
   exact pv_q F2 (qa 69 ab <| qb 67 au <| qb 64 ar <| qa 60 aq <| qa 55 aJ <| qa 51 aQ <| qa 50 aP <| qa 49 aO <| qa 41 aN <| qa 40 aM <| qa 39 aL <| qa 30 aK <| qa 24 aI <| qa 19 aE <| qb 18 aF <| qa 14 aC <| qb 13 aD <| q0) [] [none,none]
  rcases cn h with ⟨bh,aR,h⟩ | ⟨bh,aR,h⟩
  ·obtain ⟨cB,av,h⟩:=bnd_some h
   rcases cn h with ⟨ac,bi,h⟩ | ⟨ac,bi,h⟩
   rotate_left
   ·have bj:=by have q:=f5_ok n  _ av; rw [ac] at q; exact q
    obtain rfl:=si h
    exact pv_q F2 (qa 60 bj <| qa 58 aR <| qa 55 aJ <| qa 51 aQ <| qa 50 aP <| qa 49 aO <| qa 41 aN <| qa 40 aM <| qa 39 aL <| qa 30 aK <| qa 24 aI <| qa 19 aE <| qb 18 aF <| qa 14 aC <| qb 13 aD <| q0) [] [none,none]
   have aw:=by have q:=f5_ok n  _ av; rw [ac] at q; exact q
   have ax:=len_sl (P:=PP) (cf:=evF PP T n) (fl:=0) (H:=(hp92 aA aB aG aH)) (f:=false) (c:=c_GTxn) (l:=aG.1.Txns)
   have ay:=len_sl (P:=PP) (cf:=evF PP T n) (fl:=0) (H:=(hp92 aA aB aG aH)) (f:=false) (c:=c_GTxn) (l:=aH.1.Txns)
   rcases cn h with ⟨bk,ad,h⟩ | ⟨bk,ad,h⟩
   ·obtain rfl:=si h
    exact pv_q F2 (qa 69 ad <| qb 67 ay <| qb 64 ax <| qa 60 aw <| qa 58 aR <| qa 55 aJ <| qa 51 aQ <| qa 50 aP <| qa 49 aO <| qa 41 aN <| qa 40 aM <| qa 39 aL <| qa 30 aK <| qa 24 aI <| qa 19 aE <| qb 18 aF <| qa 14 aC <| qb 13 aD <| q0) [] [none,none]
   obtain rfl:=si h
   exact pv_q F2 (qa 69 ad <| qb 67 ay <| qb 64 ax <| qa 60 aw <| qa 58 aR <| qa 55 aJ <| qa 51 aQ <| qa 50 aP <| qa 49 aO <| qa 41 aN <| qa 40 aM <| qa 39 aL <| qa 30 aK <| qa 24 aI <| qa 19 aE <| qb 18 aF <| qa 14 aC <| qb 13 aD <| q0) [] [none,none]
  have aT : cleanQ false 0 4 [(.blk 2 [[(iv aA.ID),(.sl false (List.map c_GTxn aA.Txns))]]),(.blk 2 [[(iv aB.ID),(.sl false (List.map c_GTxn aB.Txns))]]),(.blk 2 [[(iv aG.1.ID),(.sl false (List.map c_GTxn aG.1.Txns))]]),(.blk 2 [[(iv aH.1.ID),(.sl false (List.map c_GTxn aH.1.Txns))]])]:=trivial
  rcases bnd2_some h with ⟨bl,ae,h⟩ | ⟨cC,ae,h⟩
  ·have aS:=f2_L0_ok n aA aB aG aH n 0 _ ae
   obtain rfl:=si h
   exact pv_q F2 (qp aS <| qp aT <| qa 58 aR <| qa 55 aJ <| qa 51 aQ <| qa 50 aP <| qa 49 aO <| qa 41 aN <| qa 40 aM <| qa 39 aL <| qa 30 aK <| qa 24 aI <| qa 19 aE <| qb 18 aF <| qa 14 aC <| qb 13 aD <| q0) [(.ret,f2_L0_E0 aA aB aG aH bl)] [none,none]
  have aS:=f2_L0_ok n aA aB aG aH n 0 _ ae
  obtain ⟨cD,az,h⟩:=bnd_some h
  rcases cn h with ⟨af,bm,h⟩ | ⟨af,bm,h⟩
  rotate_left
  ·have bn:=by have q:=f5_ok n  _ az; rw [af] at q; exact q
   obtain rfl:=si h
   exact pv_q F2 (qa 128 bn <| qp aS <| qp aT <| qa 58 aR <| qa 55 aJ <| qa 51 aQ <| qa 50 aP <| qa 49 aO <| qa 41 aN <| qa 40 aM <| qa 39 aL <| qa 30 aK <| qa 24 aI <| qa 19 aE <| qb 18 aF <| qa 14 aC <| qb 13 aD <| q0) [((.exit 0),f2_L0_E1 aA aB aG aH)] [none,none]
  have bA:=by have q:=f5_ok n  _ az; rw [af] at q; exact q
  obtain ⟨cE,bB,h⟩:=bnd_some h
  rcases cn h with ⟨ag,bo,h⟩ | ⟨ag,bo,h⟩
  ·have bp:=by have q:=f15_ok n aG.1.Txns aH.1.Txns _ bB; rw [ag] at q; exact q
   obtain rfl:=si h
   exact pv_q F2 (qa 134 bp <| qa 128 bA <| qp aS <| qp aT <| qa 58 aR <| qa 55 aJ <| qa 51 aQ <| qa 50 aP <| qa 49 aO <| qa 41 aN <| qa 40 aM <| qa 39 aL <| qa 30 aK <| qa 24 aI <| qa 19 aE <| qb 18 aF <| qa 14 aC <| qb 13 aD <| q0) [((.exit 0),f2_L0_E1 aA aB aG aH)] [none,none]
  have bq:=by have q:=f15_ok n aG.1.Txns aH.1.Txns _ bB; rw [ag] at q; exact q
  obtain rfl:=si h
  exact pv_q F2 (qa 134 bq <| qa 128 bA <| qp aS <| qp aT <| qa 58 aR <| qa 55 aJ <| qa 51 aQ <| qa 50 aP <| qa 49 aO <| qa 41 aN <| qa 40 aM <| qa 39 aL <| qa 30 aK <| qa 24 aI <| qa 19 aE <| qb 18 aF <| qa 14 aC <| qb 13 aD <| q0) [((.exit 0),f2_L0_E1 aA aB aG aH)] [none,none]
end Go.Proofs.YtkdnaejhpcibnaaGreatDoor.Av
namespace Go.Proofs.YtkdnaejhpcibnaaGreatDoor.Av
open Go Go.Proofs
set_option maxRecDepth 100000
theorem shapeAll2 {P : Program} {n : Nat} {a b : TypeId} {xs : List AV} (h : ShapeAll P n [a,b] xs) : ∃ x y,xs = [x,y] ∧ (∃ ys,Shape P n a ys ∧ x = argOf P a ys) ∧ (∃ ys,Shape P n b ys ∧ y = argOf P b ys) :=
 match xs,h with
 | [x,y],⟨h1,h2,_⟩ => ⟨x,y,rfl,h1,h2⟩
theorem shape_int {n : Nat} {t : TypeId} {ys : List AV} (hu : PP.underlying t = some (.int .i64)) (h : Shape PP (n + 1) t ys) : ∃ z,ys = [.lit (.int .i64 z)]:=by
 unfold Shape at h
 rw [hu] at h
 exact h.imp fun z hz => hz.2
theorem shape_str {n : Nat} {t : TypeId} {ys : List AV} (hu : PP.underlying t = some .string) (h : Shape PP (n + 1) t ys) : ∃ z,ys = [.lit (.string z)]:=by
 unfold Shape at h
 rw [hu] at h
 exact h.imp fun z hz => hz.2
theorem shape_list {α : Type} {c : α → List AV} {n : Nat} {t e : TypeId} {ys : List AV} (hu : PP.underlying t = some (.slice e)) (hc : ∀ x,Shape PP n e x → ∃ z,x = c z) (h : Shape PP (n + 1) t ys) : ∃ l : List α,ys = [.sl false (l.map c)]:=by
 unfold Shape at h
 rw [hu] at h
 obtain ⟨es,rfl,_,h2⟩:=h
 have : ∀ es : List (List AV),(∀ x ∈ es,Shape PP n e x) → ∃ l : List α,es = l.map c:=by
  intro es
  induction es with
  | nil => exact fun _ => ⟨[],rfl⟩
  | cons x r ih =>
   intro h
   obtain ⟨l,rfl⟩:=ih fun y hy => h y (by simp [hy])
   obtain ⟨z,rfl⟩:=hc x (h x (by simp))
   exact ⟨z :: l,rfl⟩
 obtain ⟨l,rfl⟩:=this es h2
 exact ⟨l,rfl⟩
theorem shape_point {n : Nat} {ys : List AV} (h : Shape PP (n + 2) 47 ys) : ∃ z,ys = c_GPoint z:=by
 unfold Shape at h
 have hu : PP.underlying 47 = some (.struct #[{ name := "X", type := 3, offset := 0, embedded := false, tag := "", pkgPath := "", byteOffset := 0 }, { name := "Y", type := 3, offset := 1, embedded := false, tag := "", pkgPath := "", byteOffset := 8 }]) := by kernel_rfl
 rw [hu] at h
 obtain ⟨ps,rfl,hl,h2⟩:=h
 match ps,hl with
 | [p,q],_ =>
  have hi : PP.underlying 3 = some (.int .i64):=by kernel_rfl
  obtain ⟨x,rfl⟩:=shape_int hi (h2 0 _ p rfl rfl)
  obtain ⟨y,rfl⟩:=shape_int hi (h2 1 _ q rfl rfl)
  exact ⟨⟨x,y⟩,rfl⟩
theorem shape_edit {n : Nat} {ys : List AV} (h : Shape PP (n + 4) 50 ys) : ∃ z,ys = c_GEdit z:=by
 unfold Shape at h
 have hu : PP.underlying 50 = some (.struct #[{ name := "Kind", type := 3, offset := 0, embedded := false, tag := "", pkgPath := "", byteOffset := 0 }, { name := "ID", type := 3, offset := 1, embedded := false, tag := "", pkgPath := "", byteOffset := 8 }, { name := "A", type := 3, offset := 2, embedded := false, tag := "", pkgPath := "", byteOffset := 16 }, { name := "B", type := 3, offset := 3, embedded := false, tag := "", pkgPath := "", byteOffset := 24 }, { name := "C", type := 3, offset := 4, embedded := false, tag := "", pkgPath := "", byteOffset := 32 }, { name := "At", type := 47, offset := 5, embedded := false, tag := "", pkgPath := "", byteOffset := 40 }, { name := "Via", type := 48, offset := 7, embedded := false, tag := "", pkgPath := "", byteOffset := 56 }, { name := "Name", type := 9, offset := 8, embedded := false, tag := "", pkgPath := "", byteOffset := 80 }, { name := "Parts", type := 35, offset := 9, embedded := false, tag := "", pkgPath := "", byteOffset := 96 }]) := by kernel_rfl
 rw [hu] at h
 obtain ⟨ps,rfl,hl,h2⟩:=h
 match ps,hl with
 | [p0,p1,p2,p3,p4,p5,p6,p7,p8],_ =>
  have hi : PP.underlying 3 = some (.int .i64):=by kernel_rfl
  obtain ⟨x0,rfl⟩:=shape_int hi (h2 0 _ p0 rfl rfl)
  obtain ⟨x1,rfl⟩:=shape_int hi (h2 1 _ p1 rfl rfl)
  obtain ⟨x2,rfl⟩:=shape_int hi (h2 2 _ p2 rfl rfl)
  obtain ⟨x3,rfl⟩:=shape_int hi (h2 3 _ p3 rfl rfl)
  obtain ⟨x4,rfl⟩:=shape_int hi (h2 4 _ p4 rfl rfl)
  obtain ⟨x5,rfl⟩:=shape_point (h2 5 _ p5 rfl rfl)
  obtain ⟨x6,rfl⟩:=shape_list (c:=c_GPoint) (e:=47) (by kernel_rfl) (fun _ h => shape_point h) (h2 6 _ p6 rfl rfl)
  obtain ⟨x7,rfl⟩:=shape_str (by kernel_rfl) (h2 7 _ p7 rfl rfl)
  obtain ⟨x8,rfl⟩:=shape_list (c:=c_i64) (e:=3) (by kernel_rfl) (fun _ h => shape_int hi h) (h2 8 _ p8 rfl rfl)
  exact ⟨⟨x0,x1,x2,x3,x4,x5,x6,x7,x8⟩,rfl⟩
theorem shape_txn {n : Nat} {ys : List AV} (h : Shape PP (n + 6) 44 ys) : ∃ z,ys = c_GTxn z:=by
 unfold Shape at h
 have hu : PP.underlying 44 = some (.struct #[{ name := "Office", type := 3, offset := 0, embedded := false, tag := "", pkgPath := "", byteOffset := 0 }, { name := "Seq", type := 3, offset := 1, embedded := false, tag := "", pkgPath := "", byteOffset := 8 }, { name := "Time", type := 3, offset := 2, embedded := false, tag := "", pkgPath := "", byteOffset := 16 }, { name := "Source", type := 9, offset := 3, embedded := false, tag := "", pkgPath := "", byteOffset := 24 }, { name := "Edits", type := 25, offset := 4, embedded := false, tag := "", pkgPath := "", byteOffset := 40 }]) := by kernel_rfl
 rw [hu] at h
 obtain ⟨ps,rfl,hl,h2⟩:=h
 match ps,hl with
 | [p0,p1,p2,p3,p4],_ =>
  have hi : PP.underlying 3 = some (.int .i64):=by kernel_rfl
  obtain ⟨x0,rfl⟩:=shape_int hi (h2 0 _ p0 rfl rfl)
  obtain ⟨x1,rfl⟩:=shape_int hi (h2 1 _ p1 rfl rfl)
  obtain ⟨x2,rfl⟩:=shape_int hi (h2 2 _ p2 rfl rfl)
  obtain ⟨x3,rfl⟩:=shape_str (by kernel_rfl) (h2 3 _ p3 rfl rfl)
  obtain ⟨x4,rfl⟩:=shape_list (c:=c_GEdit) (e:=50) (by kernel_rfl) (fun _ h => shape_edit h) (h2 4 _ p4 rfl rfl)
  exact ⟨⟨x0,x1,x2,x3,x4⟩,rfl⟩
theorem shape_office {n : Nat} {ys : List AV} (h : Shape PP (n + 8) 24 ys) : ∃ z,ys = c_GOffice z:=by
 unfold Shape at h
 have hu : PP.underlying 24 = some (.struct #[{ name := "ID", type := 3, offset := 0, embedded := false, tag := "", pkgPath := "", byteOffset := 0 }, { name := "Txns", type := 22, offset := 1, embedded := false, tag := "", pkgPath := "", byteOffset := 8 }]) := by kernel_rfl
 rw [hu] at h
 obtain ⟨ps,rfl,hl,h2⟩:=h
 match ps,hl with
 | [p0,p1],_ =>
  have hi : PP.underlying 3 = some (.int .i64):=by kernel_rfl
  obtain ⟨x0,rfl⟩:=shape_int hi (h2 0 _ p0 rfl rfl)
  obtain ⟨x1,rfl⟩:=shape_list (c:=c_GTxn) (e:=44) (by kernel_rfl) (fun _ h => shape_txn h) (h2 1 _ p1 rfl rfl)
  exact ⟨⟨x0,x1⟩,rfl⟩
theorem arg_office {x : AV} (h : ∃ ys,Shape PP 10 24 ys ∧ x = argOf PP 24 ys) : ∃ a,x = .agg (c_GOffice a):=by
 obtain ⟨ys,h1,rfl⟩:=h
 obtain ⟨a,rfl⟩:=shape_office h1
 exact ⟨a,by simp only [argOf,isAgg]; rfl⟩
end Go.Proofs.YtkdnaejhpcibnaaGreatDoor.Av
namespace Go.Proofs.YtkdnaejhpcibnaaGreatDoor.Av
open Go Go.Proofs Go.RowKit Go.Shelf
set_option maxRecDepth 100000
def cren : Ren where
 f:=fun x => match x with
  | 144 => 96
  | 143 => 132
  | 219 => 158
  | 217 => 184
  | 225 => 185
  | 224 => 186
  | 267 => 187
  | 266 => 219
  | 314 => 220
  | n => n
 t:=fun x => match x with
  | 9 => 9
  | 4 => 4
  | 3 => 3
  | 5 => 5
  | 46 => 111
  | 146 => 232
  | 51 => 231
  | n => n
 g:=fun x => match x with
  | 1 => 1
  | n => n
theorem clays : Lays.n144 PP cren where
 mixed:=by kernel_rfl
 f143:=Tryz.func132.trans (congrArg some (by kernel_rfl))
 f144:=Tryz.func96.trans (congrArg some (by kernel_rfl))
 f217:=Tryz.func184.trans (congrArg some (by kernel_rfl))
 f219:=Tryz.func158.trans (congrArg some (by kernel_rfl))
 f224:=Tryz.func186.trans (congrArg some (by kernel_rfl))
 f225:=Tryz.func185.trans (congrArg some (by kernel_rfl))
 f266:=Tryz.func219.trans (congrArg some (by kernel_rfl))
 f267:=Tryz.func187.trans (congrArg some (by kernel_rfl))
 f314:=Tryz.func220.trans (congrArg some (by kernel_rfl))
 t3:=Tryz.underlying3
 a3:=Tryz.isAgg3
 z3:=Tryz.sizeOf3
 v3:=Tryz.zeroValue3
 t4:=Tryz.underlying4
 a4:=Tryz.isAgg4
 z4:=Tryz.sizeOf4
 v4:=Tryz.zeroValue4
 t5:=Tryz.underlying5
 a5:=Tryz.isAgg5
 z5:=Tryz.sizeOf5
 v5:=Tryz.zeroValue5
 t9:=Tryz.underlying9
 a9:=Tryz.isAgg9
 z9:=Tryz.sizeOf9
 v9:=Tryz.zeroValue9
 t46:=Tryz.underlying111
 a46:=Tryz.isAgg111
 z46:=Tryz.sizeOf111
 v46:=Tryz.zeroValue111
 t51:=Tryz.underlying231
 a51:=Tryz.isAgg231
 z51:=Tryz.sizeOf231
 v51:=Tryz.zeroValue231
 t146:=Tryz.underlying232
 a146:=Tryz.isAgg232
 z146:=Tryz.sizeOf232
 v146:=Tryz.zeroValue232
 g1:=by kernel_rfl
end Go.Proofs.YtkdnaejhpcibnaaGreatDoor.Av
namespace Go.Proofs.YtkdnaejhpcibnaaGreatDoor.Av
open Go Go.Proofs Go.RowKit Go.Shelf
set_option maxRecDepth 100000
theorem mixed : PP.follows .mixedOrders = true:=by kernel_rfl
def insR : Ren where
 f:=fun x => match x with
  | 22 => 49
  | 29 => 78
  | 30 => 79
  | n => n
 t:=fun x => match x with
  | 24 => 22
  | 9 => 44
  | n => n
 g:=fun n => n
theorem insL : InsL PP insR #[.int .i64 0,.int .i64 0,.int .i64 0,.string ⟨#[]⟩,.slice none 0 0] 64 where
 mixed:=mixed
 f22 := ⟨ "slices.Insert[[]mapsheets/api.Txn,mapsheets/api.Txn]", by decide, Tryz.func49.trans (congrArg some (by kernel_rfl))⟩
 ov:=fun args w => by
  exact run_callFunc_extern Tryz.func78 (by kernel_rfl) (by kernel_rfl) (by kernel_rfl) (e:=Extern.SlicesOverlaps.overlaps #[22,22] #[4]) (by kernel_rfl) args w
 t3:=Tryz.underlying3
 a3:=Tryz.isAgg3
 z3:=Tryz.sizeOf3
 v3:=Tryz.zeroValue3
 t4:=Tryz.underlying4
 a4:=Tryz.isAgg4
 z4:=Tryz.sizeOf4
 v4:=Tryz.zeroValue4
 z9:=Tryz.sizeOf44
 t24:=Tryz.underlying22
 a24:=Tryz.isAgg22
 z24:=Tryz.sizeOf22
 v24:=Tryz.zeroValue22
 i9:=by kernel_rfl
 zl:=rfl
theorem primF_inv {fl vi : Nat} {args : List AV} {H H' : Heap} {r : AV} (h : primF fl vi args H = some (r,H')) : (vi = 86 ∧ contA fl args H = some (r,H')) ∨ (vi = 43 ∧ insA fl args H = some (r,H')):=by
 unfold primF at h
 have e : (GlobT.prim vi : Option _) = (match Nat.beq vi 86 with | true => some contA | false => match Nat.beq vi 43 with | true => some insA | false => none):=rfl
 rw [e] at h
 cases hb : Nat.beq vi 86 with
 | true => rw [hb] at h; exact .inl ⟨Nat.eq_of_beq_eq_true hb,h⟩
 | false =>
  rw [hb] at h
  cases hd : Nat.beq vi 43 with
  | true => rw [hd] at h; exact .inr ⟨Nat.eq_of_beq_eq_true hd,h⟩
  | false => rw [hd] at h; cases h
theorem contA_inv {fl : Nat} {args : List AV} {H H' : Heap} {r : AV} (h : contA fl args H = some (r,H')) :
  ∃ s t : ByteArray,args = [.lit (.string s),.lit (.string t)] ∧ s.size < 4294967281 ∧ r = .lit (.bool (Lib.contains s.data.toList t.data.toList)) ∧ H' = H:=by
 unfold contA at h
 repeat' split at h
 all_goals first
  | (cases h; done)
  | skip
 rename_i hb
 cases h
 exact ⟨_,_,rfl,Nat.le_of_ble_eq_true hb,rfl,rfl⟩
theorem prim_ok : PrimOK PP T where
 fl:=fun fl vi args H r H' hle hev => by
  rcases primF_inv hev with ⟨_,h⟩ | ⟨_,h⟩
  ·obtain ⟨s,t,_,_,_,rfl⟩:=contA_inv h
   exact ⟨rfl,hle⟩
  ·obtain ⟨id,id2,i,es,row,_,h1,h2,h3,h4,h5,h6,h7,rfl⟩:=insA_inv h
   exact ⟨List.take_set_of_le h1,by simpa using hle⟩
 ok:=fun fl vi f args r H' c vs hev hf hs hfl hargs => by
  rcases primF_inv hev with ⟨rfl,h⟩ | ⟨rfl,h⟩
  ·obtain ⟨s,t,rfl,hsz,rfl,rfl⟩:=contA_inv h
   obtain rfl : 96 = f:=Option.some.inj ((show ftOf T 86 = some 96 by kernel_rfl).symm.trans hf)
   have hv : vs = #[.string s,.string t]:=by
    obtain ⟨h1,h2⟩:=hargs
    obtain ⟨v0,g0,k0⟩:=h2 0 _ rfl
    obtain ⟨v1,g1,k1⟩:=h2 1 _ rfl
    have e0:=k0.lit_inv
    have e1:=k1.lit_inv
    subst e0 e1
    apply Array.ext
    ·simpa using h1
    ·intro i hi1 hi2
     have hi3 : i < 2:=by simpa using hi2
     match i,hi3 with
     | 0,_ => exact Option.some.inj ((Array.getElem?_eq_getElem hi1).symm.trans g0)
     | 1,_ => exact Option.some.inj ((Array.getElem?_eq_getElem hi1).symm.trans g1)
   subst hv
   obtain ⟨cc,t',fz,vals,_,hheap,hok,_,_⟩:=hs.gl 1 [.undef] rfl
   obtain ⟨m,hm⟩:=hok rfl
   have hcell : c.w.cell? ⟨1,0,none⟩ = some (.int .i64 m):=by simp [World.cell?,hheap,hm]
   exact (Any.strings_Contains clays s t m c.w hsz hcell).mono fun e w' ⟨he,hw⟩ => ⟨_,c,he,hw.symm,rfl,rfl,Step.refl fl c,hs,.lit _⟩
  ·obtain ⟨id,id2,i,es,row,rfl,h1,h2,h3,h4,h5,h6,rfl,rfl⟩:=insA_inv h
   obtain rfl : 49 = f:=Option.some.inj ((show ftOf T 43 = some 49 by kernel_rfl).symm.trans hf)
   refine (ins_ok (ρ:=insR) insL (by decide) hs h1 h2 h3 h4 h5 h6 hargs).mono fun e w' ⟨v,he,c',k1,k2,k3,k4,k5,k6⟩ => ?_
   exact ⟨v,c',he,k1,k2,k3,k4,k5,k6⟩
end Go.Proofs.YtkdnaejhpcibnaaGreatDoor.Av
namespace Go.Proofs.YtkdnaejhpcibnaaGreatDoor.Av
open Go Go.Proofs Go.RowKit
set_option maxRecDepth 100000
theorem handed_shaped {H : Type} {enc : TypeId × Value → H} {a : Assume} {C : Go.Checked} {os : Os} {f : FuncId} {fn : Func} {s : ChangeSpec} {conds : List PathCond} {apart fresh handsOn again : Bool} {X : World → Array Value → Prop}
  (hX : ∀ (w w' : World) (args : Array Value),w.heap = w'.heap → X w args → X w' args)
  (own : ownKnob C.prog.godebug = none) (started : os.Started) (noInit : C.prog.inits.idxOf? f = none) (hfn : C.prog.funcs[f]? = some fn)
  (witness : ∃ (w : World) (tape : Tape) (i : Input),w.os = os ∧ (w.forCall tape i).Shaped C.prog ∧ i.vars = [] ∧ Input.okWide C.prog (w.forCall tape i) .any w.heap.size f i ∧
   ((s.pre enc C.prog fn conds apart (w.forCall tape i).memory i.args ∧ X (w.forCall tape i).memory i.args) ∧ sizedMet enc C.prog fn (OpenSpec.ofChange s) apart (w.forCall tape i).memory i.args) ∧ a.holds C.prog (lone (Frame.enter C.prog f i.args .normal) [] (w.forCall tape i)))
  (contract : ∀ (W : World) (base : Nat) (args : Array Value) (ds gs : List (DataW H)) (before : List MemPlace),
   (∀ (j : Nat) t v,fn.params[j]? = some t → args[j]? = some v → Value.okWide C.prog W .any base t v) →
   DataW.Whole enc C.prog fn.params.toList s.vars apart W args.toList ds gs before → X W args → W.ShapedOpen C.prog →
   Calls C.prog f args W fun e W' => ∃ v,e = .returned v ∧ s.post enc C.prog fn apart fresh handsOn again W args v W') :
  ReturnsInHanded a C os f .any (fun w args => (s.pre enc C.prog fn conds apart w args ∧ X w args) ∧ sizedMet enc C.prog fn (OpenSpec.ofChange s) apart w args) (s.post enc C.prog fn apart fresh handsOn again):=by
 refine returnsInHanded_of_calls own started noInit witness ?_
 intro w tape i _ hsh _ hok hpre _
 obtain ⟨_,_,_,fn',hfn',_,_,_,_,hval⟩:=hok
 have e : fn' = fn:=Option.some.inj (hfn'.symm.trans hfn)
 subst e
 obtain ⟨⟨⟨ds,gs,before,hw,_⟩,hx⟩,_⟩:=hpre
 have hw':=DataW.Whole.of_heap (w':=w.forCall tape i) (by rfl) hw
 refine (contract (w.forCall tape i) w.heap.size i.args ds gs before hval hw' (hX _ _ _ (by rfl) hx) hsh).mono fun e W' ⟨v,he,hp⟩ => ?_
 subst he
 exact ChangeSpec.post_blind hp
def litV : DataW Unit → List Value
 | .lit (.int k z) => [.int k z]
 | _ => []
def flat1 : DataW Unit → List Value
 | .agg ps => ps.flatMap litV
 | _ => []
def flat2 : DataW Unit → List Value
 | .agg ps => ps.flatMap flat1
 | _ => []
section
variable {P : Program} {w : World} {base : Nat} {sp : Nat → Bool} {held : Bool} {enc : TypeId × Value → Unit}
theorem trod_row3 {fuel : Nat} {t ta tb tc : TypeId} {ka kb kc : IntKind} {f0 f1 f2 : Field} {cs : List Value} {x : DataW Unit × List MemPlace}
  (hu : P.underlying t = some (.struct #[f0,f1,f2])) (hc : P.cellsOf t = 3) (t0 : f0.type = ta) (t1 : f1.type = tb) (t2 : f2.type = tc) (o0 : f0.offset = 0) (o1 : f1.offset = 1) (o2 : f2.offset = 2)
  (ua : P.underlying ta = some (.int ka)) (ub : P.underlying tb = some (.int kb)) (uc : P.underlying tc = some (.int kc)) (ca : P.cellsOf ta = 1) (cb : P.cellsOf tb = 1) (cc : P.cellsOf tc = 1)
  (h : DataW.trod enc P w base sp held fuel t cs = some x) : cs = flat1 x.1:=by
 obtain ⟨xs,n,_,rfl,hl,hxl,hat⟩:=DataW.trod_struct hu h
 rw [hc] at hl
 match cs,hl with
 | [a,b,c],_ =>
  match xs,hxl with
  | [y0,y1,y2],_ =>
   have h0:=hat 0 f0 rfl
   have h1:=hat 1 f1 rfl
   have h2:=hat 2 f2 rfl
   rw [t0,o0,ca] at h0
   rw [t1,o1,cb] at h1
   rw [t2,o2,cc] at h2
   obtain ⟨z0,e0,q0,_⟩:=DataW.trod_int ua h0
   obtain ⟨z1,e1,q1,_⟩:=DataW.trod_int ub h1
   obtain ⟨z2,e2,q2,_⟩:=DataW.trod_int uc h2
   have e0' : a = .int ka z0:=by simpa using e0
   have e1' : b = .int kb z1:=by simpa using e1
   have e2' : c = .int kc z2:=by simpa using e2
   subst e0' e1' e2' q0 q1 q2
   rfl
theorem trod_table {fuel m : Nat} {t e ta tb tc : TypeId} {ka kb kc : IntKind} {f0 f1 f2 : Field} {cs : List Value} {x : DataW Unit × List MemPlace}
  (ha : P.underlying t = some (.array m e)) (hca : P.cellsOf t = m * 3)
  (hu : P.underlying e = some (.struct #[f0,f1,f2])) (hc : P.cellsOf e = 3) (t0 : f0.type = ta) (t1 : f1.type = tb) (t2 : f2.type = tc) (o0 : f0.offset = 0) (o1 : f1.offset = 1) (o2 : f2.offset = 2)
  (ua : P.underlying ta = some (.int ka)) (ub : P.underlying tb = some (.int kb)) (uc : P.underlying tc = some (.int kc)) (ca : P.cellsOf ta = 1) (cb : P.cellsOf tb = 1) (cc : P.cellsOf tc = 1)
  (h : DataW.trod enc P w base sp held fuel t cs = some x) : cs = flat2 x.1:=by
 obtain ⟨xs,n,_,rfl,hl,hxl,hat⟩:=DataW.trod_array ha h
 have e':=array_flat 3 m 0 cs (by rw [hl,hca]; omega)
 rw [List.drop_zero] at e'
 have key : ∀ i,i < m → ∃ y,xs[i]? = some y ∧ (cs.drop (0 + i * 3)).take 3 = flat1 y.1:=by
  intro i hi
  have h1:=hat i hi
  rw [hc] at h1
  have h2 : xs[i]? = some xs[i]:=List.getElem?_eq_getElem (by omega)
  rw [h2] at h1
  refine ⟨_,h2,?_⟩
  rw [Nat.zero_add]
  exact trod_row3 hu hc t0 t1 t2 o0 o1 o2 ua ub uc ca cb cc h1
 rw [e']
 show _ = (xs.map (·.1)).flatMap flat1
 rw [List.flatMap_def,List.map_map]
 congr 1
 apply List.ext_getElem?
 intro i
 rw [List.getElem?_map,List.getElem?_map]
 rcases Nat.lt_or_ge i m with hi | hi
 ·obtain ⟨y,h1,h2⟩:=key i hi
  rw [List.getElem?_range hi,h1]
  simp only [Option.map_some,Function.comp]
  rw [h2]
 ·rw [List.getElem?_eq_none (by simpa using hi),List.getElem?_eq_none (by omega)]
  rfl
end
end Go.Proofs.YtkdnaejhpcibnaaGreatDoor.Av
namespace Go.Proofs.YtkdnaejhpcibnaaGreatDoor.Av
open Go Go.Proofs
set_option maxRecDepth 100000
theorem own : ownKnob PP.godebug = none:=by kernel_rfl
theorem laid : laidOutB PP = true:=by kernel_rfl
def scrV : List Value:=flat2 (Go.Proofs.YtkdnaejhpcibnaaGreatDoor.Rows.laid_mapsheets_glyph_scripts)
open Go.Proofs.YtkdnaejhpcibnaaGreatDoor in
theorem glob_top {W : World} (hl : laidMetH Tryz.prog Rows.officeEditsRow.laid W) (hsh : W.ShapedOpen Tryz.prog) : GlobInv (top W):=by
 intro g cs hcs
 match g with
 | 0 =>
  obtain rfl : scrT = cs:=Option.some.inj hcs
  obtain ⟨ps, hv, _, _⟩ : laidMet Tryz.prog [("mapsheets/glyph.scripts", Rows.laid_mapsheets_glyph_scripts)] W := hl
  obtain ⟨g,t,cv,fuel,p,q,h1,h2,h3,h4,_,_⟩:=hv
  obtain rfl : 0 = g := Option.some.inj ((show Tryz.prog.globalNamed "mapsheets/glyph.scripts" = some 0 by kernel_rfl).symm.trans h1)
  obtain rfl : 147 = t:=Option.some.inj ((show (Tryz.prog.globals[0]?).map (·.type) = some 147 by kernel_rfl).symm.trans h2)
  have hcv : cv.toList = scrV := trod_table (m := 13) (e := 146) (ta := 21) (tb := 21) (tc := 3) (ka := .i32) (kb := .i32) (kc := .i64) (f0 := { name := "first", type := 21, offset := 0, embedded := false, tag := "", pkgPath := "mapsheets/glyph", byteOffset := 0 }) (f1 := { name := "last", type := 21, offset := 1, embedded := false, tag := "", pkgPath := "mapsheets/glyph", byteOffset := 4 }) (f2 := { name := "script", type := 3, offset := 2, embedded := false, tag := "", pkgPath := "mapsheets/glyph", byteOffset := 8 }) (by kernel_rfl) (by kernel_rfl) (by kernel_rfl) (by kernel_rfl) rfl rfl rfl rfl rfl rfl (by kernel_rfl) (by kernel_rfl) (by kernel_rfl) (by kernel_rfl) (by kernel_rfl) (by kernel_rfl) h4
  have hheap : ∃ T fz,W.heap[0]? = some (.cells cv T fz):=by
   unfold World.var? at h3
   rw [h1] at h3
   simp only [Option.bind_some] at h3
   split at h3
   ·rename_i c T fz hb
    cases h3
    exact ⟨T,fz,hb⟩
   ·cases h3
  obtain ⟨T,fz,hheap⟩:=hheap
  have key : ∀ (j : Nat) (x : AV),scrT[j]? = some x → ∃ v,scrV[j]? = some v ∧ scalarB v = true ∧ x = AV.lit v:=by
   have e : scrT = scrV.map AV.lit:=by kernel_rfl
   have hs : scrV.all scalarB = true:=by kernel_rfl
   intro j x hx
   rw [e,List.getElem?_map,Option.map_eq_some_iff] at hx
   obtain ⟨v,h5,rfl⟩:=hx
   exact ⟨v,h5,List.all_eq_true.1 hs v (List.mem_of_getElem? h5),rfl⟩
  refine ⟨cv,T,fz,fun j => (scrV[j]?).getD undef,top_imm W 0,hheap,(fun h => absurd h (by decide)),?_,?_⟩
  ·intro j x hx
   obtain ⟨v,k1,k2,_⟩:=key j x hx
   have e : (scrV[j]?).getD undef = v:=by rw [k1]; rfl
   show cv[0 + j]? = some ((scrV[j]?).getD undef) ∧ scalarB ((scrV[j]?).getD undef) = true
   rw [e,Nat.zero_add,← Array.getElem?_toList,hcv]
   exact ⟨k1,k2⟩
  ·intro j x hx
   obtain ⟨v,k1,_,rfl⟩:=key j x hx
   have e : (scrV[j]?).getD undef = v:=by rw [k1]; rfl
   show RP _ _ (AV.lit v) ((scrV[j]?).getD undef)
   rw [e]
   exact .lit _
 | 1 =>
  obtain rfl : [AV.undef] = cs:=Option.some.inj hcs
  obtain ⟨m,hm⟩:=cell_of_shapedOpen_int (g:=1) (t:=3) (zero:=#[.int .i64 0]) (k:=.i64) hsh (of_decide_eq_true (by kernel_rfl)) (by kernel_rfl) rfl (by kernel_rfl) (by kernel_rfl) (by kernel_rfl)
  obtain ⟨c,T,fz,hb,_,hc⟩:=cell?_inv hm
  refine ⟨c,T,fz,fun _ => .int .i64 m,top_imm W 1,hb,fun _ => ⟨m,hc⟩,?_,?_⟩
  ·intro j x hx
   cases j with
   | zero => exact ⟨hc,rfl⟩
   | succ j => simp at hx
  ·intro j x hx
   cases j with
   | zero =>
    simp only [List.getElem?_cons_zero,Option.some.injEq] at hx
    subst hx
    exact .undef _
   | succ j => simp at hx
 | n + 2 => cases hcs
end Go.Proofs.YtkdnaejhpcibnaaGreatDoor.Av
namespace Go.Proofs.YtkdnaejhpcibnaaGreatDoor.Av
open Go Go.IntWalk
def lookT (r : Int) : List GT146 → Int
 | [] => -1
 | x :: l => if x.first ≤ r ∧ r ≤ x.last then x.script else lookT r l
def scr (r : Int) : Int:=lookT r tab0
theorem f119_eq (n : Nat) (r : Int) : f119 (n + 1) r = some (decide (48 ≤ r ∧ r ≤ 57)):=by
 simp only [f119,cnd_ite,decide_eq_true_eq]
 split
 ·split
  ·rw [decide_eq_true (by omega)]
  ·rw [decide_eq_false (by omega)]
 ·rw [decide_eq_false (by omega)]
set_option maxHeartbeats 2000000 in
theorem f94_eq (n : Nat) (r : Int) : f94 (n + 2) r = some (scr r):=by
 rw [f94,f119_eq]
 simp only [scr,tab0,lookT,cnd_ite,bnd,decide_eq_true_eq,beq_iff_eq,bne_iff_ne,ne_eq]
 have hk : ∀ (p : Prop) [Decidable p] (a b c : Option Int),(p → a = c) → (¬ p → b = c) → (if p then a else b) = c:=by
  intro p _ a b c h1 h2
  split
  ·exact h1 (by assumption)
  ·exact h2 (by assumption)
 have hk2 : ∀ (p : Prop) [Decidable p] (a : Option Int) (b c : Int),(p → a = some b) → (¬ p → a = some c) → a = some (if p then b else c):=by
  intro p _ a b c h1 h2
  split
  ·exact h1 (by assumption)
  ·exact h2 (by assumption)
 repeat' (apply hk <;> intro _)
 all_goals repeat' (apply hk2 <;> intro _)
 all_goals first | rfl | (exfalso; omega)
theorem f87_L0_eq (n : Nat) (r : Int) (hr : IntKind.i32.wrap r = r) : ∀ (d m : Nat) (i : Nat),i + d = 13 → d < m → ∃ z,f87_L0 n r m (i : Int) = some z ∧ (match z with | .inl v => v.2.2.2 = lookT r (tab0.drop i) | .inr _ => lookT r (tab0.drop i) = -1):=by
 intro d
 induction d with
 | zero =>
  intro m i hi hm
  obtain ⟨m,rfl⟩ : ∃ k,m = k + 1:=⟨m - 1,by omega⟩
  obtain rfl : i = 13:=by omega
  exact ⟨.inr (),by simp [f87_L0,cnd],rfl⟩
 | succ d ih =>
  intro m i hi hm
  obtain ⟨m,rfl⟩ : ∃ k,m = k + 1:=⟨m - 1,by omega⟩
  obtain ⟨z,h1,h2⟩:=ih m (i + 1) (by omega) (by omega)
  have hlt : i < tab0.length:=by show i < 13; omega
  have hdrop : tab0.drop i = tab0[i] :: tab0.drop (i + 1):=List.drop_eq_getElem_cons hlt
  have hidx : idx tab0 (i : Int) = some tab0[i]:=by rw [idx_nat,List.getElem?_eq_getElem hlt]
  have hw : IntKind.i64.wrap ((i : Int) + 1) = ((i + 1 : Nat) : Int):=by rw [i64_in _ (by omega)]; push_cast; rfl
  have hlt2 : decide ((i : Int) < 13) = true:=decide_eq_true (by omega)
  simp only [f87_L0,hlt2,cnd,bnd_of hidx,hr,hw,h1,hdrop,lookT]
  generalize tab0[i] = x at *
  by_cases c1 : x.first ≤ r
  ·by_cases c2 : r ≤ x.last
   ·exact ⟨.inl (x.first,x.last,x.script,x.script),by simp only [decide_eq_true c1,decide_eq_true c2],by simp [c1,c2]⟩
   ·refine ⟨z,by simp only [decide_eq_true c1,decide_eq_false c2],?_⟩
    rw [if_neg (fun h => c2 h.2)]; exact h2
  ·refine ⟨z,by simp only [decide_eq_false c1],?_⟩
   rw [if_neg (fun h => c1 h.1)]; exact h2
theorem scr_neg (r : Int) (h : r < 0 ∨ 1114111 < r) : scr r = -1:=by
 simp only [scr,tab0,lookT]
 iterate 13 rw [if_neg (by omega)]
theorem f87_eq (n : Nat) (r : Int) (hn : 15 ≤ n) : f87 n r = some (scr r):=by
 obtain ⟨n,rfl⟩ : ∃ k,n = k + 1:=⟨n - 1,by omega⟩
 simp only [f87]
 by_cases c1 : r < 0
 ·simp only [decide_eq_true c1,cnd,scr_neg r (.inl c1)]
 ·by_cases c2 : r > 1114111
  ·simp only [decide_eq_false c1,decide_eq_true c2,cnd,scr_neg r (.inr c2)]
  ·simp only [decide_eq_false c1,decide_eq_false c2,cnd]
   obtain ⟨z,h1,h2⟩:=f87_L0_eq n r (i32_in r (by omega)) 13 n 0 rfl (by omega)
   have h1' : f87_L0 n r n 0 = some z:=h1
   rw [h1']
   cases z with
   | inl v => simp only [bnd2]; simp only at h2; rw [h2]; rfl
   | inr v => simp only [bnd2]; simp only at h2; exact congrArg some h2.symm
end Go.Proofs.YtkdnaejhpcibnaaGreatDoor.Av
namespace Go.Proofs.YtkdnaejhpcibnaaGreatDoor.Av
open Go Go.IntWalk
theorem ba_ext {s t : ByteArray} : s = t ↔ s.data.toList = t.data.toList:=by
 constructor
 ·intro h; rw [h]
 ·intro h
  cases s; cases t
  simp only [Array.toList_inj] at h
  rw [h]
theorem ba_size (s : ByteArray) : s.size = s.data.toList.length:=by rw [Array.length_toList]; rfl
theorem ext_list (s : ByteArray) (a b : Nat) : (s.extract a b).data.toList = (s.data.toList.drop a).take (b - a):=by
 simp [ByteArray.data_extract,Array.toList_extract,List.extract_eq_take_drop]
theorem cut_list {s : ByteArray} {k j : Nat} (h : k + j ≤ s.size) : cutS s (k : Int) ((k + j : Nat) : Int) = some (s.extract k (k + j)) ∧ (s.extract k (k + j)).data.toList = (s.data.toList.drop k).take j:=by
 constructor
 ·unfold cutS
  rw [if_pos ⟨by omega,by omega,by rw [Int.toNat_natCast]; exact h⟩,Int.toNat_natCast,Int.toNat_natCast]
 ·rw [ext_list]; congr 1; omega
theorem b_lt (b : UInt8) : b.toNat < 256:=b.toNat_lt
theorem sat_list {s : ByteArray} {l : List UInt8} (h : s.data.toList = l) (i : Nat) (b : UInt8) (hb : l[i]? = some b) : sat s (i : Int) = some (b.toNat : Int):=by
 unfold sat
 rw [if_pos (by omega),h]
 simp [hb]
theorem tmod_nat (a b : Nat) : Int.tmod (a : Int) (b : Int) = ((a % b : Nat) : Int):=(Int.ofNat_tmod a b).symm
theorem tdiv_nat (a b : Nat) : Int.tdiv (a : Int) (b : Int) = ((a / b : Nat) : Int):=(Int.ofNat_tdiv a b).symm
theorem f93_1 (n : Nat) {t : ByteArray} {b0 : UInt8} (h : t.data.toList = [b0]) : f93 (n + 1) t = some (b0.toNat : Int):=by
 have h0:=b_lt b0
 have hs : t.size = 1:=by rw [ba_size,h]; rfl
 have e0 : sat t 0 = some (b0.toNat : Int):=sat_list h 0 b0 rfl
 simp only [f93,hs,show ((((1 : Nat) : Int)) == 1) = true from rfl,cnd,bnd_of e0]
 rw [i64_in _ (by omega)]
theorem f93_2 (n : Nat) {t : ByteArray} {b0 b1 : UInt8} (h : t.data.toList = [b0,b1]) : f93 (n + 1) t = some ((b0.toNat % 32 * 64 + b1.toNat % 64 : Nat) : Int):=by
 have h0:=b_lt b0
 have h1:=b_lt b1
 have hs : t.size = 2:=by rw [ba_size,h]; rfl
 have e0 : sat t 0 = some (b0.toNat : Int):=sat_list h 0 b0 rfl
 have e1 : sat t 1 = some (b1.toNat : Int):=sat_list h 1 b1 rfl
 simp only [f93,hs,show ((((2 : Nat) : Int)) == 1) = false from rfl,show ((((2 : Nat) : Int)) == 2) = true from rfl,cnd,bnd_of e0,bnd_of e1]
 rw [i64_in (b0.toNat : Int) (by omega),i64_in (b1.toNat : Int) (by omega)]
 have q0 : Int.tmod (b0.toNat : Int) 32 = ((b0.toNat % 32 : Nat) : Int):=tmod_nat _ 32
 have q1 : Int.tmod (b1.toNat : Int) 64 = ((b1.toNat % 64 : Nat) : Int):=tmod_nat _ 64
 rw [q0,q1,i64_in (((b0.toNat % 32 : Nat) : Int) * 64) (by omega),i64_in _ (by omega)]
 rfl
theorem f93_3 (n : Nat) {t : ByteArray} {b0 b1 b2 : UInt8} (h : t.data.toList = [b0,b1,b2]) : f93 (n + 1) t = some ((b0.toNat % 16 * 4096 + b1.toNat % 64 * 64 + b2.toNat % 64 : Nat) : Int):=by
 have h0:=b_lt b0
 have h1:=b_lt b1
 have h2:=b_lt b2
 have hs : t.size = 3:=by rw [ba_size,h]; rfl
 have e0 : sat t 0 = some (b0.toNat : Int):=sat_list h 0 b0 rfl
 have e1 : sat t 1 = some (b1.toNat : Int):=sat_list h 1 b1 rfl
 have e2 : sat t 2 = some (b2.toNat : Int):=sat_list h 2 b2 rfl
 simp only [f93,hs,show ((((3 : Nat) : Int)) == 1) = false from rfl,show ((((3 : Nat) : Int)) == 2) = false from rfl,cnd,bnd_of e0,bnd_of e1,bnd_of e2]
 rw [i64_in (b0.toNat : Int) (by omega),i64_in (b1.toNat : Int) (by omega),i64_in (b2.toNat : Int) (by omega)]
 have q0 : Int.tmod (b0.toNat : Int) 16 = ((b0.toNat % 16 : Nat) : Int):=tmod_nat _ 16
 have q1 : Int.tmod (b1.toNat : Int) 64 = ((b1.toNat % 64 : Nat) : Int):=tmod_nat _ 64
 have q2 : Int.tmod (b2.toNat : Int) 64 = ((b2.toNat % 64 : Nat) : Int):=tmod_nat _ 64
 rw [q0,q1,q2,i64_in (((b0.toNat % 16 : Nat) : Int) * 4096) (by omega),i64_in (((b1.toNat % 64 : Nat) : Int) * 64) (by omega),i64_in (((b0.toNat % 16 : Nat) : Int) * 4096 + ((b1.toNat % 64 : Nat) : Int) * 64) (by omega),i64_in _ (by omega)]
 rfl
def unitL (c : Nat) : List UInt8 :=
 if c < 128 then [UInt8.ofNat c]
 else if c < 2048 then [UInt8.ofNat (192 + c / 64),UInt8.ofNat (128 + c % 64)]
 else [UInt8.ofNat (224 + c / 4096),UInt8.ofNat (128 + c / 64 % 64),UInt8.ofNat (128 + c % 64)]
theorem f95_eq (n c : Nat) (hc : c < 65536) : ∃ t,f95 (n + 1) (c : Int) = some t ∧ t.data.toList = unitL c:=by
 have q0 : Int.tdiv (c : Int) 64 = ((c / 64 : Nat) : Int):=tdiv_nat c 64
 have q1 : Int.tmod (c : Int) 64 = ((c % 64 : Nat) : Int):=tmod_nat c 64
 have q2 : Int.tdiv (c : Int) 4096 = ((c / 4096 : Nat) : Int):=tdiv_nat c 4096
 have q3 : Int.tmod ((c / 64 : Nat) : Int) 64 = ((c / 64 % 64 : Nat) : Int):=tmod_nat (c / 64) 64
 simp only [f95,unitL]
 by_cases c1 : c < 128
 ·rw [decide_eq_true (show (c : Int) < 128 by omega),if_pos c1]
  refine ⟨_,rfl,?_⟩
  rw [u8_in _ (by omega)]
  rfl
 ·rw [decide_eq_false (show ¬ (c : Int) < 128 by omega),if_neg c1]
  by_cases c2 : c < 2048
  ·rw [decide_eq_true (show (c : Int) < 2048 by omega),if_pos c2]
   refine ⟨_,rfl,?_⟩
   rw [q0,q1,i64_in ((c / 64 : Nat) : Int) (by omega),i64_in _ (by omega),i64_in _ (by omega),u8_in _ (by omega),u8_in _ (by omega)]
   rfl
  ·rw [decide_eq_false (show ¬ (c : Int) < 2048 by omega),if_neg c2]
   refine ⟨_,rfl,?_⟩
   rw [q0,q1,q2,i64_in ((c / 64 : Nat) : Int) (by omega),i64_in ((c / 4096 : Nat) : Int) (by omega),q3,i64_in _ (by omega),i64_in _ (by omega),i64_in _ (by omega),u8_in _ (by omega),u8_in _ (by omega),u8_in _ (by omega)]
   rfl
theorem ofNat_eq {a : Nat} {b : UInt8} (ha : a < 256) : UInt8.ofNat a = b ↔ a = b.toNat:=by
 rw [← UInt8.toNat_inj,UInt8.toNat_ofNat',Nat.mod_eq_of_lt ha]
end Go.Proofs.YtkdnaejhpcibnaaGreatDoor.Av
namespace Go.Proofs.YtkdnaejhpcibnaaGreatDoor.Av
open Go Go.IntWalk
theorem scr_ge {r : Int} (h : 0 ≤ scr r) : r < 55296:=by
 apply Classical.byContradiction
 intro hr
 have : scr r = -1:=by
  simp only [scr,tab0,lookT]
  iterate 13 rw [if_neg (by omega)]
 omega
theorem get_list (s : ByteArray) {l : List UInt8} (h : s.data.toList = l) {i : Nat} {b : UInt8} (hb : l[i]? = some b) : s.get! i = b:=by
 subst h
 have : s.data[i]? = some b:=by simpa using hb
 have hlt : i < s.data.size:=(Array.getElem?_eq_some_iff.1 this).1
 show s.data[i]! = b
 rw [getElem!_pos s.data i hlt]
 exact (Array.getElem?_eq_some_iff.1 this).2
theorem dec_cases {s : ByteArray} {k : Nat} {b0 : UInt8} {r : List UInt8} (h : s.data.toList.drop k = b0 :: r) :
  (b0.toNat < 128 → Utf8.decode s k = (b0.toNat,1)) ∧
  (∀ b1 q,r = b1 :: q → b0.toNat / 32 = 6 → b1.toNat / 64 = 2 → 128 ≤ b0.toNat % 32 * 64 + b1.toNat % 64 → Utf8.decode s k = (b0.toNat % 32 * 64 + b1.toNat % 64,2)) ∧
  (∀ b1 b2 q,r = b1 :: b2 :: q → b0.toNat / 16 = 14 → b1.toNat / 64 = 2 → b2.toNat / 64 = 2 → 2048 ≤ b0.toNat % 16 * 4096 + b1.toNat % 64 * 64 + b2.toNat % 64 → b0.toNat % 16 * 4096 + b1.toNat % 64 * 64 + b2.toNat % 64 < 55296 → Utf8.decode s k = (b0.toNat % 16 * 4096 + b1.toNat % 64 * 64 + b2.toNat % 64,3)) ∧
  (0 ≤ scr ((Utf8.decode s k).1 : Int) → b0.toNat < 128 ∨ (∃ b1 q,r = b1 :: q ∧ b0.toNat / 32 = 6 ∧ b1.toNat / 64 = 2 ∧ 128 ≤ b0.toNat % 32 * 64 + b1.toNat % 64) ∨
   (∃ b1 b2 q,r = b1 :: b2 :: q ∧ b0.toNat / 16 = 14 ∧ b1.toNat / 64 = 2 ∧ b2.toNat / 64 = 2 ∧ 2048 ≤ b0.toNat % 16 * 4096 + b1.toNat % 64 * 64 + b2.toNat % 64)):=by
 have hget : ∀ j b,(b0 :: r)[j]? = some b → s.get! (k + j) = b:=by
  intro j b hb
  apply get_list s rfl
  rw [← h,List.getElem?_drop] at hb
  exact hb
 have hsz : s.size = k + (b0 :: r).length:=by
  have:=congrArg List.length h
  rw [List.length_drop] at this
  rw [ba_size]
  simp at this ⊢
  omega
 have g0 : s.get! (k + 0) = b0:=hget 0 b0 rfl
 have hb0:=b_lt b0
 refine ⟨?_,?_,?_,?_⟩
 ·intro h0
  simp only [Utf8.decode,g0,h0,if_true]
 ·intro b1 q hr h0 h1 hc
  have hb1:=b_lt b1
  have g1 : s.get! (k + 1) = b1:=hget 1 b1 (by rw [hr]; rfl)
  have hlt : k + 1 < s.size:=by rw [hsz,hr]; simp
  have n0 : ¬ b0.toNat < 128:=by omega
  simp only [Utf8.decode,g0,g1,n0,if_false,h0,h1,hlt,decide_true,Bool.and_self,beq_self_eq_true,if_true]
  rw [if_pos (by simpa using hc)]
 ·intro b1 b2 q hr h0 h1 h2 hc hv
  have hb1:=b_lt b1
  have hb2:=b_lt b2
  have g1 : s.get! (k + 1) = b1:=hget 1 b1 (by rw [hr]; rfl)
  have g2 : s.get! (k + 2) = b2:=hget 2 b2 (by rw [hr]; rfl)
  have hlt : k + 1 < s.size:=by rw [hsz,hr]; simp
  have hlt2 : k + 2 < s.size:=by rw [hsz,hr]; simp
  have n0 : ¬ b0.toNat < 128:=by omega
  have n1 : (b0.toNat / 32 == 6) = false:=by simp; omega
  have hval : Utf8.valid (b0.toNat % 16 * 4096 + b1.toNat % 64 * 64 + b2.toNat % 64 : Nat) = true:=by
   simp only [Utf8.valid,Bool.or_eq_true,Bool.and_eq_true,decide_eq_true_eq]
   left; omega
  simp only [Utf8.decode,g0,g1,g2,n0,if_false,n1,Bool.false_and,Bool.false_eq_true,h0,h1,h2,hlt,hlt2,decide_true,Bool.and_self,beq_self_eq_true,if_true]
  rw [if_pos (by rw [hval]; simpa using hc)]
 ·intro hs
  by_cases c0 : b0.toNat < 128
  ·exact .inl c0
  right
  have hbad : ¬ 0 ≤ scr ((65533 : Nat) : Int):=fun h => by have:=scr_ge h; omega
  have eC : ∀ j,(decide (k + j < s.size) && (s.get! (k + j)).toNat / 64 == 2) = true → ∃ b,(b0 :: r)[j]? = some b ∧ b.toNat / 64 = 2:=by
   intro j hj
   simp only [Bool.and_eq_true,decide_eq_true_eq,beq_iff_eq] at hj
   have hjl : j < (b0 :: r).length:=by omega
   refine ⟨(b0 :: r)[j],List.getElem?_eq_getElem hjl,?_⟩
   rw [← hget j _ (List.getElem?_eq_getElem hjl)]
   exact hj.2
  unfold Utf8.decode at hs
  simp only [Utf8.runeError,g0,c0,if_false] at hs
  split at hs
  ·rename_i hc
   rw [Bool.and_eq_true,beq_iff_eq] at hc
   split at hs
   ·rename_i hge
    left
    obtain ⟨b1,e1,e2⟩:=eC 1 hc.2
    cases r with
    | nil => simp at e1
    | cons b q =>
     simp only [List.getElem?_cons_succ,List.getElem?_cons_zero,Option.some.injEq] at e1
     subst e1
     refine ⟨b,q,rfl,hc.1,e2,?_⟩
     have g1 : s.get! (k + 1) = b:=hget 1 b rfl
     rw [g1] at hge
     exact hge
   ·exact (hbad hs).elim
  ·split at hs
   ·rename_i hc
    rw [Bool.and_eq_true,Bool.and_eq_true,beq_iff_eq] at hc
    split at hs
    ·rename_i hge
     right
     obtain ⟨b1,e1,e2⟩:=eC 1 hc.1.2
     obtain ⟨b2,e3,e4⟩:=eC 2 hc.2
     match r,e1,e3 with
     | b :: d :: q,e1,e3 =>
      simp only [List.getElem?_cons_succ,List.getElem?_cons_zero,Option.some.injEq] at e1 e3
      subst e1
      subst e3
      have g1 : s.get! (k + 1) = b:=hget 1 b rfl
      have g2 : s.get! (k + 2) = d:=hget 2 d rfl
      rw [g1,g2,Bool.and_eq_true,decide_eq_true_eq] at hge
      exact ⟨b,d,q,rfl,hc.1.1,e2,e4,hge.1⟩
    ·exact (hbad hs).elim
   ·split at hs
    ·split at hs
     ·rename_i hge
      have:=scr_ge hs
      simp only [Bool.and_eq_true,decide_eq_true_eq] at hge
      omega
     ·exact (hbad hs).elim
    ·exact (hbad hs).elim
end Go.Proofs.YtkdnaejhpcibnaaGreatDoor.Av
namespace Go.Proofs.YtkdnaejhpcibnaaGreatDoor.Av
open Go Go.IntWalk
structure DecC (s : ByteArray) (k : Nat) (b0 : UInt8) (r : List UInt8) : Prop where
 d1 : b0.toNat < 128 → Utf8.decode s k = (b0.toNat,1)
 d2 : ∀ b1 q,r = b1 :: q → b0.toNat / 32 = 6 → b1.toNat / 64 = 2 → 128 ≤ b0.toNat % 32 * 64 + b1.toNat % 64 → Utf8.decode s k = (b0.toNat % 32 * 64 + b1.toNat % 64,2)
 d3 : ∀ b1 b2 q,r = b1 :: b2 :: q → b0.toNat / 16 = 14 → b1.toNat / 64 = 2 → b2.toNat / 64 = 2 → 2048 ≤ b0.toNat % 16 * 4096 + b1.toNat % 64 * 64 + b2.toNat % 64 → b0.toNat % 16 * 4096 + b1.toNat % 64 * 64 + b2.toNat % 64 < 55296 → Utf8.decode s k = (b0.toNat % 16 * 4096 + b1.toNat % 64 * 64 + b2.toNat % 64,3)
 d4 : 0 ≤ scr ((Utf8.decode s k).1 : Int) → b0.toNat < 128 ∨ (∃ b1 q,r = b1 :: q ∧ b0.toNat / 32 = 6 ∧ b1.toNat / 64 = 2 ∧ 128 ≤ b0.toNat % 32 * 64 + b1.toNat % 64) ∨
   (∃ b1 b2 q,r = b1 :: b2 :: q ∧ b0.toNat / 16 = 14 ∧ b1.toNat / 64 = 2 ∧ b2.toNat / 64 = 2 ∧ 2048 ≤ b0.toNat % 16 * 4096 + b1.toNat % 64 * 64 + b2.toNat % 64)
theorem unit1 {b0 : UInt8} : unitL b0.toNat = [b0] ↔ b0.toNat < 128:=by
 have h0:=b_lt b0
 unfold unitL
 split
 ·rename_i h; simp [ofNat_eq h0,h]
 ·rename_i h; split <;> simp [h]
theorem unit2 {b0 b1 : UInt8} : unitL (b0.toNat % 32 * 64 + b1.toNat % 64) = [b0,b1] ↔ 128 ≤ b0.toNat % 32 * 64 + b1.toNat % 64 ∧ b0.toNat / 32 = 6 ∧ b1.toNat / 64 = 2:=by
 have h0:=b_lt b0
 have h1:=b_lt b1
 unfold unitL
 split
 ·rename_i h; simp; omega
 ·rename_i h
  rw [if_pos (by omega)]
  simp only [List.cons.injEq,and_true]
  rw [ofNat_eq (by omega),ofNat_eq (by omega)]
  omega
theorem unit3 {b0 b1 b2 : UInt8} : unitL (b0.toNat % 16 * 4096 + b1.toNat % 64 * 64 + b2.toNat % 64) = [b0,b1,b2] ↔ 2048 ≤ b0.toNat % 16 * 4096 + b1.toNat % 64 * 64 + b2.toNat % 64 ∧ b0.toNat / 16 = 14 ∧ b1.toNat / 64 = 2 ∧ b2.toNat / 64 = 2:=by
 have h0:=b_lt b0
 have h1:=b_lt b1
 have h2:=b_lt b2
 unfold unitL
 split
 ·rename_i h; simp; omega
 ·split
  ·rename_i h; simp; omega
  ·rename_i h
   simp only [List.cons.injEq,and_true]
   rw [ofNat_eq (by omega),ofNat_eq (by omega),ofNat_eq (by omega)]
   omega
theorem inner_stop (n : Nat) (s : ByteArray) (k : Int) (m : Nat) (l : List Int) (u i : Int) (hu : u ≠ 0) : f70_L1 n s k (m + 1) l u i = some (l,u):=by
 have h0 : (u == 0) = false:=beq_eq_false_iff_ne.2 hu
 simp only [f70_L1,h0]
 cases decide (i ≤ 3) with
 | false => rfl
 | true => cases decide (IntKind.i64.wrap (k + i) ≤ ((s.size : Nat) : Int)) <;> rfl
theorem inner_end (n : Nat) (s : ByteArray) (k j m : Nat) (l : List Int) (h : 3 < j ∨ s.size < k + j) (hk : k + j ≤ 1000) : f70_L1 n s (k : Int) (m + 1) l 0 (j : Int) = some (l,0):=by
 have hw : IntKind.i64.wrap ((k : Int) + (j : Int)) = (k : Int) + j:=i64_in _ (by omega)
 simp only [f70_L1,hw]
 rcases h with h | h
 ·rw [decide_eq_false (show ¬ (j : Int) ≤ 3 by omega)]; rfl
 ·rw [decide_eq_false (show ¬ (k : Int) + (j : Int) ≤ ((s.size : Nat) : Int) by omega)]
  cases decide ((j : Int) ≤ 3) <;> rfl
theorem inner_round (n : Nat) (s : ByteArray) (k j m c : Nat) (l : List Int) (hj : j ≤ 3) (hkj : k + j ≤ s.size) (hsz : s.size ≤ 40) (hl : l.length ≤ 1000) (hv : f93 (n + 2) (s.extract k (k + j)) = some (c : Int)) (hc : c < 65536) (hj0 : 1 ≤ j) :
  f70_L1 (n + 2) s (k : Int) (m + 2) l 0 (j : Int) = if 0 ≤ scr (c : Int) ∧ unitL c = (s.data.toList.drop k).take j then some (l ++ [(c : Int)],(j : Int)) else f70_L1 (n + 2) s (k : Int) (m + 1) l 0 ((j + 1 : Nat) : Int):=by
 have hw : IntKind.i64.wrap ((k : Int) + (j : Int)) = ((k + j : Nat) : Int):=by rw [i64_in _ (by omega)]; push_cast; rfl
 have hw2 : IntKind.i64.wrap ((j : Int) + 1) = ((j + 1 : Nat) : Int):=by rw [i64_in _ (by omega)]; push_cast; rfl
 obtain ⟨hcut,hlist⟩:=cut_list hkj
 obtain ⟨t,ht1,ht2⟩:=f95_eq (n + 1) c hc
 have happ : app l [(c : Int)] = some (l ++ [(c : Int)]):=app_of (by simp; omega)
 rw [f70_L1,decide_eq_true (show (j : Int) ≤ 3 by omega),hw,decide_eq_true (show ((k + j : Nat) : Int) ≤ ((s.size : Nat) : Int) by omega)]
 simp only [cnd,show ((0 : Int) == 0) = true from rfl,bnd_of hcut,bnd_of hv,bnd_of (f94_eq n (c : Int)),hw2,bnd_of happ]
 by_cases c1 : 0 ≤ scr (c : Int)
 ·rw [decide_eq_true (show scr (c : Int) ≥ 0 from c1)]
  have ht1' : f95 (n + 2) (c : Int) = some t:=ht1
  simp only [bnd_of ht1']
  by_cases c2 : t = s.extract k (k + j)
  ·rw [decide_eq_true c2,if_pos ⟨c1,by rw [← ht2,c2,hlist]⟩]
   exact inner_stop _ _ _ _ _ _ _ (by omega)
  ·rw [decide_eq_false c2,if_neg (fun h => c2 (ba_ext.2 (by rw [ht2,h.2,hlist])))]
 ·rw [decide_eq_false (show ¬ scr (c : Int) ≥ 0 from c1),if_neg (fun h => c1 h.1)]
theorem inner (n : Nat) (s : ByteArray) (k m : Nat) (l : List Int) (hk : k < s.size) (hsz : s.size ≤ 40) (hl : l.length ≤ 1000) (hm : 5 ≤ m) (hn : 2 ≤ n) :
  f70_L1 n s (k : Int) m l 0 1 = some (if 0 ≤ scr ((Utf8.decode s k).1 : Int) then (l ++ [((Utf8.decode s k).1 : Int)],((Utf8.decode s k).2 : Int)) else (l,0)):=by
 obtain ⟨n,rfl⟩ : ∃ z,n = z + 2:=⟨n - 2,by omega⟩
 obtain ⟨m,rfl⟩ : ∃ z,m = z + 5:=⟨m - 5,by omega⟩
 have hlt : k < s.data.toList.length:=by rw [← ba_size]; exact hk
 have hd : s.data.toList.drop k = s.data.toList[k] :: s.data.toList.drop (k + 1):=List.drop_eq_getElem_cons hlt
 have hlen : (s.data.toList.drop (k + 1)).length = s.size - (k + 1):=by rw [List.length_drop,← ba_size]
 generalize s.data.toList[k] = b0 at hd
 generalize s.data.toList.drop (k + 1) = r at hd hlen
 have D : DecC s k b0 r:=⟨(dec_cases hd).1,(dec_cases hd).2.1,(dec_cases hd).2.2.1,(dec_cases hd).2.2.2⟩
 have h0:=b_lt b0
 have e1 : (s.extract k (k + 1)).data.toList = [b0]:=by rw [(cut_list (s:=s) (k:=k) (j:=1) (by omega)).2,hd]; rfl
 have r1:=inner_round n s k 1 (m + 3) b0.toNat l (by omega) (by omega) hsz hl (f93_1 (n + 1) e1) (by omega) (by omega)
 have t1 : (s.data.toList.drop k).take 1 = [b0]:=by rw [hd]; rfl
 rw [t1] at r1
 have g1 : f70_L1 (n + 2) s (k : Int) (m + 5) l 0 1 = _:=r1
 rw [g1]
 by_cases A1 : 0 ≤ scr (b0.toNat : Int) ∧ unitL b0.toNat = [b0]
 ·rw [if_pos A1,D.d1 (unit1.1 A1.2),if_pos A1.1]
 ·rw [if_neg A1]
  match r,hd,hlen,D with
  | [],hd,hlen,D =>
   have hl0 : s.size = k + 1:=by simp at hlen; omega
   rw [inner_end (n + 2) s k 2 (m + 3) l (.inr (by omega)) (by omega),if_neg]
   intro hs
   rcases D.d4 hs with q | ⟨_,_,q,_⟩ | ⟨_,_,_,q,_⟩
   ·rw [D.d1 q] at hs; exact A1 ⟨hs,unit1.2 q⟩
   ·cases q
   ·cases q
  | b1 :: q,hd,hlen,D =>
   have h1:=b_lt b1
   have hsz2 : k + 2 ≤ s.size:=by simp at hlen; omega
   have e2 : (s.extract k (k + 2)).data.toList = [b0,b1]:=by rw [(cut_list (s:=s) (k:=k) (j:=2) hsz2).2,hd]; rfl
   have r2:=inner_round n s k 2 (m + 2) _ l (by omega) hsz2 hsz hl (f93_2 (n + 1) e2) (by omega) (by omega)
   have t2 : (s.data.toList.drop k).take 2 = [b0,b1]:=by rw [hd]; rfl
   rw [t2] at r2
   have g2 : f70_L1 (n + 2) s (k : Int) (m + 4) l 0 ((1 + 1 : Nat) : Int) = _:=r2
   show f70_L1 (n + 2) s (k : Int) (m + 4) l 0 ((1 + 1 : Nat) : Int) = _
   rw [g2]
   by_cases A2 : 0 ≤ scr ((b0.toNat % 32 * 64 + b1.toNat % 64 : Nat) : Int) ∧ unitL (b0.toNat % 32 * 64 + b1.toNat % 64) = [b0,b1]
   ·have B:=unit2.1 A2.2
    rw [if_pos A2,D.d2 b1 q rfl B.2.1 B.2.2 B.1,if_pos A2.1]
   ·rw [if_neg A2]
    match q,hd,hlen,D with
    | [],hd,hlen,D =>
     have hl0 : s.size = k + 2:=by simp at hlen; omega
     rw [show ((2 + 1 : Nat) : Int) = ((3 : Nat) : Int) from rfl,inner_end (n + 2) s k 3 (m + 2) l (.inr (by omega)) (by omega),if_neg]
     intro hs
     rcases D.d4 hs with z | ⟨x,y,z,z1,z2,z3⟩ | ⟨_,_,_,z,_⟩
     ·rw [D.d1 z] at hs; exact A1 ⟨hs,unit1.2 z⟩
     ·cases z
      rw [D.d2 _ _ rfl z1 z2 z3] at hs
      exact A2 ⟨hs,unit2.2 ⟨z3,z1,z2⟩⟩
     ·cases z
    | b2 :: q,hd,hlen,D =>
     have h2:=b_lt b2
     have hsz3 : k + 3 ≤ s.size:=by simp at hlen; omega
     have e3 : (s.extract k (k + 3)).data.toList = [b0,b1,b2]:=by rw [(cut_list (s:=s) (k:=k) (j:=3) hsz3).2,hd]; rfl
     have r3:=inner_round n s k 3 (m + 1) _ l (by omega) hsz3 hsz hl (f93_3 (n + 1) e3) (by omega) (by omega)
     have t3 : (s.data.toList.drop k).take 3 = [b0,b1,b2]:=by rw [hd]; rfl
     rw [t3] at r3
     show f70_L1 (n + 2) s (k : Int) (m + 1 + 2) l 0 ((3 : Nat) : Int) = _
     rw [r3]
     by_cases A3 : 0 ≤ scr ((b0.toNat % 16 * 4096 + b1.toNat % 64 * 64 + b2.toNat % 64 : Nat) : Int) ∧ unitL (b0.toNat % 16 * 4096 + b1.toNat % 64 * 64 + b2.toNat % 64) = [b0,b1,b2]
     ·have hv:=scr_ge A3.1
      have B:=unit3.1 A3.2
      rw [if_pos A3,D.d3 b1 b2 q rfl B.2.1 B.2.2.1 B.2.2.2 B.1 (by omega),if_pos A3.1]
     ·rw [if_neg A3,inner_end (n + 2) s k 4 (m + 1) l (.inl (by omega)) (by omega),if_neg]
      intro hs
      rcases D.d4 hs with z | ⟨x,y,z,z1,z2,z3⟩ | ⟨x,y,w,z,z1,z2,z3,z4⟩
      ·rw [D.d1 z] at hs; exact A1 ⟨hs,unit1.2 z⟩
      ·cases z
       rw [D.d2 _ _ rfl z1 z2 z3] at hs
       exact A2 ⟨hs,unit2.2 ⟨z3,z1,z2⟩⟩
      ·cases z
       by_cases hv : b0.toNat % 16 * 4096 + b1.toNat % 64 * 64 + b2.toNat % 64 < 55296
       ·rw [D.d3 _ _ _ rfl z1 z2 z3 z4 hv] at hs
        exact A3 ⟨hs,unit3.2 ⟨z4,z1,z2,z3⟩⟩
       ·have hb:=b_lt b0
        have hdec : (Utf8.decode s k).1 = 65533 ∨ (Utf8.decode s k).1 = b0.toNat % 16 * 4096 + b1.toNat % 64 * 64 + b2.toNat % 64:=by
         have hget : ∀ j b,(b0 :: b1 :: b2 :: q)[j]? = some b → s.get! (k + j) = b:=by
          intro j b hb
          apply get_list s rfl
          rw [← hd,List.getElem?_drop] at hb
          exact hb
         have g0 : s.get! (k + 0) = b0:=hget 0 b0 rfl
         have g1 : s.get! (k + 1) = b1:=hget 1 b1 rfl
         have g2 : s.get! (k + 2) = b2:=hget 2 b2 rfl
         have n0 : ¬ b0.toNat < 128:=by omega
         have n1 : (b0.toNat / 32 == 6) = false:=by simp; omega
         have l1 : k + 1 < s.size:=by omega
         have l2 : k + 2 < s.size:=by omega
         simp only [Utf8.decode,g0,g1,g2,n0,if_false,n1,Bool.false_and,Bool.false_eq_true,z1,z2,z3,l1,l2,decide_true,Bool.and_self,beq_self_eq_true,if_true]
         split
         ·exact .inr rfl
         ·exact .inl rfl
        rcases hdec with q | q
        ·rw [q] at hs; have:=scr_ge hs; omega
        ·rw [q] at hs; have:=scr_ge hs; omega
end Go.Proofs.YtkdnaejhpcibnaaGreatDoor.Av
namespace Go.Proofs.YtkdnaejhpcibnaaGreatDoor.Av
open Go Go.IntWalk
theorem dec_bnd (s : ByteArray) (k : Nat) : 1 ≤ (Utf8.decode s k).2 ∧ (Utf8.decode s k).2 ≤ 4 ∧ (Utf8.decode s k).1 < 2097152:=by
 have h0:=b_lt (s.get! (k + 0))
 have h1:=b_lt (s.get! (k + 1))
 have h2:=b_lt (s.get! (k + 2))
 have h3:=b_lt (s.get! (k + 3))
 unfold Utf8.decode
 simp only [Utf8.runeError]
 have hk : ∀ (p : Prop) [Decidable p] (a b : Nat × Nat),(p → (1 ≤ a.2 ∧ a.2 ≤ 4 ∧ a.1 < 2097152)) → (1 ≤ b.2 ∧ b.2 ≤ 4 ∧ b.1 < 2097152) → (1 ≤ (if p then a else b).2 ∧ (if p then a else b).2 ≤ 4 ∧ (if p then a else b).1 < 2097152):=by
  intro p _ a b h1 h2
  split
  ·exact h1 (by assumption)
  ·exact h2
 repeat' (first | (apply hk; intro _) | apply hk)
 all_goals (simp only []; omega)
def dl (s : ByteArray) : Nat → Nat → Option (List Int)
 | 0,_ => none
 | f + 1,k => if k < s.size then (if 0 ≤ scr ((Utf8.decode s k).1 : Int) then (match dl s f (k + (Utf8.decode s k).2) with | some r => some (((Utf8.decode s k).1 : Int) :: r) | none => none) else none) else some []
theorem f85_L0_eq (n : Nat) (hn : 15 ≤ n) (s : ByteArray) (hs : s.size ≤ 40) : ∀ (m : Nat) (l : List Int) (k : Nat),s.size - k < m → l.length + (s.size - k) ≤ 100 →
  ∃ z,f85_L0 n s m l k = some z ∧ (match dl s m k with | some r => ∃ q,z = .inr (l ++ r,q) | none => ∃ q,z = .inl q):=by
 intro m
 induction m with
 | zero => intro l k h; omega
 | succ m ih =>
  intro l k h hl
  obtain ⟨w1,w2,w3⟩:=dec_bnd s k
  simp only [f85_L0,dl]
  by_cases hk : k < s.size
  ·rw [decide_eq_true hk,if_pos hk]
   have hw : IntKind.i64.wrap (((Utf8.decode s k).1 : Nat) : Int) = ((Utf8.decode s k).1 : Int):=i64_in _ (by omega)
   have happ : app l [((Utf8.decode s k).1 : Int)] = some (l ++ [((Utf8.decode s k).1 : Int)]):=app_of (by simp; omega)
   simp only [cnd,hw,bnd_of (f87_eq n _ hn),bnd_of happ]
   by_cases hc : 0 ≤ scr ((Utf8.decode s k).1 : Int)
   ·rw [decide_eq_false (show ¬ scr ((Utf8.decode s k).1 : Int) < 0 by omega),if_pos hc]
    obtain ⟨z,z1,z2⟩:=ih (l ++ [((Utf8.decode s k).1 : Int)]) (k + (Utf8.decode s k).2) (by omega) (by simp; omega)
    refine ⟨z,z1,?_⟩
    cases hd : dl s m (k + (Utf8.decode s k).2) with
    | none => rw [hd] at z2; exact z2
    | some r =>
     rw [hd] at z2
     obtain ⟨q,rfl⟩:=z2
     exact ⟨q,by simp⟩
   ·rw [decide_eq_true (show scr ((Utf8.decode s k).1 : Int) < 0 by omega),if_neg hc]
    exact ⟨_,rfl,_,rfl⟩
  ·rw [decide_eq_false hk,if_neg hk]
   exact ⟨_,rfl,_,by rw [List.append_nil]⟩
theorem f70_L0_eq (n : Nat) (hn : 10 ≤ n) (s : ByteArray) (hs : s.size ≤ 40) : ∀ (m : Nat) (l : List Int) (k : Nat),s.size - k < m → l.length + (s.size - k) ≤ 100 → k ≤ 100 →
  ∃ z,f70_L0 n s m l (k : Int) = some z ∧ (match dl s m k with | some r => z = .inr (l ++ r) | none => ∃ q,z = .inl q):=by
 intro m
 induction m with
 | zero => intro l k h; omega
 | succ m ih =>
  intro l k h hl hk0
  obtain ⟨w1,w2,w3⟩:=dec_bnd s k
  simp only [f70_L0,dl]
  by_cases hk : k < s.size
  ·rw [decide_eq_true (show (k : Int) < ((s.size : Nat) : Int) by omega),if_pos hk]
   simp only [cnd,bnd_of (inner n s k n l hk hs (by omega) (by omega) (by omega))]
   by_cases hc : 0 ≤ scr ((Utf8.decode s k).1 : Int)
   ·have hw : IntKind.i64.wrap ((k : Int) + ((Utf8.decode s k).2 : Int)) = ((k + (Utf8.decode s k).2 : Nat) : Int):=by rw [i64_in _ (by omega)]; push_cast; rfl
    have hne : (((Utf8.decode s k).2 : Int) == 0) = false:=beq_eq_false_iff_ne.2 (by omega)
    rw [if_pos hc,if_pos hc]
    simp only [hw,hne]
    obtain ⟨z,z1,z2⟩:=ih (l ++ [((Utf8.decode s k).1 : Int)]) (k + (Utf8.decode s k).2) (by omega) (by simp; omega) (by omega)
    refine ⟨z,z1,?_⟩
    cases hd : dl s m (k + (Utf8.decode s k).2) with
    | none => rw [hd] at z2; exact z2
    | some r =>
     rw [hd] at z2
     rw [z2]; simp
   ·rw [if_neg hc,if_neg hc]
    exact ⟨_,rfl,_,rfl⟩
  ·rw [decide_eq_false (show ¬ (k : Int) < ((s.size : Nat) : Int) by omega),if_neg hk]
   exact ⟨_,rfl,by simp⟩
theorem dl_fuel (s : ByteArray) : ∀ (m m' k : Nat),s.size - k < m → s.size - k < m' → dl s m k = dl s m' k:=by
 intro m
 induction m with
 | zero => intro m' k h; omega
 | succ m ih =>
  intro m' k h h'
  obtain ⟨m',rfl⟩ : ∃ z,m' = z + 1:=⟨m' - 1,by omega⟩
  obtain ⟨w1,_,_⟩:=dec_bnd s k
  simp only [dl]
  by_cases hk : k < s.size
  ·rw [if_pos hk,if_pos hk,ih m' (k + (Utf8.decode s k).2) (by omega) (by omega)]
  ·rw [if_neg hk,if_neg hk]
def dls (s : ByteArray) : Option (List Int):=dl s (s.size + 1) 0
theorem f85_eq (n : Nat) (hn : 50 ≤ n) (s : ByteArray) (hs : s.size ≤ 40) : f85 n s = some (match dls s with | some r => (r,0) | none => ([],4)):=by
 obtain ⟨n,rfl⟩ : ∃ z,n = z + 1:=⟨n - 1,by omega⟩
 obtain ⟨z,h1,h2⟩:=f85_L0_eq n (by omega) s hs n [] 0 (by omega) (by simp; omega)
 rw [dl_fuel s n (s.size + 1) 0 (by omega) (by omega)] at h2
 simp only [f85,h1,dls]
 cases hd : dl s (s.size + 1) 0 with
 | none => rw [hd] at h2; obtain ⟨q,rfl⟩:=h2; rfl
 | some r => rw [hd] at h2; obtain ⟨q,rfl⟩:=h2; rfl
theorem f70_eq (n : Nat) (hn : 50 ≤ n) (s : ByteArray) (hs : s.size ≤ 40) : f70 n s = some (match dls s with | some r => (r,0) | none => ([],4)):=by
 obtain ⟨n,rfl⟩ : ∃ z,n = z + 1:=⟨n - 1,by omega⟩
 obtain ⟨z,h1,h2⟩:=f70_L0_eq n (by omega) s hs n [] 0 (by omega) (by simp; omega) (by omega)
 rw [dl_fuel s n (s.size + 1) 0 (by omega) (by omega)] at h2
 have h1' : f70_L0 n s n [] 0 = some z:=h1
 simp only [f70,h1',dls]
 cases hd : dl s (s.size + 1) 0 with
 | none => rw [hd] at h2; obtain ⟨q,rfl⟩:=h2; rfl
 | some r => rw [hd] at h2; subst h2; rfl
end Go.Proofs.YtkdnaejhpcibnaaGreatDoor.Av
namespace Go.Proofs.YtkdnaejhpcibnaaGreatDoor.Av
open Go Go.IntWalk
def adj {α : Type} [DecidableEq α] (z : α) : List α → Bool
 | [] => false
 | a :: r => (decide (a = z) && decide (r.head? = some z)) || adj z r
theorem contains_adj (l : List UInt8) : Lib.contains l [32,32] = adj 32 l:=by
 induction l with
 | nil => rfl
 | cons b l ih =>
  unfold Lib.contains at ih ⊢
  unfold Lib.index
  have hp : ([32,32] : List UInt8).isPrefixOf (b :: l) = (decide (b = 32) && decide (l.head? = some 32)):=by
   cases l with
   | nil => simp [List.isPrefixOf]
   | cons c r =>
    simp only [List.isPrefixOf,Bool.and_true,List.head?_cons,Option.some.injEq]
    congr 1
    ·rw [Bool.eq_iff_iff,beq_iff_eq,decide_eq_true_eq]; exact eq_comm
    ·rw [Bool.eq_iff_iff,beq_iff_eq,decide_eq_true_eq]; exact eq_comm
  rw [hp]
  simp only [adj]
  rw [← ih]
  have hge:=Lib.index_ge l [32,32]
  cases (decide (b = 32) && decide (l.head? = some 32)) with
  | true => simp
  | false =>
   simp only [Bool.false_eq_true,if_false,Bool.false_or]
   by_cases h : Lib.index l [32,32] = -1
   ·simp [h]
   ·have : (Lib.index l [32,32] == -1) = false:=beq_eq_false_iff_ne.2 h
    rw [this]
    simp only [Bool.false_eq_true,if_false]
    rw [decide_eq_true (by omega),decide_eq_true (by omega)]
def UB (c : Int) : List UInt8:=unitL c.toNat
def good (c : Int) : Prop:=0 ≤ scr c
theorem good_bnd {c : Int} (h : good c) : 32 ≤ c ∧ c < 55296:=by
 refine ⟨?_,scr_ge h⟩
 apply Classical.byContradiction
 intro hc
 have : scr c = -1:=by
  simp only [scr,tab0,lookT]
  iterate 13 rw [if_neg (by omega)]
 unfold good at h
 omega
theorem UB_32 : UB 32 = [32]:=rfl
theorem UB_ne {c : Int} (h : good c) : UB c ≠ []:=by
 unfold UB unitL
 split
 ·simp
 ·split <;> simp
theorem UB_not {c : Int} (h : good c) (hc : c ≠ 32) : ∀ b ∈ UB c,b ≠ 32:=by
 obtain ⟨h1,h2⟩:=good_bnd h
 have key : ∀ a : Nat,a < 256 → a ≠ 32 → UInt8.ofNat a ≠ 32:=by
  intro a ha hne e
  apply hne
  have:=(ofNat_eq (b:=32) ha).1 e
  simpa using this
 unfold UB unitL
 intro b hb
 split at hb
 ·simp only [List.mem_singleton] at hb
  subst hb
  exact key _ (by omega) (by omega)
 ·split at hb
  ·simp only [List.mem_cons,List.not_mem_nil,or_false] at hb
   rcases hb with rfl | rfl
   ·exact key _ (by omega) (by omega)
   ·exact key _ (by omega) (by omega)
  ·simp only [List.mem_cons,List.not_mem_nil,or_false] at hb
   rcases hb with rfl | rfl | rfl
   ·exact key _ (by omega) (by omega)
   ·exact key _ (by omega) (by omega)
   ·exact key _ (by omega) (by omega)
theorem head_flat (l : List Int) (hl : ∀ c ∈ l,good c) : (l.flatMap UB).head? = some 32 ↔ l.head? = some 32:=by
 cases l with
 | nil => simp
 | cons c r =>
  have hg:=hl c (by simp)
  rw [List.flatMap_cons]
  by_cases hc : c = 32
  ·subst hc; simp [UB_32]
  ·cases hu : UB c with
   | nil => exact (UB_ne hg hu).elim
   | cons b q =>
    have:=UB_not hg hc b (by rw [hu]; simp)
    simp [this,hc]
theorem adj_skip (xs ys : List UInt8) (h : ∀ b ∈ xs,b ≠ 32) : adj 32 (xs ++ ys) = adj 32 ys:=by
 induction xs with
 | nil => rfl
 | cons b q ih =>
  have hb:=h b (by simp)
  simp only [List.cons_append,adj,hb,decide_false,Bool.false_and,Bool.false_or]
  exact ih fun b hb => h b (by simp [hb])
theorem adj_flat (l : List Int) (hl : ∀ c ∈ l,good c) : adj 32 (l.flatMap UB) = adj 32 l:=by
 induction l with
 | nil => rfl
 | cons c r ih =>
  have hg:=hl c (by simp)
  have hr : ∀ c ∈ r,good c:=fun c hc => hl c (by simp [hc])
  rw [List.flatMap_cons]
  by_cases hc : c = 32
  ·subst hc
   rw [UB_32]
   simp only [List.cons_append,List.nil_append,adj,ih hr,decide_true,Bool.true_and]
   congr 1
   rw [Bool.eq_iff_iff]
   simp only [decide_eq_true_eq]
   exact head_flat r hr
  ·rw [adj_skip _ _ (UB_not hg hc),ih hr]
   simp [adj,hc]
theorem last_flat (l : List Int) (hl : ∀ c ∈ l,good c) : (l.flatMap UB).getLast? = some 32 ↔ l.getLast? = some 32:=by
 rcases List.eq_nil_or_concat l with rfl | ⟨q,c,rfl⟩
 ·simp
 ·have hg:=hl c (by simp)
  rw [List.concat_eq_append,List.flatMap_append,List.flatMap_cons,List.flatMap_nil,List.append_nil,List.getLast?_append,List.getLast?_append]
  simp only [List.getLast?_singleton,Option.some_or,Option.some.injEq]
  by_cases hc : c = 32
  ·subst hc; simp [UB_32]
  ·have hne:=UB_ne hg
   rw [List.getLast?_eq_some_getLast hne]
   simp only [Option.some_or,Option.some.injEq,hc,iff_false]
   exact UB_not hg hc _ (List.getLast_mem hne)
theorem step_unit {s : ByteArray} {k : Nat} (hk : k < s.size) (hs : 0 ≤ scr ((Utf8.decode s k).1 : Int)) :
  s.data.toList.drop k = UB ((Utf8.decode s k).1 : Int) ++ s.data.toList.drop (k + (Utf8.decode s k).2):=by
 have hlt : k < s.data.toList.length:=by rw [← ba_size]; exact hk
 have hd : s.data.toList.drop k = s.data.toList[k] :: s.data.toList.drop (k + 1):=List.drop_eq_getElem_cons hlt
 generalize s.data.toList[k] = b0 at hd
 generalize hr : s.data.toList.drop (k + 1) = r at hd
 have hdd : ∀ j,s.data.toList.drop (k + 1 + j) = r.drop j:=by
  intro j
  rw [← hr,List.drop_drop]
 obtain ⟨D1,D2,D3,D4⟩:=dec_cases hd
 rcases D4 hs with z | ⟨b1,q,z,z1,z2,z3⟩ | ⟨b1,b2,q,z,z1,z2,z3,z4⟩
 ·rw [D1 z,hd]
  show b0 :: r = unitL b0.toNat ++ s.data.toList.drop (k + 1)
  rw [unit1.2 z,hr]; rfl
 ·rw [D2 b1 q z z1 z2 z3,hd]
  show b0 :: r = unitL (b0.toNat % 32 * 64 + b1.toNat % 64) ++ s.data.toList.drop (k + 1 + 1)
  rw [unit2.2 ⟨z3,z1,z2⟩,hdd 1,z]; rfl
 ·by_cases hv : b0.toNat % 16 * 4096 + b1.toNat % 64 * 64 + b2.toNat % 64 < 55296
  ·rw [D3 b1 b2 q z z1 z2 z3 z4 hv,hd]
   show b0 :: r = unitL (b0.toNat % 16 * 4096 + b1.toNat % 64 * 64 + b2.toNat % 64) ++ s.data.toList.drop (k + 1 + 2)
   rw [unit3.2 ⟨z4,z1,z2,z3⟩,hdd 2,z]; rfl
  ·exfalso
   clear D1 D2 D3 D4
   have hget : ∀ j b,(b0 :: r)[j]? = some b → s.get! (k + j) = b:=by
    intro j b hb
    apply get_list s rfl
    rw [← hd,List.getElem?_drop] at hb
    exact hb
   have hsz : s.size = k + (b0 :: r).length:=by
    have:=congrArg List.length hd
    rw [List.length_drop] at this
    rw [ba_size]
    simp only [List.length_cons] at this ⊢
    omega
   subst z
   have g0 : s.get! (k + 0) = b0:=hget 0 b0 rfl
   have g1 : s.get! (k + 1) = b1:=hget 1 b1 rfl
   have g2 : s.get! (k + 2) = b2:=hget 2 b2 rfl
   have n0 : ¬ b0.toNat < 128:=by omega
   have hb0:=b_lt b0
   have n1 : (b0.toNat / 32 == 6) = false:=by simp; omega
   have l1 : k + 1 < s.size:=by rw [hsz]; simp
   have l2 : k + 2 < s.size:=by rw [hsz]; simp
   have hdec : (Utf8.decode s k).1 = 65533 ∨ (Utf8.decode s k).1 = b0.toNat % 16 * 4096 + b1.toNat % 64 * 64 + b2.toNat % 64:=by
    simp only [Utf8.decode,g0,g1,g2,n0,if_false,n1,Bool.false_and,Bool.false_eq_true,z1,z2,z3,l1,l2,decide_true,Bool.and_self,beq_self_eq_true,if_true]
    split
    ·exact .inr rfl
    ·exact .inl rfl
   have:=scr_ge hs
   rcases hdec with q | q <;> rw [q] at this <;> omega
theorem dl_flat (s : ByteArray) : ∀ (m k : Nat) (r : List Int),dl s m k = some r → s.data.toList.drop k = r.flatMap UB ∧ (∀ c ∈ r,good c) ∧ r.length ≤ s.size - k:=by
 intro m
 induction m with
 | zero => intro k r h; cases h
 | succ m ih =>
  intro k r h
  simp only [dl] at h
  split at h
  ·rename_i hk
   split at h
   ·rename_i hc
    split at h
    ·rename_i q hq
     cases h
     obtain ⟨h1,h2,h3⟩:=ih _ _ hq
     obtain ⟨w1,_,_⟩:=dec_bnd s k
     refine ⟨?_,?_,?_⟩
     ·rw [List.flatMap_cons,← h1]; exact step_unit hk hc
     ·intro c hc'
      rcases List.mem_cons.1 hc' with rfl | hc'
      ·exact hc
      ·exact h2 c hc'
     ·simp only [List.length_cons]; omega
    ·cases h
   ·cases h
  ·rename_i hk
   cases h
   refine ⟨?_,by simp,by simp⟩
   rw [List.drop_eq_nil_of_le (by rw [← ba_size]; omega)]
   rfl
end Go.Proofs.YtkdnaejhpcibnaaGreatDoor.Av
namespace Go.Proofs.YtkdnaejhpcibnaaGreatDoor.Av
open Go Go.IntWalk
def anyS (l : List Int) : Bool:=l.any fun c => decide (scr c ≠ 0)
theorem anyS_cons (a : Int) (r : List Int) : anyS (a :: r) = (decide (scr a ≠ 0) || anyS r):=rfl
theorem drop_nat {α : Type} {l : List α} {i : Nat} (h : i < l.length) : l.drop i = l[i] :: l.drop (i + 1):=List.drop_eq_getElem_cons h
theorem idx_get {α : Type} {l : List α} {i : Nat} (h : i < l.length) : idx l (i : Int) = some l[i]:=by rw [idx_nat,List.getElem?_eq_getElem h]
theorem wrap_succ {i : Nat} (h : i < 100000) : IntKind.i64.wrap ((i : Int) + 1) = ((i + 1 : Nat) : Int):=by rw [i64_in _ (by omega)]; push_cast; rfl
theorem wrap_pred {i : Nat} (h : i < 100000) (h1 : 1 ≤ i) : IntKind.i64.wrap ((i : Int) - 1) = ((i - 1 : Nat) : Int):=by rw [i64_in _ (by omega)]; omega
theorem f65_L0_eq (n : Nat) (hn : 15 ≤ n) (v : List Int × Int) : ∀ (d m i : Nat),i + d = v.1.length → d < m → v.1.length ≤ 1000 → f65_L0 n v m (i : Int) = some (if anyS (v.1.drop i) then .inl () else .inr ()):=by
 intro d
 induction d with
 | zero =>
  intro m i hi hm hl
  obtain ⟨m,rfl⟩ : ∃ z,m = z + 1:=⟨m - 1,by omega⟩
  rw [f65_L0,decide_eq_false (by omega),List.drop_eq_nil_of_le (by omega)]
  rfl
 | succ d ih =>
  intro m i hi hm hl
  obtain ⟨m,rfl⟩ : ∃ z,m = z + 1:=⟨m - 1,by omega⟩
  have hlt : i < v.1.length:=by omega
  rw [f65_L0,decide_eq_true (by omega),drop_nat hlt]
  simp only [cnd,bnd_of (idx_get hlt),bnd_of (f87_eq n _ hn),wrap_succ (show i < 100000 by omega),ih m (i + 1) (by omega) (by omega) hl]
  rw [anyS_cons]
  by_cases hc : scr v.1[i] = 0
  ·rw [show (scr v.1[i] != 0) = false by simp [hc],decide_eq_false (fun h => h hc),Bool.false_or]
  ·rw [show (scr v.1[i] != 0) = true by simp [hc],decide_eq_true hc]; rfl
theorem f72_L0_eq (n : Nat) (hn : 2 ≤ n) (v : List Int) : ∀ (d m i : Nat),i + d = v.length → d < m → v.length ≤ 1000 → f72_L0 n v m (i : Int) = some (if anyS (v.drop i) then .inl () else .inr ()):=by
 intro d
 obtain ⟨n,rfl⟩ : ∃ z,n = z + 2:=⟨n - 2,by omega⟩
 induction d with
 | zero =>
  intro m i hi hm hl
  obtain ⟨m,rfl⟩ : ∃ z,m = z + 1:=⟨m - 1,by omega⟩
  rw [f72_L0,decide_eq_false (by omega),List.drop_eq_nil_of_le (by omega)]
  rfl
 | succ d ih =>
  intro m i hi hm hl
  obtain ⟨m,rfl⟩ : ∃ z,m = z + 1:=⟨m - 1,by omega⟩
  have hlt : i < v.length:=by omega
  rw [f72_L0,decide_eq_true (by omega),drop_nat hlt]
  simp only [cnd,bnd_of (idx_get hlt),bnd_of (f94_eq n _),wrap_succ (show i < 100000 by omega),ih m (i + 1) (by omega) (by omega) hl]
  rw [anyS_cons]
  by_cases hc : scr v[i] = 0
  ·rw [show (scr v[i] != 0) = false by simp [hc],decide_eq_false (fun h => h hc),Bool.false_or]
  ·rw [show (scr v[i] != 0) = true by simp [hc],decide_eq_true hc]; rfl
theorem f71_L0_eq (n : Nat) (v : List Int) : ∀ (d m i : Nat),i + d = v.length → d < m → v.length ≤ 1000 → 1 ≤ i → f71_L0 n v m (i : Int) = some (if adj 32 (v.drop (i - 1)) then .inl () else .inr ()):=by
 intro d
 induction d with
 | zero =>
  intro m i hi hm hl h1
  obtain ⟨m,rfl⟩ : ∃ z,m = z + 1:=⟨m - 1,by omega⟩
  have hlt : i - 1 < v.length:=by omega
  rw [f71_L0,decide_eq_false (by omega),drop_nat hlt,List.drop_eq_nil_of_le (by omega)]
  simp [cnd,adj]
 | succ d ih =>
  intro m i hi hm hl h1
  obtain ⟨m,rfl⟩ : ∃ z,m = z + 1:=⟨m - 1,by omega⟩
  have hlt : i < v.length:=by omega
  have hlt' : i - 1 < v.length:=by omega
  have e : i - 1 + 1 = i:=by omega
  rw [f71_L0,decide_eq_true (by omega),drop_nat hlt']
  have ihh:=ih m (i + 1) (by omega) (by omega) hl (by omega)
  rw [show i + 1 - 1 = i from rfl] at ihh
  simp only [cnd,bnd_of (idx_get hlt),wrap_pred (show i < 100000 by omega) h1,bnd_of (idx_get hlt'),wrap_succ (show i < 100000 by omega),ihh,e,adj]
  have hh : (v.drop i).head? = some v[i]:=by rw [drop_nat hlt]; rfl
  rw [hh]
  by_cases hc : v[i] = 32
  ·rw [show (v[i] == 32) = true by simp [hc]]
   by_cases hc' : v[i - 1] = 32
   ·rw [show (v[i - 1] == 32) = true by simp [hc']]
    simp [hc,hc']
   ·rw [show (v[i - 1] == 32) = false by simp [hc']]
    simp [hc,hc']
  ·rw [show (v[i] == 32) = false by simp [hc]]
   simp [hc]
theorem f72_eq (n : Nat) (hn : 100 ≤ n) (v : List Int) (hv : v.length ≤ 40) : f72 n v = some (!anyS v):=by
 obtain ⟨n,rfl⟩ : ∃ z,n = z + 1:=⟨n - 1,by omega⟩
 have h:=f72_L0_eq n (by omega) v v.length n 0 (by omega) (by omega) (by omega)
 have h' : f72_L0 n v n 0 = _:=h
 rw [f72,h',List.drop_zero]
 cases anyS v <;> rfl
theorem f71_eq (n : Nat) (hn : 100 ≤ n) (v : List Int) (hv : v.length ≤ 40) (h0 : v ≠ []) : f71 n v = some (decide (v.head? = some 32) || decide (v.getLast? = some 32) || adj 32 v):=by
 obtain ⟨n,rfl⟩ : ∃ z,n = z + 1:=⟨n - 1,by omega⟩
 have hl : 0 < v.length:=List.length_pos_iff.2 h0
 have h:=f71_L0_eq n v (v.length - 1) n 1 (by omega) (by omega) (by omega) (by omega)
 have h' : f71_L0 n v n 1 = _:=h
 have i0 : idx v 0 = some v[0]:=idx_get hl
 have hlt : v.length - 1 < v.length:=by omega
 have i1 : idx v (IntKind.i64.wrap (((v.length : Nat) : Int) - 1)) = some v[v.length - 1]:=by
  rw [wrap_pred (by omega) (by omega)]; exact idx_get hlt
 have e0 : v.head? = some v[0]:=by rw [List.head?_eq_getElem?,List.getElem?_eq_getElem hl]
 have e1 : v.getLast? = some v[v.length - 1]:=by rw [List.getLast?_eq_getElem?,List.getElem?_eq_getElem hlt]
 rw [f71]
 simp only [bnd_of i0,bnd_of i1,h',e0,e1,Option.some.injEq]
 by_cases c0 : v[0] = 32
 ·rw [show (v[0] == 32) = true by simp [c0]]; simp [c0,cnd]
 ·rw [show (v[0] == 32) = false by simp [c0]]
  by_cases c1 : v[v.length - 1] = 32
  ·rw [show (v[v.length - 1] == 32) = true by simp [c1]]; simp [c1,cnd]
  ·rw [show (v[v.length - 1] == 32) = false by simp [c1]]
   simp only [cnd,c0,c1,decide_false,Bool.or_self,Bool.false_or]
   show bnd2 (some (if adj 32 (v.drop (1 - 1)) = true then Sum.inl () else Sum.inr ())) _ _ = _
   rw [show v.drop (1 - 1) = v from rfl]
   cases adj 32 v <;> rfl
def nameE (s : ByteArray) : Int :=
 if s = ⟨#[]⟩ then 14 else if 40 < s.size then 3 else match dls s with
  | none => 4
  | some l => if (decide (l.head? = some 32) || decide (l.getLast? = some 32) || adj 32 l) then 14 else if anyS l then 0 else 14
theorem dls_ne {s : ByteArray} (h : s ≠ ⟨#[]⟩) {l : List Int} (hd : dls s = some l) : l ≠ [] ∧ s.data.toList = l.flatMap UB ∧ (∀ c ∈ l,good c) ∧ l.length ≤ s.size:=by
 obtain ⟨h1,h2,h3⟩:=dl_flat s _ 0 l hd
 rw [List.drop_zero] at h1
 refine ⟨?_,h1,h2,by omega⟩
 rintro rfl
 apply h
 rw [ba_ext,h1]; rfl
theorem f45_eq (n : Nat) (hn : 200 ≤ n) (s : ByteArray) : f45 n s = some (nameE s):=by
 obtain ⟨n,rfl⟩ : ∃ z,n = z + 1:=⟨n - 1,by omega⟩
 rw [f45,nameE]
 by_cases c0 : s = ⟨#[]⟩
 ·rw [decide_eq_true c0,if_pos c0]; rfl
 ·rw [decide_eq_false c0,if_neg c0]
  by_cases c1 : 40 < s.size
  ·rw [decide_eq_true (by omega),if_pos c1]; rfl
  ·rw [decide_eq_false (by omega),if_neg c1]
   simp only [cnd,bnd_of (f70_eq n (by omega) s (by omega))]
   cases hd : dls s with
   | none => rfl
   | some l =>
    obtain ⟨g1,g2,g3,g4⟩:=dls_ne c0 hd
    have hl : ((((l.length : Nat) : Int)) == 0) = false:=beq_eq_false_iff_ne.2 (by have:=List.length_pos_iff.2 g1; omega)
    simp only [hl,bnd_of (f71_eq n (by omega) l (by omega) g1),bnd_of (f72_eq n (by omega) l (by omega)),show ((0 : Int) != 0) = false from rfl]
    cases (decide (l.head? = some 32) || decide (l.getLast? = some 32) || adj 32 l) with
    | true => rfl
    | false => cases anyS l <;> rfl
theorem f40_eq (n : Nat) (hn : 200 ≤ n) (s : ByteArray) : f40 n s = some (nameE s):=by
 obtain ⟨n,rfl⟩ : ∃ z,n = z + 2:=⟨n - 2,by omega⟩
 rw [f40,f65,nameE]
 by_cases c0 : s = ⟨#[]⟩
 ·rw [decide_eq_true c0,if_pos c0]; rfl
 ·rw [decide_eq_false c0,if_neg c0]
  by_cases c1 : 40 < s.size
  ·rw [decide_eq_true (by omega),if_pos c1]; rfl
  ·rw [decide_eq_false (by omega),if_neg c1]
   simp only [cnd,bnd_of (f85_eq n (by omega) s (by omega))]
   cases hd : dls s with
   | none => rfl
   | some l =>
    obtain ⟨g1,g2,g3,g4⟩:=dls_ne c0 hd
    have hpos : 0 < s.data.toList.length:=by
     rcases Nat.eq_zero_or_pos s.data.toList.length with h | h
     ·exfalso; apply c0; rw [ba_ext]; exact List.eq_nil_of_length_eq_zero h
     ·exact h
    have hsz : s.size = s.data.toList.length:=ba_size s
    have hlt : s.data.toList.length - 1 < s.data.toList.length:=by omega
    have i0 : sat s 0 = some ((s.data.toList[0]).toNat : Int):=sat_list rfl 0 _ (List.getElem?_eq_getElem hpos)
    have i1 : sat s (IntKind.i64.wrap (((s.size : Nat) : Int) - 1)) = some ((s.data.toList[s.data.toList.length - 1]).toNat : Int):=by
     rw [wrap_pred (by omega) (by omega),hsz]; exact sat_list rfl _ _ (List.getElem?_eq_getElem hlt)
    have h46 : f86 n s ⟨#[32,32]⟩ = some (adj 32 l):=by
     obtain ⟨n,rfl⟩ : ∃ z,n = z + 1:=⟨n - 1,by omega⟩
     have hb : Nat.blt s.size 4294967281 = true:=by
      rw [Nat.blt_eq]; omega
     simp only [f86,hb]
     show some (Lib.contains s.data.toList [32,32]) = _
     rw [contains_adj,g2,adj_flat l g3]
    have hL:=f65_L0_eq n (by omega) (l,0) l.length n 0 (by simp) (by omega) (by simp; omega)
    have hL' : f65_L0 n (l,0) n 0 = some (if anyS l then .inl () else .inr ()):=hL
    have hb32 : ∀ b : UInt8,((b.toNat : Int) == 32) = decide (b = 32):=by
     intro b
     rw [Bool.eq_iff_iff,beq_iff_eq,decide_eq_true_eq,← UInt8.toNat_inj]
     show (b.toNat : Int) = 32 ↔ b.toNat = 32
     omega
    have eh : decide (s.data.toList[0] = 32) = decide (l.head? = some 32):=by
     rw [Bool.eq_iff_iff,decide_eq_true_eq,decide_eq_true_eq,← head_flat l g3,← g2,List.head?_eq_getElem?,List.getElem?_eq_getElem hpos,Option.some.injEq]
    have el : decide (s.data.toList[s.data.toList.length - 1] = 32) = decide (l.getLast? = some 32):=by
     rw [Bool.eq_iff_iff,decide_eq_true_eq,decide_eq_true_eq,← last_flat l g3,← g2,List.getLast?_eq_getElem?,List.getElem?_eq_getElem hlt,Option.some.injEq]
    simp only [show ((0 : Int) != 0) = false from rfl,bnd_of i0,bnd_of i1,bnd_of h46,hL',hb32,eh,el]
    cases decide (l.head? = some 32) with
    | true => rfl
    | false =>
     cases decide (l.getLast? = some 32) with
     | true => rfl
     | false =>
      cases adj 32 l with
      | true => rfl
      | false => cases anyS l <;> rfl
end Go.Proofs.YtkdnaejhpcibnaaGreatDoor.Av
namespace Go.Proofs.YtkdnaejhpcibnaaGreatDoor.Av
open Go Go.IntWalk
def idB (n : Int) : Bool:=decide (1 ≤ n ∧ n ≤ 1073741824)
def ptB (p : GPoint) : Bool:=decide (-1048576 ≤ p.X ∧ p.X ≤ 1048576 ∧ -1048576 ≤ p.Y ∧ p.Y ≤ 1048576)
theorem f96_eq (n : Nat) (a : Int) : f96 (n + 1) a = some (idB a):=by
 rw [f96]
 by_cases c1 : a ≥ 1
 ·rw [decide_eq_true c1]
  by_cases c2 : a ≤ 1073741824
  ·rw [decide_eq_true c2]; simp only [cnd,idB]; rw [decide_eq_true ⟨c1,c2⟩]
  ·rw [decide_eq_false c2]; simp only [cnd,idB]; rw [decide_eq_false (fun h => c2 h.2)]
 ·rw [decide_eq_false c1]; simp only [cnd,idB]; rw [decide_eq_false (fun h => c1 h.1)]
theorem f97_eq (n : Nat) (p : GPoint) : f97 (n + 1) p = some (ptB p):=by
 rw [f97]
 by_cases c1 : p.X ≥ -1048576
 ·by_cases c2 : p.X ≤ 1048576
  ·by_cases c3 : p.Y ≥ -1048576
   ·by_cases c4 : p.Y ≤ 1048576
    ·rw [decide_eq_true c1,decide_eq_true c2,decide_eq_true c3,decide_eq_true c4,show ptB p = true from decide_eq_true (by omega)]; rfl
    ·rw [decide_eq_true c1,decide_eq_true c2,decide_eq_true c3,decide_eq_false c4,show ptB p = false from decide_eq_false (by omega)]; rfl
   ·rw [decide_eq_true c1,decide_eq_true c2,decide_eq_false c3,show ptB p = false from decide_eq_false (by omega)]; rfl
  ·rw [decide_eq_true c1,decide_eq_false c2,show ptB p = false from decide_eq_false (by omega)]; rfl
 ·rw [decide_eq_false c1,show ptB p = false from decide_eq_false (by omega)]; rfl
theorem f116_eq (n : Nat) (p : GPoint) : f116 (n + 1) (GBox.mk (-1048576) (-1048576) 1048576 1048576) p = some (ptB p):=by
 rw [f116]
 by_cases c1 : -1048576 ≤ p.X
 ·by_cases c2 : p.X ≤ 1048576
  ·by_cases c3 : -1048576 ≤ p.Y
   ·by_cases c4 : p.Y ≤ 1048576
    ·rw [decide_eq_true c1,decide_eq_true c2,decide_eq_true c3,decide_eq_true c4,show ptB p = true from decide_eq_true (by omega)]; rfl
    ·rw [decide_eq_true c1,decide_eq_true c2,decide_eq_true c3,decide_eq_false c4,show ptB p = false from decide_eq_false (by omega)]; rfl
   ·rw [decide_eq_true c1,decide_eq_true c2,decide_eq_false c3,show ptB p = false from decide_eq_false (by omega)]; rfl
  ·rw [decide_eq_true c1,decide_eq_false c2,show ptB p = false from decide_eq_false (by omega)]; rfl
 ·rw [decide_eq_false c1,show ptB p = false from decide_eq_false (by omega)]; rfl
theorem prd_succ (n : Nat) : prd (n + 1) = some n:=rfl
theorem f76_L0_eq (n : Nat) (a : GEdit) : ∀ (d m i : Nat),i + d = a.Via.length → d < m → a.Via.length ≤ 1000 → f76_L0 (n + 1) a m (i : Int) = some (cnd ((a.Via.drop i).all ptB) (.inr ()) (.inl ())):=by
 intro d
 induction d with
 | zero =>
  intro m i hi hm hl
  obtain ⟨m,rfl⟩ : ∃ z,m = z + 1:=⟨m - 1,by omega⟩
  rw [f76_L0,decide_eq_false (by omega),List.drop_eq_nil_of_le (by omega)]
  rfl
 | succ d ih =>
  intro m i hi hm hl
  obtain ⟨m,rfl⟩ : ∃ z,m = z + 1:=⟨m - 1,by omega⟩
  have hlt : i < a.Via.length:=by omega
  rw [f76_L0,decide_eq_true (by omega),drop_nat hlt]
  simp only [cnd,bnd_of (idx_get hlt),bnd_of (f97_eq n _),wrap_succ (show i < 100000 by omega),ih m (i + 1) (by omega) (by omega) hl,List.all_cons]
  cases ptB a.Via[i] <;> rfl
theorem f76_L1_eq (n : Nat) (a : GEdit) : ∀ (d m i : Nat),i + d = a.Parts.length → d < m → a.Parts.length ≤ 1000 → f76_L1 (n + 1) a m (i : Int) = some (cnd ((a.Parts.drop i).all idB) (.inr ()) (.inl ())):=by
 intro d
 induction d with
 | zero =>
  intro m i hi hm hl
  obtain ⟨m,rfl⟩ : ∃ z,m = z + 1:=⟨m - 1,by omega⟩
  rw [f76_L1,decide_eq_false (by omega),List.drop_eq_nil_of_le (by omega)]
  rfl
 | succ d ih =>
  intro m i hi hm hl
  obtain ⟨m,rfl⟩ : ∃ z,m = z + 1:=⟨m - 1,by omega⟩
  have hlt : i < a.Parts.length:=by omega
  rw [f76_L1,decide_eq_true (by omega),drop_nat hlt]
  simp only [cnd,bnd_of (idx_get hlt),bnd_of (f96_eq n _),wrap_succ (show i < 100000 by omega),ih m (i + 1) (by omega) (by omega) hl,List.all_cons]
  cases idB a.Parts[i] <;> rfl
theorem f68_I117_L0_eq (n : Nat) (a : GEdit) : ∀ (d m i : Nat),i + d = a.Via.length → d < m → a.Via.length ≤ 1000 →
  ∃ z,f68_I117_L0 (n + 2) a m (i : Int) = some z ∧ (match z with | .inr _ => (a.Via.drop i).all ptB = true | .inl j => (a.Via.drop i).all ptB = false ∧ 0 ≤ j):=by
 intro d
 induction d with
 | zero =>
  intro m i hi hm hl
  obtain ⟨m,rfl⟩ : ∃ z,m = z + 1:=⟨m - 1,by omega⟩
  rw [f68_I117_L0,decide_eq_false (by omega),List.drop_eq_nil_of_le (by omega)]
  exact ⟨.inr (),rfl,rfl⟩
 | succ d ih =>
  intro m i hi hm hl
  obtain ⟨m,rfl⟩ : ∃ z,m = z + 1:=⟨m - 1,by omega⟩
  have hlt : i < a.Via.length:=by omega
  obtain ⟨z,h1,h2⟩:=ih m (i + 1) (by omega) (by omega) hl
  rw [f68_I117_L0,decide_eq_true (by omega),drop_nat hlt]
  simp only [cnd,bnd_of (idx_get hlt),bnd_of (prd_succ (n + 1)),bnd_of (f116_eq n _),wrap_succ (show i < 100000 by omega),h1,List.all_cons]
  cases ptB a.Via[i] with
  | true => exact ⟨z,rfl,by simpa using h2⟩
  | false => exact ⟨.inl (i : Int),rfl,rfl,by omega⟩
theorem f68_I118_L0_eq (n : Nat) (a : GEdit) : ∀ (d m i : Nat),i + d = a.Parts.length → d < m → a.Parts.length ≤ 1000 →
  ∃ z,f68_I118_L0 (n + 2) a m (i : Int) = some z ∧ (match z with | .inr _ => (a.Parts.drop i).all idB = true | .inl j => (a.Parts.drop i).all idB = false ∧ 0 ≤ j):=by
 intro d
 induction d with
 | zero =>
  intro m i hi hm hl
  obtain ⟨m,rfl⟩ : ∃ z,m = z + 1:=⟨m - 1,by omega⟩
  rw [f68_I118_L0,decide_eq_false (by omega),List.drop_eq_nil_of_le (by omega)]
  exact ⟨.inr (),rfl,rfl⟩
 | succ d ih =>
  intro m i hi hm hl
  obtain ⟨m,rfl⟩ : ∃ z,m = z + 1:=⟨m - 1,by omega⟩
  have hlt : i < a.Parts.length:=by omega
  obtain ⟨z,h1,h2⟩:=ih m (i + 1) (by omega) (by omega) hl
  rw [f68_I118_L0,decide_eq_true (by omega),drop_nat hlt]
  simp only [cnd,bnd_of (idx_get hlt),bnd_of (prd_succ (n + 1)),bnd_of (prd_succ n),wrap_succ (show i < 100000 by omega),h1,List.all_cons]
  by_cases c1 : 1 ≤ a.Parts[i]
  ·by_cases c2 : a.Parts[i] ≤ 1073741824
   ·rw [decide_eq_true c1,decide_eq_true c2,show idB a.Parts[i] = true from decide_eq_true ⟨c1,c2⟩]
    exact ⟨z,rfl,by simpa using h2⟩
   ·rw [decide_eq_true c1,decide_eq_false c2,show idB a.Parts[i] = false from decide_eq_false (fun h => c2 h.2)]
    exact ⟨.inl (i : Int),rfl,rfl,by omega⟩
  ·rw [decide_eq_false c1,show idB a.Parts[i] = false from decide_eq_false (fun h => c1 h.1)]
   exact ⟨.inl (i : Int),rfl,rfl,by omega⟩
def tailB (a : GEdit) : Bool:=a.Via.all ptB && a.Parts.all idB
def rangB (a : GEdit) : Bool :=
 idB a.ID && ((if a.Kind = 4 then idB a.A && idB a.B else if a.Kind = 12 then idB a.A else if a.Kind = 7 ∨ a.Kind = 10 then decide (1 ≤ a.B ∧ a.B ≤ 9) else true) && (decide (-1073741824 ≤ a.C ∧ a.C ≤ 1073741824) && (ptB a.At && tailB a)))
theorem tail6 (n : Nat) (a : GEdit) (hn : 100 ≤ n) (hv : a.Via.length ≤ 64) (hp : a.Parts.length ≤ 64) :
  (bnd (prd n) fun n1 => bnd (prd n1) fun n2 => bnd2 (f68_I117_L0 n2 a n2 0) (fun v => cnd (decide (v ≥ 0)) (some false) (bnd (prd n) fun n3 => bnd (prd n3) fun n4 => bnd2 (f68_I118_L0 n4 a n4 0) (fun v => cnd (decide (v ≥ 0)) (some false) (some true)) (fun _ => some true))) (fun _ => bnd (prd n) fun n3 => bnd (prd n3) fun n4 => bnd2 (f68_I118_L0 n4 a n4 0) (fun v => cnd (decide (v ≥ 0)) (some false) (some true)) (fun _ => some true))) = some (tailB a):=by
 obtain ⟨n,rfl⟩ : ∃ z,n = z + 4:=⟨n - 4,by omega⟩
 obtain ⟨z,h1,h2⟩:=f68_I117_L0_eq n a a.Via.length (n + 2) 0 (by omega) (by omega) (by omega)
 obtain ⟨y,g1,g2⟩:=f68_I118_L0_eq n a a.Parts.length (n + 2) 0 (by omega) (by omega) (by omega)
 have h1' : f68_I117_L0 (n + 2) a (n + 2) 0 = some z:=h1
 have g1' : f68_I118_L0 (n + 2) a (n + 2) 0 = some y:=g1
 rw [List.drop_zero] at h2 g2
 simp only [bnd_of (prd_succ (n + 3)),bnd_of (prd_succ (n + 2)),h1',g1',tailB]
 cases z with
 | inl j =>
  simp only at h2
  simp only [bnd2]
  rw [decide_eq_true (show j ≥ 0 from h2.2),h2.1]; rfl
 | inr u =>
  simp only at h2
  simp only [bnd2]
  rw [h2]
  cases y with
  | inl j =>
   simp only at g2
   rw [g2.1]
   simp only
   rw [decide_eq_true (show j ≥ 0 from g2.2)]; rfl
  | inr u => simp only at g2; rw [g2]; rfl
theorem tail12 (n : Nat) (a : GEdit) (hn : 100 ≤ n) (hv : a.Via.length ≤ 64) (hp : a.Parts.length ≤ 64) :
  bnd2 (f76_L0 n a n 0) (fun _ => some false) (fun _ => bnd2 (f76_L1 n a n 0) (fun _ => some false) (fun _ => bnd (f97 n a.At) fun v => cnd v (some true) (some false))) = some (ptB a.At && tailB a):=by
 obtain ⟨n,rfl⟩ : ∃ z,n = z + 1:=⟨n - 1,by omega⟩
 have h1:=f76_L0_eq n a a.Via.length (n + 1) 0 (by omega) (by omega) (by omega)
 have g1:=f76_L1_eq n a a.Parts.length (n + 1) 0 (by omega) (by omega) (by omega)
 have h1' : f76_L0 (n + 1) a (n + 1) 0 = _:=h1
 have g1' : f76_L1 (n + 1) a (n + 1) 0 = _:=g1
 rw [List.drop_zero] at h1' g1'
 rw [h1',g1',f97_eq,tailB]
 cases a.Via.all ptB <;> cases a.Parts.all idB <;> cases ptB a.At <;> rfl
end Go.Proofs.YtkdnaejhpcibnaaGreatDoor.Av
namespace Go.Proofs.YtkdnaejhpcibnaaGreatDoor.Av
open Go Go.IntWalk
theorem ite_k (p : Prop) [Decidable p] {α : Type} (a b c : α) (h1 : p → a = c) (h2 : ¬ p → b = c) : (if p then a else b) = c:=by
 split
 ·exact h1 (by assumption)
 ·exact h2 (by assumption)
theorem f68_eq (n : Nat) (a : GEdit) (hn : 200 ≤ n) (hv : a.Via.length ≤ 64) (hp : a.Parts.length ≤ 64) : f68 n a = some (rangB a):=by
 obtain ⟨z,rfl⟩ : ∃ z,n = z + 1:=⟨n - 1,by omega⟩
 rw [f68]
 simp only [tail6 z a (by omega) hv hp]
 obtain ⟨y,rfl⟩ : ∃ y,z = y + 2:=⟨z - 2,by omega⟩
 simp only [bnd_of (prd_succ (y + 1)),bnd_of (f116_eq y _),cnd_ite,decide_eq_true_eq,beq_iff_eq]
 cases hpt : ptB a.At <;> cases htl : tailB a <;>
 (repeat' (apply ite_k <;> intro _)) <;> simp_all [rangB,idB] <;> omega
theorem f76_eq (n : Nat) (a : GEdit) (hn : 200 ≤ n) (hv : a.Via.length ≤ 64) (hp : a.Parts.length ≤ 64) : f76 n a = some (rangB a):=by
 obtain ⟨z,rfl⟩ : ∃ z,n = z + 1:=⟨n - 1,by omega⟩
 rw [f76]
 simp only [tail12 z a (by omega) hv hp]
 obtain ⟨y,rfl⟩ : ∃ y,z = y + 1:=⟨z - 1,by omega⟩
 simp only [bnd_of (f96_eq y _),cnd_ite,decide_eq_true_eq,beq_iff_eq]
 cases hpt : ptB a.At <;> cases htl : tailB a <;>
 (repeat' (apply ite_k <;> intro _)) <;> simp_all [rangB,idB] <;> omega
end Go.Proofs.YtkdnaejhpcibnaaGreatDoor.Av
namespace Go.Proofs.YtkdnaejhpcibnaaGreatDoor.Av
open Go Go.IntWalk
def bareB (a : GEdit) : Bool :=
 (decide (a.Kind = 1 ∨ a.Kind = 3) || decide (a.At = GPoint.mk 0 0)) && ((decide (a.Kind = 4 ∨ a.Kind = 7 ∨ a.Kind = 12) || decide (a.A = 0)) && ((decide (a.Kind = 4 ∨ a.Kind = 7 ∨ a.Kind = 10) || decide (a.B = 0)) && ((decide (a.Kind = 4) || decide (a.C = 0)) &&
  ((decide (a.Kind = 4 ∨ a.Kind = 6) || decide (a.Via.length = 0)) && ((decide (a.Kind = 7 ∨ a.Kind = 9) || decide (a.Name = (⟨#[]⟩ : ByteArray))) && (decide (a.Kind = 7 ∨ a.Kind = 11) || decide (a.Parts.length = 0)))))))
theorem len_pos (n : Nat) : decide (((n : Nat) : Int) > 0) = !decide (n = 0):=by
 by_cases h : n = 0
 ·subst h; rfl
 ·rw [decide_eq_true (by omega),decide_eq_false h]; rfl
theorem len_zero (n : Nat) : (((n : Nat) : Int) == 0) = decide (n = 0):=by
 rw [Bool.eq_iff_iff,beq_iff_eq,decide_eq_true_eq]; omega
theorem bne_dec (a : Int) : (a != 0) = !decide (a = 0):=by
 by_cases h : a = 0
 ·subst h; rfl
 ·rw [decide_eq_false h,bne_iff_ne.2 h]; rfl
theorem kind_cases (k : Int) : k = 1 ∨ k = 3 ∨ k = 4 ∨ k = 6 ∨ k = 7 ∨ k = 9 ∨ k = 10 ∨ k = 11 ∨ k = 12 ∨ (k ≠ 1 ∧ k ≠ 3 ∧ k ≠ 4 ∧ k ≠ 6 ∧ k ≠ 7 ∧ k ≠ 9 ∧ k ≠ 10 ∧ k ≠ 11 ∧ k ≠ 12):=by omega
set_option maxHeartbeats 4000000 in
theorem f67_eq (n : Nat) (a : GEdit) : f67 (n + 1) a = some (!bareB a):=by
 rw [f67]
 simp only [len_pos,bne_dec,bareB]
 generalize decide (a.A = 0) = bA
 generalize decide (a.B = 0) = bB
 generalize decide (a.C = 0) = bC
 generalize decide (a.At = GPoint.mk 0 0) = bT
 generalize decide (a.Name = (⟨#[]⟩ : ByteArray)) = bN
 generalize decide (a.Via.length = 0) = bV
 generalize decide (a.Parts.length = 0) = bP
 generalize a.Kind = k
 rcases kind_cases k with rfl | rfl | rfl | rfl | rfl | rfl | rfl | rfl | rfl | ⟨h1,h2,h3,h4,h5,h6,h7,h8,h9⟩
 iterate 9 (simp [cnd]; cases bA <;> cases bB <;> cases bC <;> cases bT <;> cases bN <;> cases bV <;> cases bP <;> rfl)
 have e : ∀ c : Int,k ≠ c → (k == c) = false:=fun c h => beq_eq_false_iff_ne.2 h
 simp only [e _ h1,e _ h2,e _ h3,e _ h4,e _ h5,e _ h6,e _ h7,e _ h8,e _ h9,cnd]
 simp only [h1,h2,h3,h4,h5,h6,h7,h8,h9,or_self,decide_false,Bool.false_or]
 cases bA <;> cases bB <;> cases bC <;> cases bT <;> cases bN <;> cases bV <;> cases bP <;> rfl
end Go.Proofs.YtkdnaejhpcibnaaGreatDoor.Av
namespace Go.Proofs.YtkdnaejhpcibnaaGreatDoor.Av
open Go Go.IntWalk
theorem prdk_of {k n : Nat} (h : k ≤ n) : prdk k n = some (n - k):=by rw [prdk,if_pos h]
theorem f75_l0 (n : Nat) (a : GEdit) : f75 n a (⟨#[]⟩ : ByteArray) = f75_0 n a:=by
 rw [f75]
 rw [if_pos rfl]
theorem f75_l1 (n : Nat) (a : GEdit) : f75 n a (⟨#[116]⟩ : ByteArray) = f75_1 n a:=by
 rw [f75]
 rw [if_neg (by decide)]
 rw [if_pos rfl]
theorem f75_l2 (n : Nat) (a : GEdit) : f75 n a (⟨#[97,98,99,118]⟩ : ByteArray) = f75_2 n a:=by
 rw [f75]
 rw [if_neg (by decide)]
 rw [if_neg (by decide)]
 rw [if_pos rfl]
theorem f75_l3 (n : Nat) (a : GEdit) : f75 n a (⟨#[118]⟩ : ByteArray) = f75_3 n a:=by
 rw [f75]
 rw [if_neg (by decide)]
 rw [if_neg (by decide)]
 rw [if_neg (by decide)]
 rw [if_pos rfl]
theorem f75_l4 (n : Nat) (a : GEdit) : f75 n a (⟨#[97,98,110,112]⟩ : ByteArray) = f75_4 n a:=by
 rw [f75]
 rw [if_neg (by decide)]
 rw [if_neg (by decide)]
 rw [if_neg (by decide)]
 rw [if_neg (by decide)]
 rw [if_pos rfl]
theorem f75_l5 (n : Nat) (a : GEdit) : f75 n a (⟨#[110]⟩ : ByteArray) = f75_5 n a:=by
 rw [f75]
 rw [if_neg (by decide)]
 rw [if_neg (by decide)]
 rw [if_neg (by decide)]
 rw [if_neg (by decide)]
 rw [if_neg (by decide)]
 rw [if_pos rfl]
theorem f75_l6 (n : Nat) (a : GEdit) : f75 n a (⟨#[98]⟩ : ByteArray) = f75_6 n a:=by
 rw [f75]
 rw [if_neg (by decide)]
 rw [if_neg (by decide)]
 rw [if_neg (by decide)]
 rw [if_neg (by decide)]
 rw [if_neg (by decide)]
 rw [if_neg (by decide)]
 rw [if_pos rfl]
theorem f75_l7 (n : Nat) (a : GEdit) : f75 n a (⟨#[112]⟩ : ByteArray) = f75_7 n a:=by
 rw [f75]
 rw [if_neg (by decide)]
 rw [if_neg (by decide)]
 rw [if_neg (by decide)]
 rw [if_neg (by decide)]
 rw [if_neg (by decide)]
 rw [if_neg (by decide)]
 rw [if_neg (by decide)]
 rw [if_pos rfl]
theorem f75_l8 (n : Nat) (a : GEdit) : f75 n a (⟨#[97]⟩ : ByteArray) = f75_8 n a:=by
 rw [f75]
 rw [if_neg (by decide)]
 rw [if_neg (by decide)]
 rw [if_neg (by decide)]
 rw [if_neg (by decide)]
 rw [if_neg (by decide)]
 rw [if_neg (by decide)]
 rw [if_neg (by decide)]
 rw [if_neg (by decide)]
 rw [if_pos rfl]
set_option maxHeartbeats 4000000 in
theorem f75_eq (n : Nat) (a : GEdit) (hn : 20 ≤ n) : ∃ s,f74 n a.Kind = some s ∧ f75 n a s = some (bareB a):=by
 obtain ⟨n,rfl⟩ : ∃ z,n = z + 1:=⟨n - 1,by omega⟩
 rcases kind_cases a.Kind with h | h | h | h | h | h | h | h | h | ⟨h1,h2,h3,h4,h5,h6,h7,h8,h9⟩
 ·refine ⟨(⟨#[116]⟩ : ByteArray),by rw [f74,h]; rfl,?_⟩
  rw [f75_l1,f75_1,prdk_of (show 2 ≤ n by omega)]
  simp only [bnd,len_zero,bne_dec,bareB,h]
  generalize decide (a.A = 0) = bA
  generalize decide (a.B = 0) = bB
  generalize decide (a.C = 0) = bC
  generalize decide (a.At = GPoint.mk 0 0) = bT
  generalize decide (a.Name = (⟨#[]⟩ : ByteArray)) = bN
  generalize decide (a.Via.length = 0) = bV
  generalize decide (a.Parts.length = 0) = bP
  simp
  cases bA <;> cases bB <;> cases bC <;> cases bT <;> cases bN <;> cases bV <;> cases bP <;> rfl
 ·refine ⟨(⟨#[116]⟩ : ByteArray),by rw [f74,h]; rfl,?_⟩
  rw [f75_l1,f75_1,prdk_of (show 2 ≤ n by omega)]
  simp only [bnd,len_zero,bne_dec,bareB,h]
  generalize decide (a.A = 0) = bA
  generalize decide (a.B = 0) = bB
  generalize decide (a.C = 0) = bC
  generalize decide (a.At = GPoint.mk 0 0) = bT
  generalize decide (a.Name = (⟨#[]⟩ : ByteArray)) = bN
  generalize decide (a.Via.length = 0) = bV
  generalize decide (a.Parts.length = 0) = bP
  simp
  cases bA <;> cases bB <;> cases bC <;> cases bT <;> cases bN <;> cases bV <;> cases bP <;> rfl
 ·refine ⟨(⟨#[97,98,99,118]⟩ : ByteArray),by rw [f74,h]; rfl,?_⟩
  rw [f75_l2,f75_2,prdk_of (show 5 ≤ n by omega)]
  simp only [bnd,len_zero,bne_dec,bareB,h]
  generalize decide (a.A = 0) = bA
  generalize decide (a.B = 0) = bB
  generalize decide (a.C = 0) = bC
  generalize decide (a.At = GPoint.mk 0 0) = bT
  generalize decide (a.Name = (⟨#[]⟩ : ByteArray)) = bN
  generalize decide (a.Via.length = 0) = bV
  generalize decide (a.Parts.length = 0) = bP
  simp
  cases bA <;> cases bB <;> cases bC <;> cases bT <;> cases bN <;> cases bV <;> cases bP <;> rfl
 ·refine ⟨(⟨#[118]⟩ : ByteArray),by rw [f74,h]; rfl,?_⟩
  rw [f75_l3,f75_3,prdk_of (show 2 ≤ n by omega)]
  simp only [bnd,len_zero,bne_dec,bareB,h]
  generalize decide (a.A = 0) = bA
  generalize decide (a.B = 0) = bB
  generalize decide (a.C = 0) = bC
  generalize decide (a.At = GPoint.mk 0 0) = bT
  generalize decide (a.Name = (⟨#[]⟩ : ByteArray)) = bN
  generalize decide (a.Via.length = 0) = bV
  generalize decide (a.Parts.length = 0) = bP
  simp
  cases bA <;> cases bB <;> cases bC <;> cases bT <;> cases bN <;> cases bV <;> cases bP <;> rfl
 ·refine ⟨(⟨#[97,98,110,112]⟩ : ByteArray),by rw [f74,h]; rfl,?_⟩
  rw [f75_l4,f75_4,prdk_of (show 5 ≤ n by omega)]
  simp only [bnd,len_zero,bne_dec,bareB,h]
  generalize decide (a.A = 0) = bA
  generalize decide (a.B = 0) = bB
  generalize decide (a.C = 0) = bC
  generalize decide (a.At = GPoint.mk 0 0) = bT
  generalize decide (a.Name = (⟨#[]⟩ : ByteArray)) = bN
  generalize decide (a.Via.length = 0) = bV
  generalize decide (a.Parts.length = 0) = bP
  simp
  cases bA <;> cases bB <;> cases bC <;> cases bT <;> cases bN <;> cases bV <;> cases bP <;> rfl
 ·refine ⟨(⟨#[110]⟩ : ByteArray),by rw [f74,h]; rfl,?_⟩
  rw [f75_l5,f75_5,prdk_of (show 2 ≤ n by omega)]
  simp only [bnd,len_zero,bne_dec,bareB,h]
  generalize decide (a.A = 0) = bA
  generalize decide (a.B = 0) = bB
  generalize decide (a.C = 0) = bC
  generalize decide (a.At = GPoint.mk 0 0) = bT
  generalize decide (a.Name = (⟨#[]⟩ : ByteArray)) = bN
  generalize decide (a.Via.length = 0) = bV
  generalize decide (a.Parts.length = 0) = bP
  simp
  cases bA <;> cases bB <;> cases bC <;> cases bT <;> cases bN <;> cases bV <;> cases bP <;> rfl
 ·refine ⟨(⟨#[98]⟩ : ByteArray),by rw [f74,h]; rfl,?_⟩
  rw [f75_l6,f75_6,prdk_of (show 2 ≤ n by omega)]
  simp only [bnd,len_zero,bne_dec,bareB,h]
  generalize decide (a.A = 0) = bA
  generalize decide (a.B = 0) = bB
  generalize decide (a.C = 0) = bC
  generalize decide (a.At = GPoint.mk 0 0) = bT
  generalize decide (a.Name = (⟨#[]⟩ : ByteArray)) = bN
  generalize decide (a.Via.length = 0) = bV
  generalize decide (a.Parts.length = 0) = bP
  simp
  cases bA <;> cases bB <;> cases bC <;> cases bT <;> cases bN <;> cases bV <;> cases bP <;> rfl
 ·refine ⟨(⟨#[112]⟩ : ByteArray),by rw [f74,h]; rfl,?_⟩
  rw [f75_l7,f75_7,prdk_of (show 2 ≤ n by omega)]
  simp only [bnd,len_zero,bne_dec,bareB,h]
  generalize decide (a.A = 0) = bA
  generalize decide (a.B = 0) = bB
  generalize decide (a.C = 0) = bC
  generalize decide (a.At = GPoint.mk 0 0) = bT
  generalize decide (a.Name = (⟨#[]⟩ : ByteArray)) = bN
  generalize decide (a.Via.length = 0) = bV
  generalize decide (a.Parts.length = 0) = bP
  simp
  cases bA <;> cases bB <;> cases bC <;> cases bT <;> cases bN <;> cases bV <;> cases bP <;> rfl
 ·refine ⟨(⟨#[97]⟩ : ByteArray),by rw [f74,h]; rfl,?_⟩
  rw [f75_l8,f75_8,prdk_of (show 2 ≤ n by omega)]
  simp only [bnd,len_zero,bne_dec,bareB,h]
  generalize decide (a.A = 0) = bA
  generalize decide (a.B = 0) = bB
  generalize decide (a.C = 0) = bC
  generalize decide (a.At = GPoint.mk 0 0) = bT
  generalize decide (a.Name = (⟨#[]⟩ : ByteArray)) = bN
  generalize decide (a.Via.length = 0) = bV
  generalize decide (a.Parts.length = 0) = bP
  simp
  cases bA <;> cases bB <;> cases bC <;> cases bT <;> cases bN <;> cases bV <;> cases bP <;> rfl
 ·refine ⟨(⟨#[]⟩ : ByteArray),?_,?_⟩
  ·have e : ∀ c : Int,a.Kind ≠ c → (a.Kind == c) = false:=fun c h => beq_eq_false_iff_ne.2 h
   rw [f74]
   simp only [e _ h1,e _ h2,e _ h3,e _ h4,e _ h5,e _ h6,e _ h7,e _ h8,e _ h9,cnd]
  rw [f75_l0,f75_0,prdk_of (show 1 ≤ n by omega)]
  simp only [bnd,len_zero,bne_dec,bareB,h1,h2,h3,h4,h5,h6,h7,h8,h9,or_self,decide_false,Bool.false_or]
  generalize decide (a.A = 0) = bA
  generalize decide (a.B = 0) = bB
  generalize decide (a.C = 0) = bC
  generalize decide (a.At = GPoint.mk 0 0) = bT
  generalize decide (a.Name = (⟨#[]⟩ : ByteArray)) = bN
  generalize decide (a.Via.length = 0) = bV
  generalize decide (a.Parts.length = 0) = bP
  cases bA <;> cases bB <;> cases bC <;> cases bT <;> cases bN <;> cases bV <;> cases bP <;> rfl
end Go.Proofs.YtkdnaejhpcibnaaGreatDoor.Av
namespace Go.Proofs.YtkdnaejhpcibnaaGreatDoor.Av
open Go Go.IntWalk
theorem f46_L0_eq (n n' : Nat) (a : GEdit) : ∀ (m : Nat) (i : Int),f46_L0 n a m i = f69_L0 n' a.Parts m i
 | 0,i => rfl
 | m + 1,i => by simp only [f46_L0,f69_L0,f46_L0_eq n n' a m]
theorem f69_L0_tot (n : Nat) (l : List Int) : ∀ (d m i : Nat),i + d = l.length → d < m → l.length ≤ 1000 → 1 ≤ i → ∃ z,f69_L0 n l m (i : Int) = some z:=by
 intro d
 induction d with
 | zero =>
  intro m i hi hm hl h1
  obtain ⟨m,rfl⟩ : ∃ z,m = z + 1:=⟨m - 1,by omega⟩
  rw [f69_L0,decide_eq_false (by omega)]
  exact ⟨_,rfl⟩
 | succ d ih =>
  intro m i hi hm hl h1
  obtain ⟨m,rfl⟩ : ∃ z,m = z + 1:=⟨m - 1,by omega⟩
  have hlt : i < l.length:=by omega
  have hlt' : i - 1 < l.length:=by omega
  obtain ⟨z,hz⟩:=ih m (i + 1) (by omega) (by omega) hl (by omega)
  rw [f69_L0,decide_eq_true (by omega)]
  simp only [cnd,bnd_of (idx_get hlt),wrap_pred (show i < 100000 by omega) h1,bnd_of (idx_get hlt'),wrap_succ (show i < 100000 by omega),hz]
  cases decide (l[i - 1] ≥ l[i]) with
  | true => exact ⟨_,rfl⟩
  | false => exact ⟨_,rfl⟩
theorem f69_tot (n : Nat) (l : List Int) (hn : 100 ≤ n) (hl : l.length ≤ 64) : ∃ z,f69_L0 n l n 1 = some z:=by
 rcases Nat.eq_zero_or_pos l.length with h | h
 ·obtain ⟨n,rfl⟩ : ∃ z,n = z + 1:=⟨n - 1,by omega⟩
  rw [f69_L0,decide_eq_false (by omega)]
  exact ⟨_,rfl⟩
 ·exact f69_L0_tot n l (l.length - 1) n 1 (by omega) (by omega) (by omega) (by omega)
theorem tails (n : Nat) (a : GEdit) (hn : 300 ≤ n) : ∃ v : Int,
  (bnd (f67 n a) fun v1 => (cnd v1 (some 1) (cnd (decide (((a.Via.length : Nat) : Int) > 64)) (some 3) (cnd (decide (((a.Parts.length : Nat) : Int) > 64)) (some 3) (bnd (f68 n a) fun v2 => (cnd v2 (bnd (f69 n a.Parts) fun v3 => (cnd v3 (cnd (decide (a.Name = (⟨#[]⟩ : ByteArray))) (some 0) (bnd (f40 n a.Name) fun v4 => (cnd (v4 != 0) (some 14) (some 0)))) (some 10))) (some 2))))))) = some v ∧
  (bnd (f74 n a.Kind) fun v1 => (bnd (f75 n a v1) fun v2 => (cnd v2 (cnd (decide (((a.Via.length : Nat) : Int) > 64)) (some 3) (cnd (decide (((a.Parts.length : Nat) : Int) > 64)) (some 3) (bnd (f76 n a) fun v3 => (cnd v3 (bnd2 (f46_L0 n a n 1) (fun _ => (some 10)) (fun _ => (cnd (decide (a.Name = (⟨#[]⟩ : ByteArray))) (some 0) (bnd (f45 n a.Name) fun v4 => (cnd (v4 != 0) (some 14) (some 0)))))) (some 2))))) (some 1)))) = some v:=by
 obtain ⟨s,h1,h2⟩:=f75_eq n a (by omega)
 obtain ⟨m,rfl⟩ : ∃ z,n = z + 1:=⟨n - 1,by omega⟩
 rw [f67_eq,h1]
 simp only [bnd,h2]
 cases hb : bareB a with
 | false => exact ⟨1,rfl,rfl⟩
 | true =>
  simp only [Bool.not_true,cnd]
  by_cases c1 : ((a.Via.length : Nat) : Int) > 64
  ·rw [decide_eq_true c1]; exact ⟨3,rfl,rfl⟩
  ·rw [decide_eq_false c1]
   by_cases c2 : ((a.Parts.length : Nat) : Int) > 64
   ·rw [decide_eq_true c2]; exact ⟨3,rfl,rfl⟩
   ·rw [decide_eq_false c2]
    simp only [f68_eq (m + 1) a (by omega) (by omega) (by omega),f76_eq (m + 1) a (by omega) (by omega) (by omega),f40_eq (m + 1) (by omega) a.Name,f45_eq (m + 1) (by omega) a.Name]
    cases rangB a with
    | false => exact ⟨2,rfl,rfl⟩
    | true =>
     obtain ⟨z,hz⟩:=f69_tot m a.Parts (by omega) (by omega)
     obtain ⟨y,hy⟩:=f69_tot (m + 1) a.Parts (by omega) (by omega)
     have hyz : y = z:=by
      have key : ∀ (k : Nat) (i : Int) (r : Unit ⊕ Unit),f69_L0 m a.Parts k i = some r → f69_L0 (m + 1) a.Parts (k + 1) i = some r:=by
       intro k
       induction k with
       | zero => intro i r h; cases h
       | succ k ih =>
        intro i r h
        rw [f69_L0] at h ⊢
        cases hi : decide (i < ((a.Parts.length : Nat) : Int)) with
        | false => rw [hi] at h; exact h
        | true =>
         rw [hi] at h
         simp only [cnd] at h ⊢
         obtain ⟨x,e1,h⟩:=bnd_some h
         obtain ⟨x',e2,h⟩:=bnd_some h
         rw [bnd_of e1,bnd_of e2]
         cases hd : decide (x ≥ x') with
         | true => rw [hd] at h; exact h
         | false => rw [hd] at h; exact ih _ _ h
      have:=key m 1 z hz
      rw [hy] at this
      exact Option.some.inj this
     subst hyz
     rw [f69,hz,f46_L0_eq (m + 1) (m + 1) a,hy]
     cases y with
     | inl u => exact ⟨10,rfl,rfl⟩
     | inr u =>
      simp only [bnd2]
      cases decide (a.Name = (⟨#[]⟩ : ByteArray)) with
      | true => exact ⟨0,rfl,rfl⟩
      | false =>
       simp only
       cases (nameE a.Name != 0) with
       | true => exact ⟨14,rfl,rfl⟩
       | false => exact ⟨0,rfl,rfl⟩
theorem f73_f4 (n : Nat) (k : Int) : f73 n k = f66 n k:=by cases n <;> rfl
theorem f66_tot (n : Nat) (k : Int) : ∃ v,f66 (n + 1) k = some v:=by
 simp only [f66,cnd_ite]
 repeat' split
 all_goals exact ⟨_,rfl⟩
theorem checks (n : Nat) (a : GEdit) (hn : 400 ≤ n) : ∃ v,f41 n a = some v ∧ f46 n a = some v:=by
 obtain ⟨n,rfl⟩ : ∃ z,n = z + 1:=⟨n - 1,by omega⟩
 obtain ⟨v,t1,t2⟩:=tails n a (by omega)
 rw [f41,f46,t1,t2]
 cases decide (a.Kind < 1) with
 | true => exact ⟨9,rfl,rfl⟩
 | false =>
  cases decide (a.Kind > 12) with
  | true => exact ⟨9,rfl,rfl⟩
  | false =>
   cases (a.Kind == 7) with
   | false => exact ⟨v,rfl,rfl⟩
   | true =>
    obtain ⟨m,rfl⟩ : ∃ z,n = z + 1:=⟨n - 1,by omega⟩
    obtain ⟨w,hw⟩:=f66_tot m a.A
    simp only [cnd,f73_f4,hw,bnd]
    cases (w == 0) with
    | true => exact ⟨9,rfl,rfl⟩
    | false => exact ⟨v,rfl,rfl⟩
end Go.Proofs.YtkdnaejhpcibnaaGreatDoor.Av
namespace Go.Proofs.YtkdnaejhpcibnaaGreatDoor.Av
open Go Go.IntWalk
theorem loops (n : Nat) (hn : 400 ≤ n) (a : GTxn) (hl : a.Edits.length ≤ 1000) : ∀ (d m i : Nat),i + d = a.Edits.length → d < m →
  (∃ t,f22_L0 n a m (i : Int) = some (.inl t) ∧ f26_L0 n a m (i : Int) = some (.inl t.2.2.2.2.2.2.2.2.2.2)) ∨ (f22_L0 n a m (i : Int) = some (.inr ()) ∧ f26_L0 n a m (i : Int) = some (.inr ())):=by
 intro d
 induction d with
 | zero =>
  intro m i hi hm
  obtain ⟨m,rfl⟩ : ∃ z,m = z + 1:=⟨m - 1,by omega⟩
  right
  rw [f22_L0,f26_L0,decide_eq_false (by omega)]
  exact ⟨rfl,rfl⟩
 | succ d ih =>
  intro m i hi hm
  obtain ⟨m,rfl⟩ : ∃ z,m = z + 1:=⟨m - 1,by omega⟩
  have hlt : i < a.Edits.length:=by omega
  obtain ⟨v,h1,h2⟩:=checks n a.Edits[i] hn
  have ih':=ih m (i + 1) (by omega) (by omega)
  rw [f22_L0,f26_L0,decide_eq_true (by omega)]
  simp only [cnd,bnd_of (idx_get hlt),bnd_of h1,bnd_of h2,wrap_succ (show i < 100000 by omega)]
  cases (v != 0) with
  | true => exact .inl ⟨_,rfl,rfl⟩
  | false => exact ih'
theorem txns (n : Nat) (hn : 500 ≤ n) (a : GTxn) (hl : a.Edits.length ≤ 1000) (hm : 1001 ≤ n) : ∃ v,f22 (n + 1) a = some v ∧ f26 (n + 1) a = some v:=by
 have tail : ∃ v,(bnd2 (f22_L0 n a n 0) (fun v1930 => (some v1930.2.2.2.2.2.2.2.2.2.2)) (fun v1931 => (some 0))) = some v ∧ (bnd2 (f26_L0 n a n 0) (fun v3521 => (some v3521)) (fun v3522 => (some 0))) = some v:=by
  rcases loops n (by omega) a hl a.Edits.length n 0 (by omega) (by omega) with ⟨t,h1,h2⟩ | ⟨h1,h2⟩
  ·exact ⟨t.2.2.2.2.2.2.2.2.2.2,by rw [show ((0 : Nat) : Int) = 0 from rfl] at h1; rw [h1]; rfl,by rw [show ((0 : Nat) : Int) = 0 from rfl] at h2; rw [h2]; rfl⟩
  ·exact ⟨0,by rw [show ((0 : Nat) : Int) = 0 from rfl] at h1; rw [h1]; rfl,by rw [show ((0 : Nat) : Int) = 0 from rfl] at h2; rw [h2]; rfl⟩
 obtain ⟨w,t1,t2⟩:=tail
 rw [f22,f26,t1,t2,f40_eq n (by omega) a.Source,f45_eq n (by omega) a.Source]
 cases decide (a.Office < 1) with
 | true => exact ⟨_,rfl,rfl⟩
 | false =>
 cases decide (a.Office > 8) with
 | true => exact ⟨_,rfl,rfl⟩
 | false =>
 cases decide (a.Seq < 1) with
 | true => exact ⟨_,rfl,rfl⟩
 | false =>
 cases decide (a.Seq > 1073741824) with
 | true => exact ⟨_,rfl,rfl⟩
 | false =>
 cases decide (a.Time < 0) with
 | true => exact ⟨_,rfl,rfl⟩
 | false =>
 cases decide (a.Time > 1073741824) with
 | true => exact ⟨_,rfl,rfl⟩
 | false =>
 have fin : ∃ v,(cnd (decide (((a.Edits.length : Nat) : Int) < 1)) (some 3) (cnd (decide (((a.Edits.length : Nat) : Int) > 64)) (some 3) (some w)) : Option Int) = some v:=by
  cases decide (((a.Edits.length : Nat) : Int) < 1) with
  | true => exact ⟨_,rfl⟩
  | false =>
  cases decide (((a.Edits.length : Nat) : Int) > 64) with
  | true => exact ⟨_,rfl⟩
  | false => exact ⟨_,rfl⟩
 obtain ⟨u,hu⟩:=fin
 cases decide (a.Source = (⟨#[]⟩ : ByteArray)) with
 | true => exact ⟨u,hu,hu⟩
 | false =>
  simp only [cnd,bnd]
  cases (nameE a.Source != 0) with
  | true => exact ⟨_,rfl,rfl⟩
  | false => exact ⟨u,hu,hu⟩
end Go.Proofs.YtkdnaejhpcibnaaGreatDoor.Av
namespace Go.Proofs.YtkdnaejhpcibnaaGreatDoor.Av
open Go Go.IntWalk
def bef (a b : GTxn) : Bool:=decide (a.Time < b.Time ∨ (a.Time = b.Time ∧ (a.Office < b.Office ∨ (a.Office = b.Office ∧ a.Seq < b.Seq))))
theorem bef_iff (a b : GTxn) : bef a b = true ↔ (a.Time < b.Time ∨ (a.Time = b.Time ∧ (a.Office < b.Office ∨ (a.Office = b.Office ∧ a.Seq < b.Seq)))):=by simp [bef]
theorem bef_trans {a b c : GTxn} (h : bef a b = true) (k : bef b c = true) : bef a c = true:=by
 rw [bef_iff] at *; omega
theorem bef_irrefl (a : GTxn) : bef a a = false:=by
 cases h : bef a a with
 | false => rfl
 | true => rw [bef_iff] at h; omega
def same3 (a b : GTxn) : Prop:=a.Time = b.Time ∧ a.Office = b.Office ∧ a.Seq = b.Seq
def key2 (a b : GTxn) : Prop:=a.Office = b.Office ∧ a.Seq = b.Seq
instance (a b : GTxn) : Decidable (key2 a b):=inferInstanceAs (Decidable (_ ∧ _))
theorem bef_tri {a b : GTxn} (h : bef a b = false) : bef b a = true ∨ same3 a b:=by
 have h1 : ¬ bef a b = true:=by rw [h]; decide
 rw [bef_iff] at h1 ⊢
 unfold same3
 omega
theorem f44_eq (n : Nat) (a b : GTxn) : f44 (n + 1) a b = some (bef a b):=by
 have hb : ∀ x y : Int,(x != y) = decide (x ≠ y):=fun x y => by by_cases h : x = y <;> simp [h]
 simp only [f44,cnd_ite,hb,decide_eq_true_eq,bef]
 split
 ·split
  ·rw [decide_eq_true]; omega
  ·rw [decide_eq_false]; omega
 ·split
  ·split
   ·rw [decide_eq_true]; omega
   ·rw [decide_eq_false]; omega
  ·split
   ·rw [decide_eq_true]; omega
   ·rw [decide_eq_false]; omega
def cmp3 (a b : Int) : Int:=if a < b then -1 else if a > b then 1 else 0
theorem f84_eq (n : Nat) (a : Int) : f84 (n + 1) a = some false:=by simp [f84,cnd]
theorem f63_eq (n : Nat) (a b : Int) : f63 (n + 2) a b = some (cmp3 a b):=by
 simp only [f63,bnd_of (f84_eq n _),cnd_ite,cmp3,decide_eq_true_eq,Bool.false_eq_true,if_false]
 split <;> (try split) <;> rfl
theorem f64_L0_at (n m : Nat) (l : List Int) (i : Nat) (h : i < l.length) (hi : i < 1000) : f64_L0 n l (m + 1) (i : Int) = cnd (l[i] != 0) (some (Sum.inl l[i])) (f64_L0 n l m ((i + 1 : Nat) : Int)):=by
 rw [f64_L0,decide_eq_true (by omega)]
 simp only [cnd,bnd_of (idx_get h),wrap_succ (show i < 100000 by omega)]
theorem f64_L0_end (n m : Nat) (l : List Int) (i : Nat) (h : i = l.length) : f64_L0 n l (m + 1) (i : Int) = some (.inr ()):=by
 rw [f64_L0,decide_eq_false (by omega)]
 rfl
def first3 (a b c : Int) : Int:=if a ≠ 0 then a else if b ≠ 0 then b else c
theorem f64_eq (n : Nat) (a b c : Int) (hn : 5 ≤ n) : f64 n [a,b,c] = some (first3 a b c):=by
 obtain ⟨n,rfl⟩ : ∃ k,n = k + 5:=⟨n - 5,by omega⟩
 have hb : ∀ x y : Int,(x != y) = decide (x ≠ y):=fun x y => by by_cases h : x = y <;> simp [h]
 have h0:=f64_L0_at (n + 4) (n + 3) [a,b,c] 0 (by simp) (by omega)
 have h1:=f64_L0_at (n + 4) (n + 2) [a,b,c] 1 (by simp) (by omega)
 have h2:=f64_L0_at (n + 4) (n + 1) [a,b,c] 2 (by simp) (by omega)
 have h3:=f64_L0_end (n + 4) n [a,b,c] 3 rfl
 rw [f64]
 rw [show ((0 : Nat) : Int) = 0 from rfl] at h0
 rw [h0,h1,h2,h3]
 simp only [List.getElem_cons_zero,List.getElem_cons_succ,hb,cnd_ite,decide_eq_true_eq,first3]
 by_cases ha : a = 0
 ·by_cases hb : b = 0
  ·by_cases hc : c = 0
   ·simp [ha,hb,hc,bnd2]
   ·simp [ha,hb,hc,bnd2]
  ·simp [ha,hb,bnd2]
 ·simp [ha,bnd2]
def cmpT (a b : GTxn) : Int:=first3 (cmp3 a.Time b.Time) (cmp3 a.Office b.Office) (cmp3 a.Seq b.Seq)
theorem f39_eq (n : Nat) (a b : GTxn) (hn : 10 ≤ n) : f39 n a b = some (cmpT a b):=by
 obtain ⟨n,rfl⟩ : ∃ k,n = k + 10:=⟨n - 10,by omega⟩
 rw [f39]
 simp only [bnd_of (f63_eq (n + 7) _ _),bnd_of (f64_eq (n + 9) _ _ _ (by omega))]
 rfl
theorem cmpT_lt (a b : GTxn) : decide (cmpT a b < 0) = bef a b:=by
 unfold cmpT first3 cmp3 bef
 apply decide_eq_decide.2
 split <;> (try split) <;> (repeat' split) <;> omega
theorem cmpT_ge (a b : GTxn) : decide (cmpT a b ≥ 0) = !bef a b:=by
 rw [← cmpT_lt,← decide_not]
 apply decide_eq_decide.2
 omega
instance (a b : GTxn) : Decidable (same3 a b):=inferInstanceAs (Decidable (_ ∧ _))
theorem cmpT_zero (a b : GTxn) : (cmpT a b == 0) = decide (same3 a b):=by
 have : (cmpT a b = 0) ↔ same3 a b:=by
  unfold cmpT first3 cmp3 same3
  split <;> (try split) <;> (repeat' split) <;> omega
 by_cases h : cmpT a b = 0
 ·rw [decide_eq_true (this.1 h),h]; rfl
 ·rw [decide_eq_false (fun q => h (this.2 q))]; simpa using h
structure SmE (t : GTxn) : Prop where
 len : t.Edits.length ≤ 6
 via : ∀ e ∈ t.Edits,e.Via.length ≤ 20
 parts : ∀ e ∈ t.Edits,e.Parts.length ≤ 20
def Sm (l : List GTxn) : Prop:=∀ t ∈ l,SmE t
def dT : GTxn:=⟨0,0,0,⟨#[]⟩,[]⟩
def tx (l : List GTxn) (i : Nat) : GTxn:=l.getD i dT
theorem tx_get {l : List GTxn} {i : Nat} (h : i < l.length) : tx l i = l[i]:=by simp [tx,h]
theorem tx_mem {l : List GTxn} {i : Nat} (h : i < l.length) : tx l i ∈ l:=by rw [tx_get h]; exact List.getElem_mem h
theorem idx_tx {l : List GTxn} {i : Nat} (h : i < l.length) : idx l (i : Int) = some (tx l i):=by rw [idx_get h,tx_get h]
theorem idxK_tx {l : List GTxn} {i : Nat} (h : i < l.length) : idxK l l.length (i : Int) = some (tx l i):=by
 unfold idxK
 rw [if_pos ⟨by omega,by simpa using h⟩]
 simp [tx_get h]
def Srt (l : List GTxn) : Prop:=∀ i j,i < j → j < l.length → bef (tx l i) (tx l j) = true
def Dif (l : List GTxn) : Prop:=∀ i j,i < j → j < l.length → ¬ key2 (tx l i) (tx l j)
theorem srt_of {l : List GTxn} (h : ∀ j,1 ≤ j → j < l.length → bef (tx l (j - 1)) (tx l j) = true) : Srt l:=by
 intro i j hij
 induction j with
 | zero => omega
 | succ j ih =>
  intro hj
  have h1:=h (j + 1) (by omega) hj
  rw [Nat.add_sub_cancel] at h1
  rcases Nat.lt_or_ge i j with h2 | h2
  ·exact bef_trans (ih h2 (by omega)) h1
  ·obtain rfl : i = j:=by omega
   exact h1
theorem innerK (n : Nat) (o : GOffice) (i : Nat) (hi : i < o.Txns.length) (hl : o.Txns.length ≤ 1000) : ∀ (d m k : Nat),k + d = i → d < m →
  ((∃ j,k ≤ j ∧ j < i ∧ key2 (tx o.Txns j) (tx o.Txns i)) ∧ f25_L1 n (i : Int) o m (k : Int) = some (.inl ())) ∨
  ((¬ ∃ j,k ≤ j ∧ j < i ∧ key2 (tx o.Txns j) (tx o.Txns i)) ∧ f25_L1 n (i : Int) o m (k : Int) = some (.inr ())):=by
 intro d
 induction d with
 | zero =>
  intro m k hk hm
  obtain ⟨m,rfl⟩ : ∃ z,m = z + 1:=⟨m - 1,by omega⟩
  right
  refine ⟨fun ⟨j,h1,h2,_⟩ => by omega,?_⟩
  rw [f25_L1,decide_eq_false (by omega)]
  rfl
 | succ d ih =>
  intro m k hk hm
  obtain ⟨m,rfl⟩ : ∃ z,m = z + 1:=⟨m - 1,by omega⟩
  have ih':=ih m (k + 1) (by omega) (by omega)
  rw [f25_L1,decide_eq_true (by omega)]
  simp only [cnd,bnd_of (idx_tx (show k < o.Txns.length by omega)),bnd_of (idx_tx hi),wrap_succ (show k < 100000 by omega)]
  have step : ¬ key2 (tx o.Txns k) (tx o.Txns i) → ((∃ j,k ≤ j ∧ j < i ∧ key2 (tx o.Txns j) (tx o.Txns i)) ↔ ∃ j,k + 1 ≤ j ∧ j < i ∧ key2 (tx o.Txns j) (tx o.Txns i)):=by
   intro hne
   constructor
   ·rintro ⟨j,h1,h2,h3⟩
    refine ⟨j,?_,h2,h3⟩
    rcases Nat.lt_or_ge k j with h | h
    ·exact h
    ·obtain rfl : j = k:=by omega
     exact absurd h3 hne
   ·rintro ⟨j,h1,h2,h3⟩
    exact ⟨j,by omega,h2,h3⟩
  by_cases e1 : (tx o.Txns k).Office = (tx o.Txns i).Office
  ·by_cases e2 : (tx o.Txns k).Seq = (tx o.Txns i).Seq
   ·left
    refine ⟨⟨k,Nat.le_refl _,by omega,e1,e2⟩,?_⟩
    simp [e1,e2]
   ·have h2 : ((tx o.Txns k).Seq == (tx o.Txns i).Seq) = false:=by simpa using e2
    have h1 : ((tx o.Txns k).Office == (tx o.Txns i).Office) = true:=by simpa using e1
    rw [h1,h2]
    simp only
    rw [step (fun h => e2 h.2)]
    exact ih'
  ·have h1 : ((tx o.Txns k).Office == (tx o.Txns i).Office) = false:=by simpa using e1
   rw [h1]
   simp only
   rw [step (fun h => e1 h.1)]
   exact ih'
end Go.Proofs.YtkdnaejhpcibnaaGreatDoor.Av
namespace Go.Proofs.YtkdnaejhpcibnaaGreatDoor.Av
open Go Go.IntWalk
theorem chk_all (t : GTxn) (hs : SmE t) : ∃ v,∀ n,2000 ≤ n → f22 n t = some v ∧ f26 n t = some v:=by
 have hl:=hs.len
 obtain ⟨v,h1,h2⟩:=txns 1999 (by omega) t (by omega) (by omega)
 refine ⟨v,fun n hn => ?_⟩
 obtain ⟨n,rfl⟩ : ∃ k,n = k + 1:=⟨n - 1,by omega⟩
 obtain ⟨w,k1,k2⟩:=txns n (by omega) t (by omega) (by omega)
 have a1:=pv_mono (show 2000 ≤ n + 1 by omega) (f22_ok 2000 t v h1)
 rw [f22_ok (n + 1) t w k1] at a1
 have e : w = v:=by simpa using a1
 subst e
 exact ⟨k1,k2⟩
theorem key_mk (a b : GTxn) : (GArr2_Int.mk a.Office a.Seq = GArr2_Int.mk b.Office b.Seq) ↔ key2 a b:=by simp [key2]
theorem valid_loops (n : Nat) (hn : 2000 ≤ n) (o : GOffice) (hs : Sm o.Txns) (hl : o.Txns.length ≤ 14) : ∀ (d m i : Nat) (mp : List (GArr2_Int × Bool)),i + d = o.Txns.length → d < m →
  (∀ k,(mget mp k).getD false = true ↔ ∃ j,j < i ∧ GArr2_Int.mk (tx o.Txns j).Office (tx o.Txns j).Seq = k) →
  ((∃ t,f21_L0 n o m mp (i : Int) = some (.inl t)) ∧ f25_L0 n o m (i : Int) = some (.inl ())) ∨
  ((∃ t,f21_L0 n o m mp (i : Int) = some (.inr t)) ∧ f25_L0 n o m (i : Int) = some (.inr ()) ∧
   ∀ j,i ≤ j → j < o.Txns.length → f22 n (tx o.Txns j) = some 0 ∧ (1 ≤ j → bef (tx o.Txns (j - 1)) (tx o.Txns j) = true) ∧ ∀ k,k < j → ¬ key2 (tx o.Txns k) (tx o.Txns j)):=by
 intro d
 induction d with
 | zero =>
  intro m i mp hi hm _
  obtain ⟨m,rfl⟩ : ∃ z,m = z + 1:=⟨m - 1,by omega⟩
  right
  rw [f21_L0,f25_L0,decide_eq_false (by omega)]
  exact ⟨⟨_,rfl⟩,rfl,fun j h1 h2 => by omega⟩
 | succ d ih =>
  intro m i mp hi hm hinv
  obtain ⟨m,rfl⟩ : ∃ z,m = z + 1:=⟨m - 1,by omega⟩
  have hlt : i < o.Txns.length:=by omega
  obtain ⟨v,hv⟩:=chk_all (tx o.Txns i) (hs _ (tx_mem hlt))
  obtain ⟨h1,h2⟩:=hv n (by omega)
  have tail : ∀ tup,((∃ t,cnd ((mget mp (GArr2_Int.mk (tx o.Txns i).Office (tx o.Txns i).Seq)).getD false) (some (.inl tup)) (f21_L0 n o m (mput mp (GArr2_Int.mk (tx o.Txns i).Office (tx o.Txns i).Seq) true) (IntKind.i64.wrap ((i : Int) + 1))) = some (.inl t)) ∧
     bnd2 (f25_L1 n (i : Int) o n 0) (fun _ => some (.inl ())) (fun _ => f25_L0 n o m (IntKind.i64.wrap ((i : Int) + 1))) = some (.inl ())) ∨
    ((∃ t,cnd ((mget mp (GArr2_Int.mk (tx o.Txns i).Office (tx o.Txns i).Seq)).getD false) (some (.inl tup)) (f21_L0 n o m (mput mp (GArr2_Int.mk (tx o.Txns i).Office (tx o.Txns i).Seq) true) (IntKind.i64.wrap ((i : Int) + 1))) = some (.inr t)) ∧
     bnd2 (f25_L1 n (i : Int) o n 0) (fun _ => some (.inl ())) (fun _ => f25_L0 n o m (IntKind.i64.wrap ((i : Int) + 1))) = some (.inr ()) ∧
     (∀ j,i + 1 ≤ j → j < o.Txns.length → f22 n (tx o.Txns j) = some 0 ∧ (1 ≤ j → bef (tx o.Txns (j - 1)) (tx o.Txns j) = true) ∧ ∀ k,k < j → ¬ key2 (tx o.Txns k) (tx o.Txns j)) ∧
     ∀ k,k < i → ¬ key2 (tx o.Txns k) (tx o.Txns i)):=by
   intro tup
   have hin:=innerK n o i hlt (by omega) i n 0 (by omega) (by omega)
   rw [show ((0 : Nat) : Int) = 0 from rfl] at hin
   have hk:=hinv (GArr2_Int.mk (tx o.Txns i).Office (tx o.Txns i).Seq)
   rcases hin with ⟨⟨j,_,j2,j3⟩,hx⟩ | ⟨hno,hx⟩
   ·left
    rw [hx,hk.2 ⟨j,j2,(key_mk _ _).2 j3⟩]
    exact ⟨⟨_,rfl⟩,rfl⟩
   ·have hno' : ∀ k,k < i → ¬ key2 (tx o.Txns k) (tx o.Txns i):=fun k hk h => hno ⟨k,Nat.zero_le _,hk,h⟩
    have hf : (mget mp (GArr2_Int.mk (tx o.Txns i).Office (tx o.Txns i).Seq)).getD false = false:=by
     cases hq : (mget mp (GArr2_Int.mk (tx o.Txns i).Office (tx o.Txns i).Seq)).getD false with
     | false => rfl
     | true => obtain ⟨j,j1,j2⟩:=hk.1 hq; exact absurd ((key_mk _ _).1 j2) (hno' j j1)
    rw [hx,hf]
    simp only [cnd,bnd2]
    rw [wrap_succ (show i < 100000 by omega)]
    have ih':=ih m (i + 1) (mput mp (GArr2_Int.mk (tx o.Txns i).Office (tx o.Txns i).Seq) true) (by omega) (by omega) (by
     intro k
     rw [mget_put]
     by_cases hkk : GArr2_Int.mk (tx o.Txns i).Office (tx o.Txns i).Seq = k
     ·rw [if_pos hkk]
      exact ⟨fun _ => ⟨i,by omega,hkk⟩,fun _ => rfl⟩
     ·rw [if_neg hkk,hinv k]
      constructor
      ·rintro ⟨j,j1,j2⟩; exact ⟨j,by omega,j2⟩
      ·rintro ⟨j,j1,j2⟩
       refine ⟨j,?_,j2⟩
       rcases Nat.lt_or_ge j i with h | h
       ·exact h
       ·obtain rfl : j = i:=by omega
        exact absurd j2 hkk)
    rcases ih' with ⟨⟨t,a1⟩,a2⟩ | ⟨⟨t,a1⟩,a2,a3⟩
    ·exact .inl ⟨⟨t,a1⟩,a2⟩
    ·exact .inr ⟨⟨t,a1⟩,a2,a3,hno'⟩
  rw [f21_L0,f25_L0,decide_eq_true (by omega)]
  simp only [bnd_of (idx_tx hlt),bnd_of h1,bnd_of h2]
  simp only [cnd]
  by_cases hv0 : v = 0
  ·subst hv0
   simp only [bne_self_eq_false]
   have fin : ∀ (A : Option (_ ⊕ _)) (B : Option (Unit ⊕ Unit)),(1 ≤ i → bef (tx o.Txns (i - 1)) (tx o.Txns i) = true) → (∃ tup,A = cnd ((mget mp (GArr2_Int.mk (tx o.Txns i).Office (tx o.Txns i).Seq)).getD false) (some (.inl tup)) (f21_L0 n o m (mput mp (GArr2_Int.mk (tx o.Txns i).Office (tx o.Txns i).Seq) true) (IntKind.i64.wrap ((i : Int) + 1)))) →
     B = bnd2 (f25_L1 n (i : Int) o n 0) (fun _ => some (.inl ())) (fun _ => f25_L0 n o m (IntKind.i64.wrap ((i : Int) + 1))) →
     ((∃ t,A = some (.inl t)) ∧ B = some (.inl ())) ∨ ((∃ t,A = some (.inr t)) ∧ B = some (.inr ()) ∧ ∀ j,i ≤ j → j < o.Txns.length → f22 n (tx o.Txns j) = some 0 ∧ (1 ≤ j → bef (tx o.Txns (j - 1)) (tx o.Txns j) = true) ∧ ∀ k,k < j → ¬ key2 (tx o.Txns k) (tx o.Txns j)):=by
    rintro A B hbe ⟨tup,rfl⟩ rfl
    rcases tail tup with h | ⟨a1,a2,a3,a4⟩
    ·exact .inl h
    ·refine .inr ⟨a1,a2,fun j j1 j2 => ?_⟩
     rcases Nat.lt_or_ge i j with h | h
     ·exact a3 j h j2
     ·obtain rfl : j = i:=by omega
      exact ⟨h1,hbe,a4⟩
   by_cases hi0 : i = 0
   ·rw [decide_eq_false (show ¬ ((i : Int) > 0) by omega)]
    exact fin _ _ (fun h => by omega) ⟨_,rfl⟩ rfl
   ·rw [decide_eq_true (show (i : Int) > 0 by omega),wrap_pred (show i < 100000 by omega) (by omega)]
    have hp : i - 1 < o.Txns.length:=by omega
    obtain ⟨n',rfl⟩ : ∃ k,n = k + 1:=⟨n - 1,by omega⟩
    simp only [bnd_of (idx_tx hp),bnd_of (f39_eq (n' + 1) _ _ (by omega)),bnd_of (f44_eq n' _ _),cmpT_ge]
    cases hb : bef (tx o.Txns (i - 1)) (tx o.Txns i) with
    | false => exact .inl ⟨⟨_,rfl⟩,rfl⟩
    | true => exact fin _ _ (fun _ => hb) ⟨_,rfl⟩ rfl
  ·have : (v != 0) = true:=by simpa using hv0
   rw [this]
   exact .inl ⟨⟨_,rfl⟩,rfl⟩
structure OkO (o : GOffice) : Prop where
 lo : 1 ≤ o.ID
 hi : o.ID ≤ 8
 srt : Srt o.Txns
 dif : Dif o.Txns
 chk : ∀ n,2000 ≤ n → ∀ t ∈ o.Txns,f22 n t = some 0
theorem valid_eq (n : Nat) (hn : 2000 ≤ n) (o : GOffice) (hs : Sm o.Txns) (hl : o.Txns.length ≤ 14) : ∃ v,f21 (n + 1) o = some v ∧ f25 (n + 1) o = some v ∧ (v = true → OkO o):=by
 rw [f21,f25]
 by_cases c1 : o.ID < 1
 ·rw [decide_eq_true c1]; exact ⟨_,rfl,rfl,fun h => by cases h⟩
 rw [decide_eq_false c1]
 by_cases c2 : o.ID > 8
 ·rw [decide_eq_true c2]; exact ⟨_,rfl,rfl,fun h => by cases h⟩
 rw [decide_eq_false c2,decide_eq_false (show ¬ ((o.Txns.length : Nat) : Int) > 256 by omega)]
 simp only [cnd]
 have h:=valid_loops n hn o hs hl o.Txns.length n 0 [] (by omega) (by omega) (by
  intro k
  constructor
  ·intro h; cases h
  ·rintro ⟨j,j1,_⟩; omega)
 rw [show ((0 : Nat) : Int) = 0 from rfl] at h
 rcases h with ⟨⟨t,a1⟩,a2⟩ | ⟨⟨t,a1⟩,a2,a3⟩
 ·rw [a1,a2]; exact ⟨_,rfl,rfl,fun h => by cases h⟩
 ·rw [a1,a2]
  refine ⟨true,rfl,rfl,fun _ => ⟨by omega,by omega,srt_of fun j j1 j2 => (a3 j (by omega) j2).2.1 j1,fun i j hij hj => (a3 j (by omega) hj).2.2 i hij,fun n' hn' t ht => ?_⟩⟩
  obtain ⟨i,hi,rfl⟩:=List.getElem_of_mem ht
  obtain ⟨v,hv⟩:=chk_all _ (hs _ ht)
  have e:=(a3 i (by omega) hi).1
  rw [tx_get hi,(hv n hn).1] at e
  have e' : v = 0:=Option.some.inj e
  subst e'
  exact (hv n' hn').1
end Go.Proofs.YtkdnaejhpcibnaaGreatDoor.Av
namespace Go.Proofs.YtkdnaejhpcibnaaGreatDoor.Av
open Go Go.IntWalk
def pos : List GTxn → GTxn → Nat
 | [],_ => 0
 | x :: l,t => if bef x t = true then pos l t + 1 else 0
theorem pos_le : ∀ (l : List GTxn) (t : GTxn),pos l t ≤ l.length
 | [],_ => Nat.le_refl _
 | x :: l,t => by
  have:=pos_le l t
  simp only [pos,List.length_cons]
  split <;> omega
theorem tx_cons (x : GTxn) (l : List GTxn) (i : Nat) : tx (x :: l) (i + 1) = tx l i:=rfl
theorem pos_lt : ∀ (l : List GTxn) (t : GTxn) (j : Nat),j < pos l t → bef (tx l j) t = true
 | [],_,_,h => absurd h (Nat.not_lt_zero _)
 | x :: l,t,j,h => by
  simp only [pos] at h
  split at h
  ·rename_i hx
   cases j with
   | zero => exact hx
   | succ j => rw [tx_cons]; exact pos_lt l t j (by omega)
  ·omega
theorem pos_at : ∀ (l : List GTxn) (t : GTxn),pos l t < l.length → bef (tx l (pos l t)) t = false
 | [],_,h => absurd h (Nat.not_lt_zero _)
 | x :: l,t,h => by
  simp only [pos,List.length_cons] at h ⊢
  split
  ·rename_i hx
   rw [if_pos hx] at h
   rw [tx_cons]
   exact pos_at l t (by omega)
  ·rename_i hx
   show bef x t = false
   simpa using hx
theorem pos_ge {l : List GTxn} (hs : Srt l) (t : GTxn) {j : Nat} (h : pos l t ≤ j) (hj : j < l.length) : bef (tx l j) t = false:=by
 have h0:=pos_at l t (by omega)
 rcases Nat.lt_or_ge (pos l t) j with h1 | h1
 ·cases hb : bef (tx l j) t with
  | false => rfl
  | true => rw [bef_trans (hs _ _ h1 hj) hb] at h0; cases h0
 ·obtain rfl : j = pos l t:=by omega
  exact h0
def ins (l : List GTxn) (t : GTxn) : List GTxn:=l.take (pos l t) ++ t :: l.drop (pos l t)
theorem search (n : Nat) (l : List GTxn) (t : GTxn) (hl : l.length ≤ 1000) : ∀ (d m i : Nat),i + d = pos l t → d < m → f27_L0 (n + 1) l t m (i : Int) = some ((pos l t : Nat) : Int):=by
 intro d
 have hp:=pos_le l t
 induction d with
 | zero =>
  intro m i hi hm
  obtain ⟨m,rfl⟩ : ∃ z,m = z + 1:=⟨m - 1,by omega⟩
  obtain rfl : i = pos l t:=by omega
  rw [f27_L0]
  by_cases h : pos l t < l.length
  ·rw [decide_eq_true (by omega)]
   simp only [cnd,bnd_of (idx_tx h),bnd_of (f44_eq n _ _),pos_at l t h]
  ·rw [decide_eq_false (by omega)]
   rfl
 | succ d ih =>
  intro m i hi hm
  obtain ⟨m,rfl⟩ : ∃ z,m = z + 1:=⟨m - 1,by omega⟩
  have h : i < l.length:=by omega
  rw [f27_L0,decide_eq_true (by omega)]
  simp only [cnd,bnd_of (idx_tx h),bnd_of (f44_eq n _ _),pos_lt l t i (by omega),wrap_succ (show i < 100000 by omega)]
  exact ih m (i + 1) (by omega) (by omega)
theorem cut_take {α : Type} (l : List α) (p : Nat) (h : p ≤ l.length) : cut l 0 (p : Int) = some (l.take p):=by
 unfold cut
 rw [if_pos ⟨by omega,by omega,by omega⟩]
 simp
theorem cut_drop {α : Type} (l : List α) (p : Nat) (h : p ≤ l.length) : cut l (p : Int) ((l.length : Nat) : Int) = some (l.drop p):=by
 unfold cut
 rw [if_pos ⟨by omega,by omega,by omega⟩]
 simp
theorem with_eq (n : Nat) (hn : 1000 ≤ n) (l : List GTxn) (t : GTxn) (hl : l.length ≤ 900) : f27 (n + 1) l t = some (ins l t):=by
 have hp:=pos_le l t
 obtain ⟨n,rfl⟩ : ∃ k,n = k + 1:=⟨n - 1,by omega⟩
 have h:=search n l t (by omega) (pos l t) (n + 1) 0 (by omega) (by omega)
 rw [show ((0 : Nat) : Int) = 0 from rfl] at h
 rw [f27]
 simp only [bnd_of h,bnd_of (cut_take l _ hp),bnd_of (cut_drop l _ hp)]
 have a1 : app [t] (l.drop (pos l t)) = some (t :: l.drop (pos l t)):=app_of (by simp; omega)
 cases he : (l.take (pos l t)).isEmpty with
 | true =>
  have e : l.take (pos l t) = []:=List.isEmpty_iff.1 he
  simp only [cnd,bnd_of a1,ins,e,List.nil_append]
 | false =>
  have a2 : app ([] : List GTxn) (l.take (pos l t)) = some (l.take (pos l t)):=app_of (by simp; omega)
  have a3 : app (l.take (pos l t)) [t] = some (l.take (pos l t) ++ [t]):=app_of (by simp; omega)
  have a4 : app (l.take (pos l t) ++ [t]) (l.drop (pos l t)) = some (l.take (pos l t) ++ [t] ++ l.drop (pos l t)):=app_of (by simp; omega)
  simp only [cnd,bnd_of a2,bnd_of a3,bnd_of a4,ins,List.append_assoc,List.singleton_append]
def bsL (n : Nat) (l : List GTxn) (t : GTxn) : Nat → Int → Int → Option Int
 | 0,_,_ => none
 | m + 1,i,j => (cnd (decide (j < i)) (bnd (idxK l l.length (IntKind.i64.wrap (Int.fdiv (IntKind.u64.wrap (IntKind.i64.wrap (j + i))) 2))) fun x => (bnd (f39 n x t) fun v => (cnd (decide (v < 0)) (bsL n l t m i (IntKind.i64.wrap ((IntKind.i64.wrap (Int.fdiv (IntKind.u64.wrap (IntKind.i64.wrap (j + i))) 2)) + 1))) (bsL n l t m (IntKind.i64.wrap (Int.fdiv (IntKind.u64.wrap (IntKind.i64.wrap (j + i))) 2)) j)))) (some j))
theorem mid_eq {i j : Nat} (h : i + j < 100000) : IntKind.i64.wrap (Int.fdiv (IntKind.u64.wrap (IntKind.i64.wrap ((j : Int) + (i : Int)))) 2) = (((j + i) / 2 : Nat) : Int):=by
 have e : Int.fdiv ((j : Int) + (i : Int)) 2 = (((j + i) / 2 : Nat) : Int):=by
  rw [Int.fdiv_eq_ediv_of_nonneg _ (by omega)]
  omega
 rw [i64_in ((j : Int) + (i : Int)) (by omega),u64_in _ (by omega),e,i64_in _ (by omega)]
theorem bs_eq (n : Nat) (hn : 10 ≤ n) (l : List GTxn) (t : GTxn) (hs : Srt l) (hl : l.length ≤ 1000) : ∀ (d m i j : Nat),i ≤ j + d → d < m → j ≤ pos l t → pos l t ≤ i → i ≤ l.length → bsL n l t m (i : Int) (j : Int) = some ((pos l t : Nat) : Int):=by
 intro d
 induction d with
 | zero =>
  intro m i j h1 hm h2 h3 h4
  obtain ⟨m,rfl⟩ : ∃ z,m = z + 1:=⟨m - 1,by omega⟩
  obtain rfl : j = pos l t:=by omega
  rw [bsL,decide_eq_false (by omega)]
  rfl
 | succ d ih =>
  intro m i j h1 hm h2 h3 h4
  obtain ⟨m,rfl⟩ : ∃ z,m = z + 1:=⟨m - 1,by omega⟩
  rw [bsL]
  by_cases hij : j < i
  ·have hk : (j + i) / 2 < l.length:=by omega
   rw [decide_eq_true (by omega),mid_eq (by omega)]
   simp only [cnd,bnd_of (idxK_tx hk),bnd_of (f39_eq n _ _ hn),cmpT_lt]
   rcases Nat.lt_or_ge ((j + i) / 2) (pos l t) with hb | hb
   ·rw [pos_lt l t _ hb,wrap_succ (by omega)]
    exact ih m i ((j + i) / 2 + 1) (by omega) (by omega) (by omega) h3 h4
   ·rw [pos_ge hs t hb hk]
    exact ih m ((j + i) / 2) j (by omega) (by omega) h2 hb (by omega)
  ·obtain rfl : j = pos l t:=by omega
   rw [decide_eq_false (by omega)]
   rfl
theorem insO_eq (l : List GTxn) (t : GTxn) (hl : l.length ≤ 1000) : insO l ((pos l t : Nat) : Int) t = some (ins l t):=by
 have hp:=pos_le l t
 unfold insO
 rw [if_pos ⟨by omega,by simpa using hp,by omega⟩]
 simp [ins]
theorem ins_len (l : List GTxn) (t : GTxn) : (ins l t).length = l.length + 1:=by
 have hp:=pos_le l t
 simp only [ins,List.length_append,List.length_take,List.length_cons,List.length_drop]
 omega
theorem ins_mem (l : List GTxn) (t x : GTxn) : x ∈ ins l t ↔ x = t ∨ x ∈ l:=by
 unfold ins
 conv => rhs; rw [← List.take_append_drop (pos l t) l]
 simp only [List.mem_append,List.mem_cons]
 constructor
 ·rintro (h | h | h)
  ·exact .inr (.inl h)
  ·exact .inl h
  ·exact .inr (.inr h)
 ·rintro (h | h | h)
  ·exact .inr (.inl h)
  ·exact .inl h
  ·exact .inr (.inr h)
theorem ins_tx (l : List GTxn) (t : GTxn) (j : Nat) : tx (ins l t) j = if j < pos l t then tx l j else if j = pos l t then t else tx l (j - 1):=by
 have hp:=pos_le l t
 unfold tx ins
 simp only [List.getD_eq_getElem?_getD]
 rw [List.getElem?_append]
 simp only [List.length_take,Nat.min_eq_left hp]
 split
 ·rw [List.getElem?_take,if_pos (by assumption)]
 ·split
  ·rename_i h1 h2
   subst h2
   simp
  ·rename_i h1 h2
   obtain ⟨k,hk⟩ : ∃ k,j = pos l t + 1 + k:=⟨j - pos l t - 1,by omega⟩
   subst hk
   have e1 : pos l t + 1 + k - pos l t = k + 1:=by omega
   have e2 : pos l t + 1 + k - 1 = pos l t + k:=by omega
   rw [e1,e2,List.getElem?_cons_succ,List.getElem?_drop]
theorem ins_srt {l : List GTxn} (hs : Srt l) {t : GTxn} (hne : ∀ x ∈ l,¬ key2 x t) : Srt (ins l t):=by
 have hp:=pos_le l t
 have after : ∀ j,pos l t ≤ j → j < l.length → bef t (tx l j) = true:=by
  intro j h1 h2
  rcases bef_tri (pos_ge hs t h1 h2) with h | h
  ·exact h
  ·exact absurd ⟨h.2.1,h.2.2⟩ (hne _ (tx_mem h2))
 intro i j hij hj
 rw [ins_len] at hj
 rw [ins_tx,ins_tx]
 by_cases h1 : i < pos l t
 ·rw [if_pos h1]
  by_cases h2 : j < pos l t
  ·rw [if_pos h2]; exact hs _ _ hij (by omega)
  ·rw [if_neg h2]
   by_cases h3 : j = pos l t
   ·rw [if_pos h3]; exact pos_lt l t i h1
   ·rw [if_neg h3]; exact hs _ _ (by omega) (by omega)
 ·rw [if_neg h1]
  by_cases h2 : i = pos l t
  ·rw [if_pos h2,if_neg (by omega),if_neg (by omega)]
   exact after _ (by omega) (by omega)
  ·rw [if_neg h2,if_neg (by omega),if_neg (by omega)]
   exact hs _ _ (by omega) (by omega)
theorem prd_s (n : Nat) : prd (n + 1) = some n:=rfl
theorem clone60 (n : Nat) (l : List GPoint) (h : l.length ≤ 1000000) : f60 (n + 1) l = some l:=by simp [f60,h]
theorem clone61 (n : Nat) (l : List Int) (h : l.length ≤ 1000000) : f61 (n + 1) l = some l:=by simp [f61,h]
theorem set_get {α : Type} (l : List α) (i : Nat) (h : i < l.length) : l.set i l[i] = l:=by
 apply List.ext_getElem?
 intro j
 rw [List.getElem?_set]
 split
 ·rename_i e
  subst e
  simp [h]
 ·rfl
theorem idxK_get {α : Type} {l : List α} {i k : Nat} (h : i < l.length) (hk : i < k) : idxK l k (i : Int) = some l[i]:=by
 unfold idxK
 rw [if_pos ⟨by omega,by simpa using hk⟩]
 simp [h]
theorem fresh_loop (n : Nat) (t : GTxn) (hs : SmE t) : ∀ (d m i : Nat),i + d = t.Edits.length → d < m → f37_L0_2 (n + 1) t m t.Edits (i : Int) = some t.Edits:=by
 have hl:=hs.len
 intro d
 induction d with
 | zero =>
  intro m i hi hm
  obtain ⟨m,rfl⟩ : ∃ z,m = z + 1:=⟨m - 1,by omega⟩
  rw [f37_L0_2,decide_eq_false (by omega)]
  rfl
 | succ d ih =>
  intro m i hi hm
  obtain ⟨m,rfl⟩ : ∃ z,m = z + 1:=⟨m - 1,by omega⟩
  have h : i < t.Edits.length:=by omega
  have hm:=List.getElem_mem h
  have hv:=hs.via _ hm
  have hp:=hs.parts _ hm
  rw [f37_L0_2,decide_eq_true (by omega)]
  have e0 : (GEdit.mk t.Edits[i].Kind t.Edits[i].ID t.Edits[i].A t.Edits[i].B t.Edits[i].C t.Edits[i].At t.Edits[i].Via t.Edits[i].Name t.Edits[i].Parts) = t.Edits[i]:=rfl
  simp only [cnd,bnd_of (idxK_get h h),bnd_of (clone60 n _ (show t.Edits[i].Via.length ≤ 1000000 by omega)),bnd_of (clone61 n _ (show t.Edits[i].Parts.length ≤ 1000000 by omega)),e0,Int.toNat_natCast,set_get _ i h,wrap_succ (show i < 100000 by omega)]
  exact ih m (i + 1) (by omega) (by omega)
theorem fresh_eq (n : Nat) (hn : 20 ≤ n) (t : GTxn) (hs : SmE t) : f37 (n + 1) t = some t:=by
 have hl:=hs.len
 obtain ⟨n,rfl⟩ : ∃ k,n = k + 1:=⟨n - 1,by omega⟩
 rw [f37]
 simp only [bnd_of (prd_s n)]
 cases he : t.Edits.isEmpty with
 | true =>
  have e : t.Edits = []:=List.isEmpty_iff.1 he
  have h1 : f37_L0 (n + 1) t (n + 1) = some ():=rfl
  simp only [cnd,bnd_of h1]
  cases t
  simp only at e
  subst e
  rfl
 | false =>
  have h1:=fresh_loop n t hs t.Edits.length (n + 1) 0 (by omega) (by omega)
  rw [show ((0 : Nat) : Int) = 0 from rfl] at h1
  have h2 : grd (decide (List.length t.Edits ≤ 1000000)) = some ():=by rw [decide_eq_true (by omega)]; rfl
  simp only [cnd,bnd_of h2,bnd_of h1]
end Go.Proofs.YtkdnaejhpcibnaaGreatDoor.Av
namespace Go.Proofs.YtkdnaejhpcibnaaGreatDoor.Av
open Go Go.IntWalk
theorem idx_g {α : Type} {l : List α} {i : Nat} (h : i < l.length) : idx l (i : Int) = some l[i]:=idx_get h
theorem same54_L (n : Nat) (l : List GPoint) (hl : l.length ≤ 1000) : ∀ (d m i : Nat),i + d = l.length → d < m → f54_L0 n l l m (i : Int) = some (.inr ()):=by
 intro d
 induction d with
 | zero =>
  intro m i hi hm
  obtain ⟨m,rfl⟩ : ∃ z,m = z + 1:=⟨m - 1,by omega⟩
  rw [f54_L0,decide_eq_false (by omega)]; rfl
 | succ d ih =>
  intro m i hi hm
  obtain ⟨m,rfl⟩ : ∃ z,m = z + 1:=⟨m - 1,by omega⟩
  have h : i < l.length:=by omega
  rw [f54_L0,decide_eq_true (by omega)]
  simp only [cnd,bnd_of (idx_g h),decide_true,wrap_succ (show i < 100000 by omega)]
  exact ih m (i + 1) (by omega) (by omega)
theorem same54 (n : Nat) (hn : 1001 ≤ n) (l : List GPoint) (hl : l.length ≤ 1000) : f54 (n + 1) l l = some true:=by
 have h:=same54_L n l hl l.length n 0 (by omega) (by omega)
 rw [show ((0 : Nat) : Int) = 0 from rfl] at h
 rw [f54,h]
 simp only [bne_self_eq_false,cnd,bnd2]
theorem same55_L (n : Nat) (l : List Int) (hl : l.length ≤ 1000) : ∀ (d m i : Nat),i + d = l.length → d < m → f55_L0 n l l m (i : Int) = some (.inr ()):=by
 intro d
 induction d with
 | zero =>
  intro m i hi hm
  obtain ⟨m,rfl⟩ : ∃ z,m = z + 1:=⟨m - 1,by omega⟩
  rw [f55_L0,decide_eq_false (by omega)]; rfl
 | succ d ih =>
  intro m i hi hm
  obtain ⟨m,rfl⟩ : ∃ z,m = z + 1:=⟨m - 1,by omega⟩
  have h : i < l.length:=by omega
  rw [f55_L0,decide_eq_true (by omega)]
  simp only [cnd,bnd_of (idx_g h),bne_self_eq_false,wrap_succ (show i < 100000 by omega)]
  exact ih m (i + 1) (by omega) (by omega)
theorem same55 (n : Nat) (hn : 1001 ≤ n) (l : List Int) (hl : l.length ≤ 1000) : f55 (n + 1) l l = some true:=by
 have h:=same55_L n l hl l.length n 0 (by omega) (by omega)
 rw [show ((0 : Nat) : Int) = 0 from rfl] at h
 rw [f55,h]
 simp only [bne_self_eq_false,cnd,bnd2]
theorem same34 (n : Nat) (hn : 1100 ≤ n) (e : GEdit) (h1 : e.Via.length ≤ 20) (h2 : e.Parts.length ≤ 20) : f34 (n + 1) e e = some true:=by
 obtain ⟨n,rfl⟩ : ∃ z,n = z + 1:=⟨n - 1,by omega⟩
 rw [f34]
 simp only [beq_self_eq_true,cnd,decide_true,bnd_of (same54 n (by omega) e.Via (by omega)),bnd_of (same55 n (by omega) e.Parts (by omega))]
theorem same17_L (n : Nat) (hn : 1101 ≤ n) (t : GTxn) (hs : SmE t) : ∀ (d m i : Nat),i + d = t.Edits.length → d < m → f17_L0 n t t m (i : Int) = some (.inr ()):=by
 have hl:=hs.len
 obtain ⟨n,rfl⟩ : ∃ z,n = z + 1:=⟨n - 1,by omega⟩
 intro d
 induction d with
 | zero =>
  intro m i hi hm
  obtain ⟨m,rfl⟩ : ∃ z,m = z + 1:=⟨m - 1,by omega⟩
  rw [f17_L0,decide_eq_false (by omega)]; rfl
 | succ d ih =>
  intro m i hi hm
  obtain ⟨m,rfl⟩ : ∃ z,m = z + 1:=⟨m - 1,by omega⟩
  have h : i < t.Edits.length:=by omega
  have hm:=List.getElem_mem h
  rw [f17_L0,decide_eq_true (by omega)]
  simp only [cnd,bnd_of (idx_g h),bnd_of (same34 n (by omega) _ (hs.via _ hm) (hs.parts _ hm)),wrap_succ (show i < 100000 by omega)]
  exact ih m (i + 1) (by omega) (by omega)
theorem same17 (n : Nat) (hn : 1200 ≤ n) (t : GTxn) (hs : SmE t) : f17 (n + 1) t t = some true:=by
 have hl:=hs.len
 have h:=same17_L n (by omega) t hs t.Edits.length n 0 (by omega) (by omega)
 rw [show ((0 : Nat) : Int) = 0 from rfl] at h
 rw [f17,h]
 simp only [bne_self_eq_false,decide_true,cnd,bnd2]
theorem same15_L (n : Nat) (hn : 1201 ≤ n) (l : List GTxn) (hs : Sm l) (hl : l.length ≤ 1000) : ∀ (d m i : Nat),i + d = l.length → d < m → f15_L0 n l l m (i : Int) = some (.inr ()):=by
 obtain ⟨n,rfl⟩ : ∃ z,n = z + 1:=⟨n - 1,by omega⟩
 intro d
 induction d with
 | zero =>
  intro m i hi hm
  obtain ⟨m,rfl⟩ : ∃ z,m = z + 1:=⟨m - 1,by omega⟩
  rw [f15_L0,decide_eq_false (by omega)]; rfl
 | succ d ih =>
  intro m i hi hm
  obtain ⟨m,rfl⟩ : ∃ z,m = z + 1:=⟨m - 1,by omega⟩
  have h : i < l.length:=by omega
  rw [f15_L0,decide_eq_true (by omega)]
  simp only [cnd,bnd_of (idx_tx h),bnd_of (same17 n (by omega) _ (hs _ (tx_mem h))),wrap_succ (show i < 100000 by omega)]
  exact ih m (i + 1) (by omega) (by omega)
theorem same15 (n : Nat) (hn : 1300 ≤ n) (l : List GTxn) (hs : Sm l) (hl : l.length ≤ 1000) : f15 (n + 1) l l = some true:=by
 have h:=same15_L n (by omega) l hs hl l.length n 0 (by omega) (by omega)
 rw [show ((0 : Nat) : Int) = 0 from rfl] at h
 rw [f15,h]
 simp only [bne_self_eq_false,cnd,bnd2]
structure SmL (l : List GEdit) : Prop where
 len : l.length ≤ 6
 via : ∀ e ∈ l,e.Via.length ≤ 20
 parts : ∀ e ∈ l,e.Parts.length ≤ 20
theorem edits_L (n : Nat) (l : List GEdit) : ∀ (d m i : Nat),i + d = 7 → d < m →
  f4_L0 n l m (i : Int) = some (.inl ()) ∨ (f4_L0 n l m (i : Int) = some (.inr ()) ∧ (l.length ≤ 6 → ∀ j,(h : j < l.length) → i ≤ j → l[j].Via.length ≤ 20 ∧ l[j].Parts.length ≤ 20)):=by
 intro d
 induction d with
 | zero =>
  intro m i hi hm
  obtain ⟨m,rfl⟩ : ∃ z,m = z + 1:=⟨m - 1,by omega⟩
  right
  rw [f4_L0]
  by_cases h : (i : Int) < ((l.length : Nat) : Int)
  ·rw [decide_eq_true h,decide_eq_false (show ¬ ((i : Int) < 7) by omega)]
   exact ⟨rfl,fun hl j hj hij => by omega⟩
  ·rw [decide_eq_false h]
   exact ⟨rfl,fun hl j hj hij => by omega⟩
 | succ d ih =>
  intro m i hi hm
  obtain ⟨m,rfl⟩ : ∃ z,m = z + 1:=⟨m - 1,by omega⟩
  rw [f4_L0]
  by_cases h : i < l.length
  ·rw [decide_eq_true (by omega),decide_eq_true (show ((i : Int) < 7) by omega)]
   simp only [bnd_of (idx_g h)]
   by_cases c1 : ((l[i].Via.length : Nat) : Int) > 20
   ·rw [decide_eq_true c1]; exact .inl rfl
   by_cases c2 : ((l[i].Parts.length : Nat) : Int) > 20
   ·rw [decide_eq_false c1,decide_eq_true c2]; exact .inl rfl
   by_cases c3 : ((l[i].Name.size : Nat) : Int) > 100
   ·rw [decide_eq_false c1,decide_eq_false c2,decide_eq_true c3]; exact .inl rfl
   rw [decide_eq_false c1,decide_eq_false c2,decide_eq_false c3]
   simp only [cnd,wrap_succ (show i < 100000 by omega)]
   rcases ih m (i + 1) (by omega) (by omega) with h1 | ⟨h1,h2⟩
   ·exact .inl h1
   ·refine .inr ⟨h1,fun hl j hj hij => ?_⟩
    rcases Nat.lt_or_ge i j with h3 | h3
    ·exact h2 hl j hj h3
    ·obtain rfl : j = i:=by omega
     exact ⟨by omega,by omega⟩
  ·rw [decide_eq_false (by omega)]
   exact .inr ⟨rfl,fun hl j hj hij => by omega⟩
theorem edits_eq (n : Nat) (hn : 10 ≤ n) (l : List GEdit) : ∃ v,f4 (n + 1) l = some v ∧ (v = true → SmL l):=by
 have h:=edits_L n l 7 n 0 (by omega) (by omega)
 rw [show ((0 : Nat) : Int) = 0 from rfl] at h
 rw [f4]
 rcases h with h | ⟨h,hh⟩
 ·rw [h]; exact ⟨_,rfl,fun h => by cases h⟩
 ·rw [h]
  simp only [bnd2]
  by_cases c : ((l.length : Nat) : Int) ≤ 6
  ·rw [decide_eq_true c]
   refine ⟨_,rfl,fun _ => ⟨by omega,fun e he => ?_,fun e he => ?_⟩⟩
   ·obtain ⟨j,hj,rfl⟩:=List.getElem_of_mem he
    exact (hh (by omega) j hj (Nat.zero_le _)).1
   ·obtain ⟨j,hj,rfl⟩:=List.getElem_of_mem he
    exact (hh (by omega) j hj (Nat.zero_le _)).2
  ·rw [decide_eq_false c]
   exact ⟨_,rfl,fun h => by cases h⟩
theorem small_L (n : Nat) (hn : 20 ≤ n) (l : List GTxn) (hl : l.length ≤ 14) : ∀ (d m i : Nat),i + d = l.length → d < m →
  f3_L0 n l m (i : Int) = some (.inl ()) ∨ (f3_L0 n l m (i : Int) = some (.inr ()) ∧ ∀ j,i ≤ j → j < l.length → SmL (tx l j).Edits):=by
 obtain ⟨n,rfl⟩ : ∃ z,n = z + 1:=⟨n - 1,by omega⟩
 intro d
 induction d with
 | zero =>
  intro m i hi hm
  obtain ⟨m,rfl⟩ : ∃ z,m = z + 1:=⟨m - 1,by omega⟩
  right
  rw [f3_L0,decide_eq_false (by omega)]
  exact ⟨rfl,fun j h1 h2 => by omega⟩
 | succ d ih =>
  intro m i hi hm
  obtain ⟨m,rfl⟩ : ∃ z,m = z + 1:=⟨m - 1,by omega⟩
  have h : i < l.length:=by omega
  obtain ⟨v,h1,h2⟩:=edits_eq n (by omega) (tx l i).Edits
  rw [f3_L0,decide_eq_true (by omega)]
  simp only [bnd_of (idx_tx h),bnd_of h1]
  by_cases c : (((tx l i).Source.size : Nat) : Int) > 100
  ·rw [decide_eq_true c]; exact .inl rfl
  rw [decide_eq_false c]
  cases v with
  | false => exact .inl rfl
  | true =>
   simp only [cnd,wrap_succ (show i < 100000 by omega)]
   rcases ih m (i + 1) (by omega) (by omega) with h3 | ⟨h3,h4⟩
   ·exact .inl h3
   ·refine .inr ⟨h3,fun j j1 j2 => ?_⟩
    rcases Nat.lt_or_ge i j with h5 | h5
    ·exact h4 j h5 j2
    ·obtain rfl : j = i:=by omega
     exact h2 rfl
theorem small_eq (n : Nat) (hn : 100 ≤ n) (l : List GTxn) : ∃ v,f3 (n + 1) l = some v ∧ (v = true → Sm l ∧ l.length ≤ 14):=by
 rw [f3]
 by_cases c : ((l.length : Nat) : Int) > 14
 ·rw [decide_eq_true c]; exact ⟨_,rfl,fun h => by cases h⟩
 rw [decide_eq_false c]
 have h:=small_L n (by omega) l (by omega) l.length n 0 (by omega) (by omega)
 rw [show ((0 : Nat) : Int) = 0 from rfl] at h
 rcases h with h | ⟨h,hh⟩
 ·rw [h]; exact ⟨_,rfl,fun h => by cases h⟩
 ·rw [h]
  refine ⟨_,rfl,fun _ => ⟨fun t ht => ?_,by omega⟩⟩
  obtain ⟨j,hj,rfl⟩:=List.getElem_of_mem ht
  have:=hh j (Nat.zero_le _) hj
  rw [tx_get hj] at this
  exact ⟨this.len,this.via,this.parts⟩
def cpL (n : Nat) (o : GOffice) : Nat → List GTxn → Int → Option (List GTxn)
 | 0,_,_ => none
 | m + 1,l,i => cnd (decide (i < ((o.Txns.length : Nat) : Int))) (bnd (idx o.Txns i) fun x => bnd (f37 n x) fun v => bnd (app l [v]) fun l2 => cpL n o m l2 (IntKind.i64.wrap (i + 1))) (some l)
theorem cp_eq (n : Nat) (hn : 30 ≤ n) (o : GOffice) (hs : Sm o.Txns) (hl : o.Txns.length ≤ 1000) : ∀ (d m i : Nat),i + d = o.Txns.length → d < m → cpL n o m (o.Txns.take i) (i : Int) = some o.Txns:=by
 obtain ⟨n,rfl⟩ : ∃ z,n = z + 1:=⟨n - 1,by omega⟩
 intro d
 induction d with
 | zero =>
  intro m i hi hm
  obtain ⟨m,rfl⟩ : ∃ z,m = z + 1:=⟨m - 1,by omega⟩
  rw [cpL,decide_eq_false (by omega),List.take_of_length_le (by omega)]
  rfl
 | succ d ih =>
  intro m i hi hm
  obtain ⟨m,rfl⟩ : ∃ z,m = z + 1:=⟨m - 1,by omega⟩
  have h : i < o.Txns.length:=by omega
  have e : app (o.Txns.take i) [tx o.Txns i] = some (o.Txns.take (i + 1)):=by
   rw [app_of (by simp; omega),tx_get h,List.take_succ_eq_append_getElem h]
  rw [cpL,decide_eq_true (by omega)]
  simp only [cnd,bnd_of (idx_tx h),bnd_of (fresh_eq n (by omega) _ (hs _ (tx_mem h))),bnd_of e,wrap_succ (show i < 100000 by omega)]
  exact ih m (i + 1) (by omega) (by omega)
end Go.Proofs.YtkdnaejhpcibnaaGreatDoor.Av
namespace Go.Proofs.YtkdnaejhpcibnaaGreatDoor.Av
open Go Go.IntWalk
theorem f5_val {n : Nat} (h : 10000 ≤ n) : f5 n = some true:=by unfold f5; rw [if_pos h]
end Go.Proofs.YtkdnaejhpcibnaaGreatDoor.Av
