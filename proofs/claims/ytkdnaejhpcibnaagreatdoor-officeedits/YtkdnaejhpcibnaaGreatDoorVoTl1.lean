/- A part of the proofs of laws of the chapter office: an evaluator of the program, proved sound, and what it says. -/
import Derived.Test.YtkdnaejhpcibnaaGreatDoorVoTl0
set_option linter.unusedVariables false
set_option linter.unusedSimpArgs false
namespace Go.Proofs.YtkdnaejhpcibnaaGreatDoor.Av
open Go
theorem f22_ok (n : Nat) (aA : GTxn) (r : Int) (h : f22 n aA = some r) : pv PP T n 22 [(.agg (c_GTxn aA))] = some (iv r):=by
 cases n with
 | zero => cases h
 | succ n =>
  rw [f22] at h
  rcases cn h with ⟨ae,aB,h⟩ | ⟨ae,aB,h⟩
  ·obtain rfl:=si h
   exact pv_q F22 (qa 7 aB <| q0) [] []
  rcases cn h with ⟨af,aC,h⟩ | ⟨af,aC,h⟩
  ·obtain rfl:=si h
   exact pv_q F22 (qa 11 aC <| qa 7 aB <| q0) [] []
  rcases cn h with ⟨ag,aD,h⟩ | ⟨ag,aD,h⟩
  ·obtain rfl:=si h
   exact pv_q F22 (qa 16 aD <| qa 11 aC <| qa 7 aB <| q0) [] []
  rcases cn h with ⟨ah,aE,h⟩ | ⟨ah,aE,h⟩
  ·obtain rfl:=si h
   exact pv_q F22 (qa 21 aE <| qa 16 aD <| qa 11 aC <| qa 7 aB <| q0) [] []
  rcases cn h with ⟨ai,aF,h⟩ | ⟨ai,aF,h⟩
  ·obtain rfl:=si h
   exact pv_q F22 (qa 26 aF <| qa 21 aE <| qa 16 aD <| qa 11 aC <| qa 7 aB <| q0) [] []
  rcases cn h with ⟨aj,aG,h⟩ | ⟨aj,aG,h⟩
  ·obtain rfl:=si h
   exact pv_q F22 (qa 31 aG <| qa 26 aF <| qa 21 aE <| qa 16 aD <| qa 11 aC <| qa 7 aB <| q0) [] []
  rcases cn h with ⟨aT,ak,h⟩ | ⟨aT,ak,h⟩
  ·have aO:=c_str_neq (P:=PP) (cf:=evF PP T n) (fl:=0) (H:=[(.blk 5 [(c_GTxn aA)])]) (t:=9) aT
   have aP:=len_sl (P:=PP) (cf:=evF PP T n) (fl:=0) (H:=[(.blk 5 [(c_GTxn aA)])]) (f:=false) (c:=c_GEdit) (l:=aA.Edits)
   rcases cn h with ⟨al,aK,h⟩ | ⟨al,aK,h⟩
   ·obtain rfl:=si h
    exact pv_q F22 (qa 45 aK <| qb 44 aP <| qb 35 aO <| qa 31 aG <| qa 26 aF <| qa 21 aE <| qa 16 aD <| qa 11 aC <| qa 7 aB <| q0) [] []
   have aU:=len_sl (P:=PP) (cf:=evF PP T n) (fl:=0) (H:=[(.blk 5 [(c_GTxn aA)])]) (f:=false) (c:=c_GEdit) (l:=aA.Edits)
   rcases cn h with ⟨am,aQ,h⟩ | ⟨am,aQ,h⟩
   ·obtain rfl:=si h
    exact pv_q F22 (qa 50 aQ <| qb 49 aU <| qa 45 aK <| qb 44 aP <| qb 35 aO <| qa 31 aG <| qa 26 aF <| qa 21 aE <| qa 16 aD <| qa 11 aC <| qa 7 aB <| q0) [] []
   have aa:=len_sl (P:=PP) (cf:=evF PP T n) (fl:=0) (H:=[(.blk 5 [(c_GTxn aA)])]) (f:=false) (c:=c_GEdit) (l:=aA.Edits)
   have ab : cleanQ true 0 1 [(.blk 5 [(c_GTxn aA)])]:=(by exact (clo rfl rfl))
   rcases bnd2_some h with ⟨aH,aV,h⟩ | ⟨ar,aV,h⟩
   rotate_left
   ·have aW:=f22_L0_ok n aA n 0 _ aV
    obtain rfl:=si h
    exact pv_q F22 (qp aW <| qp ab <| qb 54 aa <| qa 50 aQ <| qb 49 aU <| qa 45 aK <| qb 44 aP <| qb 35 aO <| qa 31 aG <| qa 26 aF <| qa 21 aE <| qa 16 aD <| qa 11 aC <| qa 7 aB <| q0) [((.exit 0),f22_L0_E1 aA)] []
   have aW:=f22_L0_ok n aA n 0 _ aV
   obtain rfl:=si h
   exact pv_q F22 (qp aW <| qp ab <| qb 54 aa <| qa 50 aQ <| qb 49 aU <| qa 45 aK <| qb 44 aP <| qb 35 aO <| qa 31 aG <| qa 26 aF <| qa 21 aE <| qa 16 aD <| qa 11 aC <| qa 7 aB <| q0) [(.ret,f22_L0_E0 aA aH.1 aH.2.1 aH.2.2.1 aH.2.2.2.1 aH.2.2.2.2.1 aH.2.2.2.2.2.1 aH.2.2.2.2.2.2.1 aH.2.2.2.2.2.2.2.1 aH.2.2.2.2.2.2.2.2.1 aH.2.2.2.2.2.2.2.2.2.1 aH.2.2.2.2.2.2.2.2.2.2)] []
  have aL:=c_str_neq (P:=PP) (cf:=evF PP T n) (fl:=0) (H:=[(.blk 5 [(c_GTxn aA)])]) (t:=9) aT
  obtain ⟨au,an,h⟩:=bnd_some h
  have aM:=f40_ok n aA.Source _ an
  rcases cn h with ⟨ao,aJ,h⟩ | ⟨ao,aJ,h⟩
  ·obtain rfl:=si h
   exact pv_q F22 (qa 40 aJ <| qa 38 aM <| qb 35 aL <| qa 31 aG <| qa 26 aF <| qa 21 aE <| qa 16 aD <| qa 11 aC <| qa 7 aB <| q0) [] []
  have aR:=len_sl (P:=PP) (cf:=evF PP T n) (fl:=0) (H:=[(.blk 5 [(c_GTxn aA)])]) (f:=false) (c:=c_GEdit) (l:=aA.Edits)
  rcases cn h with ⟨ap,aN,h⟩ | ⟨ap,aN,h⟩
  ·obtain rfl:=si h
   exact pv_q F22 (qa 45 aN <| qb 44 aR <| qa 40 aJ <| qa 38 aM <| qb 35 aL <| qa 31 aG <| qa 26 aF <| qa 21 aE <| qa 16 aD <| qa 11 aC <| qa 7 aB <| q0) [] []
  have aX:=len_sl (P:=PP) (cf:=evF PP T n) (fl:=0) (H:=[(.blk 5 [(c_GTxn aA)])]) (f:=false) (c:=c_GEdit) (l:=aA.Edits)
  rcases cn h with ⟨aq,aS,h⟩ | ⟨aq,aS,h⟩
  ·obtain rfl:=si h
   exact pv_q F22 (qa 50 aS <| qb 49 aX <| qa 45 aN <| qb 44 aR <| qa 40 aJ <| qa 38 aM <| qb 35 aL <| qa 31 aG <| qa 26 aF <| qa 21 aE <| qa 16 aD <| qa 11 aC <| qa 7 aB <| q0) [] []
  have ac:=len_sl (P:=PP) (cf:=evF PP T n) (fl:=0) (H:=[(.blk 5 [(c_GTxn aA)])]) (f:=false) (c:=c_GEdit) (l:=aA.Edits)
  have ad : cleanQ true 0 1 [(.blk 5 [(c_GTxn aA)])]:=(by exact (clo rfl rfl))
  rcases bnd2_some h with ⟨aI,aY,h⟩ | ⟨av,aY,h⟩
  rotate_left
  ·have aZ:=f22_L0_ok n aA n 0 _ aY
   obtain rfl:=si h
   exact pv_q F22 (qp aZ <| qp ad <| qb 54 ac <| qa 50 aS <| qb 49 aX <| qa 45 aN <| qb 44 aR <| qa 40 aJ <| qa 38 aM <| qb 35 aL <| qa 31 aG <| qa 26 aF <| qa 21 aE <| qa 16 aD <| qa 11 aC <| qa 7 aB <| q0) [((.exit 0),f22_L0_E1 aA)] []
  have aZ:=f22_L0_ok n aA n 0 _ aY
  obtain rfl:=si h
  exact pv_q F22 (qp aZ <| qp ad <| qb 54 ac <| qa 50 aS <| qb 49 aX <| qa 45 aN <| qb 44 aR <| qa 40 aJ <| qa 38 aM <| qb 35 aL <| qa 31 aG <| qa 26 aF <| qa 21 aE <| qa 16 aD <| qa 11 aC <| qa 7 aB <| q0) [(.ret,f22_L0_E0 aA aI.1 aI.2.1 aI.2.2.1 aI.2.2.2.1 aI.2.2.2.2.1 aI.2.2.2.2.2.1 aI.2.2.2.2.2.2.1 aI.2.2.2.2.2.2.2.1 aI.2.2.2.2.2.2.2.2.1 aI.2.2.2.2.2.2.2.2.2.1 aI.2.2.2.2.2.2.2.2.2.2)] []
abbrev hp19 (a2447 : GOffice) : Heap:=[(.blk 2 [[(iv a2447.ID),(.sl false (List.map c_GTxn a2447.Txns))]])]
abbrev hp20 (a2447 : GOffice) : Heap:=[(.blk 2 [[(iv a2447.ID),(.sl false (List.map c_GTxn a2447.Txns))]]),(.mp (entL kv_GArr2_Int a_bool ([] : List (GArr2_Int × Bool))))]
def f21_L0_S (aA : GOffice) (aB : (List (GArr2_Int × Bool))) (aC : Int) : St:=⟨[U,(.ptr 0 1 0 0),U,(.mp 1),U,U,U,U,U,U,U,U,U,U,U,U,U,U,U,U,U,U,U,(.sl false (List.map c_GTxn aA.Txns)),(iv ((aA.Txns.length : Nat) : Int)),(iv aC),U,U,U,U,U,U,U,U,U,U,U,U,U,U,U,U,U,U,U,U,U,U,U,U,U,U,U,U,U,U,U,U,U,U,U],[(.blk 2 [[(iv aA.ID),(.sl false (List.map c_GTxn aA.Txns))]]),(.mp (entL kv_GArr2_Int a_bool aB))]⟩
theorem f21_L0_c (aA : GOffice) (aB : (List (GArr2_Int × Bool))) (aC : Int) : cleanQ true 0 2 (f21_L0_S aA aB aC).heap:=(by exact (clo rfl (clo (clo_mp (kv:=kv_GArr2_Int) (va:=a_bool) fun _ => rfl) rfl)))
def f21_L0_E0 (aA : GOffice) (aB : Int) (aC : Int) (aD : Int) (aE : ByteArray) (aF : (List GEdit)) (aG : Int) (aH : Int) (aI : (List (GArr2_Int × Bool))) : St:=⟨[U,U,bf,U,U,U,U,U,U,U,U,U,U,U,U,U,U,U,U,U,U,U,U,U,U,U,U,U,U,U,U,U,U,U,U,U,U,U,U,U,U,U,U,U,U,U,U,U,U,U,U,U,U,U,U,U,U,U,U,U,U],[(.blk 2 [[(iv aA.ID),(.sl false (List.map c_GTxn aA.Txns))]]),(.mp (entL kv_GArr2_Int a_bool aI)),(.blk 5 [[(iv aB),(iv aC),(iv aD),(sv aE),(.sl false (List.map c_GEdit aF))]]),(.blk 2 [[(iv aG),(iv aH)]])]⟩
def f21_L0_E1 (aA : GOffice) (aB : (List (GArr2_Int × Bool))) : St:=⟨[U,U,U,U,U,U,U,U,U,U,U,U,U,U,U,U,U,U,U,U,U,U,U,U,U,U,U,U,U,U,U,U,U,U,U,U,U,U,U,U,U,U,U,U,U,U,U,U,U,U,U,U,U,U,U,U,U,U,U,U,U],[(.blk 2 [[(iv aA.ID),(.sl false (List.map c_GTxn aA.Txns))]]),(.mp (entL kv_GArr2_Int a_bool aB))]⟩
abbrev hp21 (a2447 : GOffice) (l2475 : (List (GArr2_Int × Bool))) : Heap:=[(.blk 2 [[(iv a2447.ID),(.sl false (List.map c_GTxn a2447.Txns))]]),(.mp (entL kv_GArr2_Int a_bool l2475))]
abbrev hp22 (a2447 : GOffice) (l2475 : (List (GArr2_Int × Bool))) (x2520 : GTxn) : Heap:=[(.blk 2 [[(iv a2447.ID),(.sl false (List.map c_GTxn a2447.Txns))]]),(.mp (entL kv_GArr2_Int a_bool l2475)),(.blk 5 [(c_GTxn x2520)]),(.blk 2 [[(iv x2520.Office),(iv x2520.Seq)]])]
abbrev hp23 (a2447 : GOffice) (l2475 : (List (GArr2_Int × Bool))) (x2520 : GTxn) : Heap:=[(.blk 2 [[(iv a2447.ID),(.sl false (List.map c_GTxn a2447.Txns))]]),(.mp (entL kv_GArr2_Int a_bool (mput l2475 (GArr2_Int.mk x2520.Office x2520.Seq) true))),(.blk 5 [(c_GTxn x2520)]),(.blk 2 [[(iv x2520.Office),(iv x2520.Seq)]])]
def f21_L0 (n : Nat) (aD : GOffice) : Nat → (List (GArr2_Int × Bool)) → Int → Option ((Int × Int × Int × ByteArray × (List GEdit) × Int × Int × (List (GArr2_Int × Bool))) ⊕ (List (GArr2_Int × Bool)))
 | 0,_,_ => none
 | m + 1,aB,aC => (cnd (decide (aC < ((aD.Txns.length : Nat) : Int))) (bnd (idx aD.Txns aC) fun aA => (bnd (f22 n aA) fun aE => (cnd (aE != 0) (some (Sum.inl (aA.Office,aA.Seq,aA.Time,aA.Source,aA.Edits,aA.Office,aA.Seq,aB))) (cnd (decide (aC > 0)) (bnd (idx aD.Txns (IntKind.i64.wrap (aC - 1))) fun aF => (bnd (f39 n aF aA) fun aG => (cnd (decide (aG ≥ 0)) (some (Sum.inl (aA.Office,aA.Seq,aA.Time,aA.Source,aA.Edits,aA.Office,aA.Seq,aB))) (cnd ((Option.getD (mget aB (GArr2_Int.mk aA.Office aA.Seq)) false)) (some (Sum.inl (aA.Office,aA.Seq,aA.Time,aA.Source,aA.Edits,aA.Office,aA.Seq,aB))) (f21_L0 n aD m (mput aB (GArr2_Int.mk aA.Office aA.Seq) true) (IntKind.i64.wrap (aC + 1))))))) (cnd ((Option.getD (mget aB (GArr2_Int.mk aA.Office aA.Seq)) false)) (some (Sum.inl (aA.Office,aA.Seq,aA.Time,aA.Source,aA.Edits,aA.Office,aA.Seq,aB))) (f21_L0 n aD m (mput aB (GArr2_Int.mk aA.Office aA.Seq) true) (IntKind.i64.wrap (aC + 1)))))))) (some (Sum.inr aB)))
theorem f21_L0_ok (n : Nat) (aC : GOffice) : ∀ (m : Nat) (aB : (List (GArr2_Int × Bool))) (aE : Int) (r : ((Int × Int × Int × ByteArray × (List GEdit) × Int × Int × (List (GArr2_Int × Bool))) ⊕ (List (GArr2_Int × Bool)))),f21_L0 n aC m aB aE = some r → maskR [] [false,false,true] true 0 2 (evLoopH (headSt (some lv10) true 0 2) (evC PP (evF PP T n) n 0 L21_0) m (f21_L0_S aC aB aE)) = (match r with | .inl r => some (.ret,f21_L0_E0 aC r.1 r.2.1 r.2.2.1 r.2.2.2.1 r.2.2.2.2.1 r.2.2.2.2.2.1 r.2.2.2.2.2.2.1 r.2.2.2.2.2.2.2) | .inr r => some ((.exit 0),f21_L0_E1 aC r))
 | 0,_,_,_,h => by cases h
 | m + 1,aB,aE,r,h => by
  rw [f21_L0] at h
  rcases cn h with ⟨aO,aD,h⟩ | ⟨aO,aD,h⟩
  rotate_left
  ·obtain rfl:=si h
   exact last_q (some lv10) true (f21_L0_E1 aC aB) (qa 26 aD <| q0) [] [] (by exact (clo rfl (clo (clo_mp (kv:=kv_GArr2_Int) (va:=a_bool) fun _ => rfl) rfl)))
  obtain ⟨aA,aP,h⟩:=bnd_some h
  have aG:=idxl (H:=(hp21 aC aB)) (f:=false) (c:=c_GTxn) aP (c_GTxn_len _)
  obtain ⟨af,aQ,h⟩:=bnd_some h
  have aH:=f22_ok n aA _ aQ
  rcases cn h with ⟨aR,aF,h⟩ | ⟨aR,aF,h⟩
  ·obtain rfl:=si h
   exact last_q (some lv10) true (f21_L0_E0 aC aA.Office aA.Seq aA.Time aA.Source aA.Edits aA.Office aA.Seq aB) (qa 37 aF <| qa 36 aH <| qa 28 aG <| qa 26 aD <| q0) [] [none,none] trivial
  rcases cn h with ⟨aS,aI,h⟩ | ⟨aS,aI,h⟩
  rotate_left
  ·rcases cn h with ⟨aK,aT,h⟩ | ⟨aK,aT,h⟩
   ·have aU:=by have q:=look_ok (P:=PP) (cf:=evF PP T n) (fl:=0) (H:=(hp22 aC aB aA)) (id:=1) (kv:=kv_GArr2_Int) (va:=a_bool) (m:=aB) (k:=(GArr2_Int.mk aA.Office aA.Seq)) (x:=(.agg [(iv aA.Office),(iv aA.Seq)])) key_GArr2_Int false rfl rfl; simp only [aK,a_bool] at q; exact q
    obtain rfl:=si h
    exact last_q (some lv10) true (f21_L0_E0 aC aA.Office aA.Seq aA.Time aA.Source aA.Edits aA.Office aA.Seq aB) (qb 56 aU <| qa 40 aI <| qa 37 aF <| qa 36 aH <| qa 28 aG <| qa 26 aD <| q0) [] [none,none] trivial
   have aV:=by have q:=look_ok (P:=PP) (cf:=evF PP T n) (fl:=0) (H:=(hp22 aC aB aA)) (id:=1) (kv:=kv_GArr2_Int) (va:=a_bool) (m:=aB) (k:=(GArr2_Int.mk aA.Office aA.Seq)) (x:=(.agg [(iv aA.Office),(iv aA.Seq)])) key_GArr2_Int false rfl rfl; simp only [aK,a_bool] at q; exact q
   have aW:=upd_ok (P:=PP) (cf:=evF PP T n) (fl:=0) (H:=(hp22 aC aB aA)) (id:=1) (kv:=kv_GArr2_Int) (va:=a_bool) (m:=aB) (k:=(GArr2_Int.mk aA.Office aA.Seq)) (x:=(.agg [(iv aA.Office),(iv aA.Seq)])) key_GArr2_Int true rfl (by omega) rfl
   exact nx_q (f21_L0_S aC (mput aB (GArr2_Int.mk aA.Office aA.Seq) true) (IntKind.i64.wrap (aE + 1))) (qp aW <| qb 56 aV <| qa 40 aI <| qa 37 aF <| qa 36 aH <| qa 28 aG <| qa 26 aD <| q0) [] [none,none,some (hp23 aC aB aA)] (f21_L0_c _ _ _) (f21_L0_ok n aC m (mput aB (GArr2_Int.mk aA.Office aA.Seq) true) (IntKind.i64.wrap (aE + 1)) r h)
  obtain ⟨aX,aY,h⟩:=bnd_some h
  have aL:=idxl (H:=(hp22 aC aB aA)) (f:=false) (c:=c_GTxn) aY (c_GTxn_len _)
  obtain ⟨ag,aZ,h⟩:=bnd_some h
  have aM:=f39_ok n aX aA _ aZ
  rcases cn h with ⟨aa,aJ,h⟩ | ⟨aa,aJ,h⟩
  ·obtain rfl:=si h
   exact last_q (some lv10) true (f21_L0_E0 aC aA.Office aA.Seq aA.Time aA.Source aA.Edits aA.Office aA.Seq aB) (qa 50 aJ <| qa 49 aM <| qa 46 aL <| qa 40 aI <| qa 37 aF <| qa 36 aH <| qa 28 aG <| qa 26 aD <| q0) [] [none,none] trivial
  rcases cn h with ⟨aN,ab,h⟩ | ⟨aN,ab,h⟩
  ·have ac:=by have q:=look_ok (P:=PP) (cf:=evF PP T n) (fl:=0) (H:=(hp22 aC aB aA)) (id:=1) (kv:=kv_GArr2_Int) (va:=a_bool) (m:=aB) (k:=(GArr2_Int.mk aA.Office aA.Seq)) (x:=(.agg [(iv aA.Office),(iv aA.Seq)])) key_GArr2_Int false rfl rfl; simp only [aN,a_bool] at q; exact q
   obtain rfl:=si h
   exact last_q (some lv10) true (f21_L0_E0 aC aA.Office aA.Seq aA.Time aA.Source aA.Edits aA.Office aA.Seq aB) (qb 56 ac <| qa 50 aJ <| qa 49 aM <| qa 46 aL <| qa 40 aI <| qa 37 aF <| qa 36 aH <| qa 28 aG <| qa 26 aD <| q0) [] [none,none] trivial
  have ad:=by have q:=look_ok (P:=PP) (cf:=evF PP T n) (fl:=0) (H:=(hp22 aC aB aA)) (id:=1) (kv:=kv_GArr2_Int) (va:=a_bool) (m:=aB) (k:=(GArr2_Int.mk aA.Office aA.Seq)) (x:=(.agg [(iv aA.Office),(iv aA.Seq)])) key_GArr2_Int false rfl rfl; simp only [aN,a_bool] at q; exact q
  have ae:=upd_ok (P:=PP) (cf:=evF PP T n) (fl:=0) (H:=(hp22 aC aB aA)) (id:=1) (kv:=kv_GArr2_Int) (va:=a_bool) (m:=aB) (k:=(GArr2_Int.mk aA.Office aA.Seq)) (x:=(.agg [(iv aA.Office),(iv aA.Seq)])) key_GArr2_Int true rfl (by omega) rfl
  exact nx_q (f21_L0_S aC (mput aB (GArr2_Int.mk aA.Office aA.Seq) true) (IntKind.i64.wrap (aE + 1))) (qp ae <| qb 56 ad <| qa 50 aJ <| qa 49 aM <| qa 46 aL <| qa 40 aI <| qa 37 aF <| qa 36 aH <| qa 28 aG <| qa 26 aD <| q0) [] [none,none,some (hp23 aC aB aA)] (f21_L0_c _ _ _) (f21_L0_ok n aC m (mput aB (GArr2_Int.mk aA.Office aA.Seq) true) (IntKind.i64.wrap (aE + 1)) r h)
def f21 : Nat → GOffice → Option Bool
 | 0,_ => none
 | n + 1,aA => (cnd (decide (aA.ID < 1)) (some false) (cnd (decide (aA.ID > 8)) (some false) (cnd (decide (((aA.Txns.length : Nat) : Int) > 256)) (some false) (bnd2 (f21_L0 n aA n ([] : List (GArr2_Int × Bool)) 0) (fun aB => (some false)) (fun aC => (some true))))))
theorem f21_ok (n : Nat) (aA : GOffice) (r : Bool) (h : f21 n aA = some r) : pv PP T n 21 [(.agg (c_GOffice aA))] = some (bv r):=by
 cases n with
 | zero => cases h
 | succ n =>
  rw [f21] at h
  rcases cn h with ⟨aK,aC,h⟩ | ⟨aK,aC,h⟩
  ·obtain rfl:=si h
   exact pv_q F21 (qa 9 aC <| q0) [] []
  rcases cn h with ⟨aL,aD,h⟩ | ⟨aL,aD,h⟩
  ·obtain rfl:=si h
   exact pv_q F21 (qa 13 aD <| qa 9 aC <| q0) [] []
  have aF:=len_sl (P:=PP) (cf:=evF PP T n) (fl:=0) (H:=(hp19 aA)) (f:=false) (c:=c_GTxn) (l:=aA.Txns)
  rcases cn h with ⟨aM,aE,h⟩ | ⟨aM,aE,h⟩
  ·obtain rfl:=si h
   exact pv_q F21 (qa 19 aE <| qb 18 aF <| qa 13 aD <| qa 9 aC <| q0) [] []
  have aI:=len_sl (P:=PP) (cf:=evF PP T n) (fl:=0) (H:=(hp20 aA)) (f:=false) (c:=c_GTxn) (l:=aA.Txns)
  have aJ : cleanQ true 0 2 [(.blk 2 [[(iv aA.ID),(.sl false (List.map c_GTxn aA.Txns))]]),(.mp (entL kv_GArr2_Int a_bool ([] : List (GArr2_Int × Bool))))]:=(by exact (clo rfl (clo (clo_mp (kv:=kv_GArr2_Int) (va:=a_bool) fun _ => rfl) rfl)))
  rcases bnd2_some h with ⟨aB,aG,h⟩ | ⟨aN,aG,h⟩
  rotate_left
  ·have aH:=f21_L0_ok n aA n ([] : List (GArr2_Int × Bool)) 0 _ aG
   obtain rfl:=si h
   exact pv_q F21 (qp aH <| qp aJ <| qb 24 aI <| qa 19 aE <| qb 18 aF <| qa 13 aD <| qa 9 aC <| q0) [((.exit 0),f21_L0_E1 aA aN)] []
  have aH:=f21_L0_ok n aA n ([] : List (GArr2_Int × Bool)) 0 _ aG
  obtain rfl:=si h
  exact pv_q F21 (qp aH <| qp aJ <| qb 24 aI <| qa 19 aE <| qb 18 aF <| qa 13 aD <| qa 9 aC <| q0) [(.ret,f21_L0_E0 aA aB.1 aB.2.1 aB.2.2.1 aB.2.2.2.1 aB.2.2.2.2.1 aB.2.2.2.2.2.1 aB.2.2.2.2.2.2.1 aB.2.2.2.2.2.2.2)] []
abbrev hp25 (a2557 : GTxn) : Heap:=[(.blk 5 [(c_GTxn a2557)]),(.blk 5 [[(iv 0),(iv 0),(iv 0),(sv (⟨#[]⟩)),(.lit nilS)]])]
def f37_L0_S (aA : GTxn) : St:=⟨[U,(.ptr 0 1 0 0),(.ptr 1 1 0 0),U,U,U,U,U,U,U,(.sl false []),(iv 0),(iv 0),U,U,U,U,U,U,U,U,U,U,U,U,U,U,U,U,U,U,U,U,U,U],[(.blk 5 [(c_GTxn (GTxn.mk aA.Office aA.Seq aA.Time aA.Source []))]),(.blk 5 [[(iv 0),(iv 0),(iv 0),(sv (⟨#[]⟩)),(.lit nilS)]])]⟩
def f37_L0_E0 (aA : GTxn) : St:=⟨[U,(.ptr 0 1 0 0),(.ptr 1 1 0 0),U,U,U,U,U,U,U,U,U,U,U,U,U,U,U,U,U,U,U,U,U,U,U,U,U,U,U,U,U,U,U,U],[(.blk 5 [(c_GTxn (GTxn.mk aA.Office aA.Seq aA.Time aA.Source []))]),(.blk 5 [[(iv 0),(iv 0),(iv 0),(sv (⟨#[]⟩)),(.lit nilS)]])]⟩
def f37_L0 (n : Nat) (aA : GTxn) : Nat → Option Unit
 | 0 => none
 | m + 1 => (some ())
theorem f37_L0_ok (n : Nat) (aA : GTxn) : ∀ (m : Nat) (r : Unit),f37_L0 n aA m = some r → maskR [false,true,true] [false,false,true] true 0 2 (evLoopH (headSt (some lv11) true 0 2) (evC PP (evF PP T n) n 0 L37_0) m (f37_L0_S aA)) = some ((.exit 0),f37_L0_E0 aA)
 | 0,_,h => by cases h
 | m + 1,r,h => by
  rw [f37_L0] at h
  obtain rfl:=si h
  exact last_q (some lv11) true (f37_L0_E0 aA) q0 [] [] (by exact (clo rfl (clo rfl rfl)))
abbrev hp26 (a2557 : GTxn) : Heap:=[(.blk 5 [(c_GTxn a2557)]),(.blk 5 [[(iv 0),(iv 0),(iv 0),(sv (⟨#[]⟩)),(.lit nilS)]]),(.blk 10 (List.map c_GEdit a2557.Edits))]
def f37_L0_2_S (aA : GTxn) (aB : (List GEdit)) (aC : Int) : St:=⟨[U,(.ptr 0 1 0 0),(.ptr 1 1 0 0),U,U,U,U,U,U,U,(.ms 2 aB.length 0 aB.length),(iv ((aA.Edits.length : Nat) : Int)),(iv aC),U,U,U,U,U,U,U,U,U,U,U,U,U,U,U,U,U,U,U,U,U,U],[(.blk 5 [[(iv aA.Office),(iv aA.Seq),(iv aA.Time),(sv aA.Source),(.ms 2 aB.length 0 aB.length)]]),(.blk 5 [[(iv 0),(iv 0),(iv 0),(sv (⟨#[]⟩)),(.lit nilS)]]),(.blk 10 (List.map c_GEdit aB))]⟩
def f37_L0_2_E0 (aA : GTxn) (aB : (List GEdit)) : St:=⟨[U,(.ptr 0 1 0 0),(.ptr 1 1 0 0),U,U,U,U,U,U,U,U,U,U,U,U,U,U,U,U,U,U,U,U,U,U,U,U,U,U,U,U,U,U,U,U],[(.blk 5 [[(iv aA.Office),(iv aA.Seq),(iv aA.Time),(sv aA.Source),(.ms 2 aB.length 0 aB.length)]]),(.blk 5 [[(iv 0),(iv 0),(iv 0),(sv (⟨#[]⟩)),(.lit nilS)]]),(.blk 10 (List.map c_GEdit aB))]⟩
abbrev hp27 (a2557 : GTxn) (l2589 : (List GEdit)) : Heap:=[(.blk 5 [[(iv a2557.Office),(iv a2557.Seq),(iv a2557.Time),(sv a2557.Source),(.ms 2 l2589.length 0 l2589.length)]]),(.blk 5 [[(iv 0),(iv 0),(iv 0),(sv (⟨#[]⟩)),(.lit nilS)]]),(.blk 10 (List.map c_GEdit l2589))]
abbrev hp28 (a2557 : GTxn) (l2589 : (List GEdit)) (x2613 : GEdit) : Heap:=[(.blk 5 [[(iv a2557.Office),(iv a2557.Seq),(iv a2557.Time),(sv a2557.Source),(.ms 2 l2589.length 0 l2589.length)]]),(.blk 5 [[(iv 0),(iv 0),(iv 0),(sv (⟨#[]⟩)),(.lit nilS)]]),(.blk 10 (List.map c_GEdit l2589)),(.blk 10 [(c_GEdit x2613)])]
def f37_L0_2 (n : Nat) (aE : GTxn) : Nat → (List GEdit) → Int → Option (List GEdit)
 | 0,_,_ => none
 | m + 1,aD,aC => (cnd (decide (aC < ((aE.Edits.length : Nat) : Int))) (bnd (idxK aD aD.length aC) fun aA => (bnd (f60 n aA.Via) fun aF => (bnd (f61 n aA.Parts) fun aG => (bnd (idxK (List.set aD (Int.toNat aC) (GEdit.mk aA.Kind aA.ID aA.A aA.B aA.C aA.At aF aA.Name aA.Parts)) aD.length aC) fun aB => (f37_L0_2 n aE m (List.set (List.set aD (Int.toNat aC) (GEdit.mk aA.Kind aA.ID aA.A aA.B aA.C aA.At aF aA.Name aA.Parts)) (Int.toNat aC) (GEdit.mk aB.Kind aB.ID aB.A aB.B aB.C aB.At aB.Via aB.Name aG)) (IntKind.i64.wrap (aC + 1))))))) (some aD))
theorem f37_L0_2_ok (n : Nat) (aC : GTxn) : ∀ (m : Nat) (aD : (List GEdit)) (aE : Int) (r : (List GEdit)),f37_L0_2 n aC m aD aE = some r → maskR [false,true,true] [false,false,true] true 0 3 (evLoopH (headSt (some lv11) true 0 3) (evC PP (evF PP T n) n 0 L37_0) m (f37_L0_2_S aC aD aE)) = some ((.exit 0),f37_L0_2_E0 aC r)
 | 0,_,_,_,h => by cases h
 | m + 1,aD,aE,r,h => by
  rw [f37_L0_2] at h
  rcases cn h with ⟨aK,aI,h⟩ | ⟨aK,aI,h⟩
  rotate_left
  ·obtain rfl:=si h
   exact last_q (some lv11) true (f37_L0_2_E0 aC aD) (qa 13 aI <| q0) [] [] (by exact (clo rfl (clo rfl (clo (clo_blk (c_GEdit_clean 3)) rfl))))
  obtain ⟨aA,aH,h⟩:=bnd_some h
  have aL:=idx_ms (H:=(hp27 aC aD)) (id:=2) (s:=10) (c:=c_GEdit) aH rfl
  have aM:=ld_ms (P:=PP) (cf:=evF PP T n) (fl:=0) (H:=(hp27 aC aD)) (id:=2) (c:=c_GEdit) (off:=0) (n:=10) (agg:=true) (v:=(.agg [(iv aA.Kind),(iv aA.ID),(iv aA.A),(iv aA.B),(iv aA.C),(iv aA.At.X),(iv aA.At.Y),(.sl false (List.map c_GPoint aA.Via)),(sv aA.Name),(.sl false (List.map c_i64 aA.Parts))])) aH rfl (by simp [c_GEdit_len]) rfl
  obtain ⟨aF,aN,h⟩:=bnd_some h
  have aO:=f60_ok n aA.Via _ aN
  have aP:=idx_ms (H:=(hp28 aC aD aA)) (id:=2) (s:=10) (c:=c_GEdit) aH rfl
  have aQ:=st_ms (P:=PP) (cf:=evF PP T n) (fl:=0) (H:=(hp28 aC aD aA)) (id:=2) (s:=10) (c:=c_GEdit) (x':=(GEdit.mk aA.Kind aA.ID aA.A aA.B aA.C aA.At aF aA.Name aA.Parts)) (off:=7) (n:=1) (v:=(.sl false (List.map c_GPoint aF))) (cs:=[(.sl false (List.map c_GPoint aF))]) aH rfl (by omega) rfl rfl (by constructor <;> simp [c_GEdit_len]) rfl
  obtain ⟨aG,aR,h⟩:=bnd_some h
  have aS:=f61_ok n aA.Parts _ aR
  obtain ⟨aB,aJ,h⟩:=bnd_some h
  have aT:=idx_msT (tot:=aD.length) (by simp) (H:=[(.blk 5 [[(iv aC.Office),(iv aC.Seq),(iv aC.Time),(sv aC.Source),(.ms 2 aD.length 0 aD.length)]]),(.blk 5 [[(iv 0),(iv 0),(iv 0),(sv (⟨#[]⟩)),(.lit nilS)]]),(.blk 10 (List.map c_GEdit (List.set aD (Int.toNat aE) (GEdit.mk aA.Kind aA.ID aA.A aA.B aA.C aA.At aF aA.Name aA.Parts)))),(.blk 10 [(c_GEdit aA)])]) (id:=2) (s:=10) (c:=c_GEdit) aJ rfl
  have aU:=st_msT (tot:=aD.length) (by simp) (P:=PP) (cf:=evF PP T n) (fl:=0) (H:=[(.blk 5 [[(iv aC.Office),(iv aC.Seq),(iv aC.Time),(sv aC.Source),(.ms 2 aD.length 0 aD.length)]]),(.blk 5 [[(iv 0),(iv 0),(iv 0),(sv (⟨#[]⟩)),(.lit nilS)]]),(.blk 10 (List.map c_GEdit (List.set aD (Int.toNat aE) (GEdit.mk aA.Kind aA.ID aA.A aA.B aA.C aA.At aF aA.Name aA.Parts)))),(.blk 10 [(c_GEdit aA)])]) (id:=2) (s:=10) (c:=c_GEdit) (x':=(GEdit.mk aB.Kind aB.ID aB.A aB.B aB.C aB.At aB.Via aB.Name aG)) (off:=9) (n:=1) (v:=(.sl false (List.map c_i64 aG))) (cs:=[(.sl false (List.map c_i64 aG))]) aJ rfl (by omega) rfl rfl (by constructor <;> simp [c_GEdit_len]) rfl
  have aV : f37_L0_2_S aC (List.set (List.set aD (Int.toNat aE) (GEdit.mk aA.Kind aA.ID aA.A aA.B aA.C aA.At aF aA.Name aA.Parts)) (Int.toNat aE) (GEdit.mk aB.Kind aB.ID aB.A aB.B aB.C aB.At aB.Via aB.Name aG)) (IntKind.i64.wrap (aE + 1)) = ⟨[U,(.ptr 0 1 0 0),(.ptr 1 1 0 0),U,U,U,U,U,U,U,(.ms 2 aD.length 0 aD.length),(iv ((aC.Edits.length : Nat) : Int)),(iv (IntKind.i64.wrap (aE + 1))),U,U,U,U,U,U,U,U,U,U,U,U,U,U,U,U,U,U,U,U,U,U],[(.blk 5 [[(iv aC.Office),(iv aC.Seq),(iv aC.Time),(sv aC.Source),(.ms 2 aD.length 0 aD.length)]]),(.blk 5 [[(iv 0),(iv 0),(iv 0),(sv (⟨#[]⟩)),(.lit nilS)]]),(.blk 10 (List.map c_GEdit (List.set (List.set aD (Int.toNat aE) (GEdit.mk aA.Kind aA.ID aA.A aA.B aA.C aA.At aF aA.Name aA.Parts)) (Int.toNat aE) (GEdit.mk aB.Kind aB.ID aB.A aB.B aB.C aB.At aB.Via aB.Name aG))))]⟩:=by simp [f37_L0_2_S]
  exact (congrArg (maskR [false,true,true] [false,false,true] true 0 3) (next_q (some lv11) true ⟨[U,(.ptr 0 1 0 0),(.ptr 1 1 0 0),U,U,U,U,U,U,U,(.ms 2 aD.length 0 aD.length),(iv ((aC.Edits.length : Nat) : Int)),(iv (IntKind.i64.wrap (aE + 1))),U,U,U,U,U,U,U,U,U,U,U,U,U,U,U,U,U,U,U,U,U,U],[(.blk 5 [[(iv aC.Office),(iv aC.Seq),(iv aC.Time),(sv aC.Source),(.ms 2 aD.length 0 aD.length)]]),(.blk 5 [[(iv 0),(iv 0),(iv 0),(sv (⟨#[]⟩)),(.lit nilS)]]),(.blk 10 (List.map c_GEdit (List.set (List.set aD (Int.toNat aE) (GEdit.mk aA.Kind aA.ID aA.A aA.B aA.C aA.At aF aA.Name aA.Parts)) (Int.toNat aE) (GEdit.mk aB.Kind aB.ID aB.A aB.B aB.C aB.At aB.Via aB.Name aG))))]⟩ (qp aU <| qa 31 aT <| qa 30 aS <| qp aQ <| qa 23 aP <| qa 22 aO <| qb 16 aM <| qa 15 aL <| qa 13 aI <| q0) [] [none,some [(.blk 5 [[(iv aC.Office),(iv aC.Seq),(iv aC.Time),(sv aC.Source),(.ms 2 aD.length 0 aD.length)]]),(.blk 5 [[(iv 0),(iv 0),(iv 0),(sv (⟨#[]⟩)),(.lit nilS)]]),(.blk 10 (List.map c_GEdit (List.set aD (Int.toNat aE) (GEdit.mk aA.Kind aA.ID aA.A aA.B aA.C aA.At aF aA.Name aA.Parts)))),(.blk 10 [(c_GEdit aA)])],some [(.blk 5 [[(iv aC.Office),(iv aC.Seq),(iv aC.Time),(sv aC.Source),(.ms 2 aD.length 0 aD.length)]]),(.blk 5 [[(iv 0),(iv 0),(iv 0),(sv (⟨#[]⟩)),(.lit nilS)]]),(.blk 10 (List.map c_GEdit (List.set (List.set aD (Int.toNat aE) (GEdit.mk aA.Kind aA.ID aA.A aA.B aA.C aA.At aF aA.Name aA.Parts)) (Int.toNat aE) (GEdit.mk aB.Kind aB.ID aB.A aB.B aB.C aB.At aB.Via aB.Name aG)))),(.blk 10 [(c_GEdit aA)])]] (by exact (clo rfl (clo rfl (clo (clo_blk (c_GEdit_clean 3)) rfl)))) rfl)).trans ((congrArg (fun s => maskR [false,true,true] [false,false,true] true 0 3 (evLoopH (headSt (some lv11) true 0 3) (evC PP (evF PP T n) n 0 L37_0) m s)) aV.symm).trans (f37_L0_2_ok n aC m (List.set (List.set aD (Int.toNat aE) (GEdit.mk aA.Kind aA.ID aA.A aA.B aA.C aA.At aF aA.Name aA.Parts)) (Int.toNat aE) (GEdit.mk aB.Kind aB.ID aB.A aB.B aB.C aB.At aB.Via aB.Name aG)) (IntKind.i64.wrap (aE + 1)) r h))
abbrev hp29 (a2557 : GTxn) (v2634 : (List GEdit)) : Heap:=[(.blk 5 [[(iv a2557.Office),(iv a2557.Seq),(iv a2557.Time),(sv a2557.Source),(.ms 2 v2634.length 0 v2634.length)]]),(.blk 5 [[(iv a2557.Office),(iv a2557.Seq),(iv a2557.Time),(sv a2557.Source),(.ms 2 v2634.length 0 v2634.length)]]),(.blk 10 (List.map c_GEdit v2634))]
def f37 : Nat → GTxn → Option GTxn
 | 0,_ => none
 | n + 1,aA => (bnd (prd n) fun aC => (cnd (List.isEmpty aA.Edits) (bnd (f37_L0 n aA n) fun aD => (some (GTxn.mk aA.Office aA.Seq aA.Time aA.Source []))) (bnd (grd (decide (List.length aA.Edits ≤ 1000000))) fun aE => (bnd (f37_L0_2 n aA n aA.Edits 0) fun aB => (some (GTxn.mk aA.Office aA.Seq aA.Time aA.Source aB))))))
theorem f37_ok (n : Nat) (aA : GTxn) (r : GTxn) (h : f37 n aA = some r) : pv PP T n 37 [(.agg (c_GTxn aA))] = some (.agg (c_GTxn r)):=by
 cases n with
 | zero => cases h
 | succ n =>
  rw [f37] at h
  obtain ⟨aP,aE,h⟩:=bnd_some h
  have aD:=prd_eq aE
  rcases cn h with ⟨aC,aF,h⟩ | ⟨aC,aF,h⟩
  ·have aG : evOp PP (evF PP T n) 0 (.callF 59 [.tmp 0]) [(.sl false (List.map c_GEdit aA.Edits))] (hp25 aA) = some ((.sl false []),(hp25 aA)):=by rw [aD]; exact clone_e (hp25 aA) rfl (by omega) aC
   have aH : cleanQ true 0 2 [(.blk 5 [(c_GTxn (GTxn.mk aA.Office aA.Seq aA.Time aA.Source []))]),(.blk 5 [[(iv 0),(iv 0),(iv 0),(sv (⟨#[]⟩)),(.lit nilS)]])]:=(by exact (clo rfl (clo rfl rfl)))
   obtain ⟨aQ,aI,h⟩:=bnd_some h
   have aJ:=f37_L0_ok n aA n _ aI
   obtain rfl:=si h
   exact pv_q F37 (qp aJ <| qp aH <| qb 7 aG <| q0) [((.exit 0),f37_L0_E0 aA)] [none,none]
  obtain ⟨aR,aK,h⟩:=bnd_some h
  have aL : evOp PP (evF PP T n) 0 (.callF 59 [.tmp 0]) [(.sl false (List.map c_GEdit aA.Edits))] (hp25 aA) = some ((.ms 2 aA.Edits.length 0 aA.Edits.length),(hp26 aA)):=by rw [aD]; exact clone_n (hp25 aA) rfl c_GEdit_len (by omega) (by omega) aC (of_decide_eq_true (grd_some aK))
  have aM : cleanQ true 0 3 [(.blk 5 [[(iv aA.Office),(iv aA.Seq),(iv aA.Time),(sv aA.Source),(.ms 2 aA.Edits.length 0 aA.Edits.length)]]),(.blk 5 [[(iv 0),(iv 0),(iv 0),(sv (⟨#[]⟩)),(.lit nilS)]]),(.blk 10 (List.map c_GEdit aA.Edits))]:=(by exact (clo rfl (clo rfl (clo (clo_blk (c_GEdit_clean 3)) rfl))))
  obtain ⟨aB,aN,h⟩:=bnd_some h
  have aO:=f37_L0_2_ok n aA n aA.Edits 0 _ aN
  obtain rfl:=si h
  refine pv_evF (evF_q F37 (qp aO <| qp aM <| qc 7 aL <| q0) [((.exit 0),f37_L0_2_E0 aA aB)] [none,none] (r:=(.agg [(iv aA.Office),(iv aA.Seq),(iv aA.Time),(sv aA.Source),(.ms 2 aB.length 0 aB.length)])) (H':=(hp29 aA aB))) ?_
  show (AV.agg [(seal1 (hp29 aA aB) 0 (iv aA.Office)),(seal1 (hp29 aA aB) 0 (iv aA.Seq)),(seal1 (hp29 aA aB) 0 (iv aA.Time)),(seal1 (hp29 aA aB) 0 (sv aA.Source)),(seal1 (hp29 aA aB) 0 (.ms 2 aB.length 0 aB.length))]) = _
  rw [seal1_ms (H:=(hp29 aA aB)) (id:=2) (s:=10) (c:=c_GEdit) (l:=aB) rfl (c_GEdit_seal _ _ _)]
  first | done | rfl
abbrev hp30 (a2635 : GOffice) : Heap:=[(.blk 2 [[(iv a2635.ID),(.sl false (List.map c_GTxn a2635.Txns))]]),(.blk 2 [[(iv 0),(.lit nilS)]])]
def f6_L0_S (aB : Int) (aC : ByteArray) (aD : (List GEdit)) (aA : GOffice) (aE : Int) (aF : Bool) (aG : Int) : St:=⟨[U,(iv aB),(sv aC),(.sl false (List.map c_GEdit aD)),(.ptr 0 1 0 0),U,U,U,(.ptr 1 1 0 0),U,(iv aE),(bv aF),U,U,U,U,U,U,U,U,(.sl false (List.map c_GTxn aA.Txns)),(iv ((aA.Txns.length : Nat) : Int)),(iv aG),U,U,U,U,U,U,U,U,U,U,U,U,U,U,U,U,U,U,U,U,U,U,U,U,U,U,U,U,U,U,U,U,U,U,U,U,U,U,U,U,U,U,U,U,U,U],[(.blk 2 [[(iv aA.ID),(.sl false (List.map c_GTxn aA.Txns))]]),(.blk 2 [[(iv 0),(.lit nilS)]])]⟩
theorem f6_L0_c (aA : Int) (aB : ByteArray) (aC : (List GEdit)) (aD : GOffice) (aE : Int) (aF : Bool) (aG : Int) : cleanQ true 0 2 (f6_L0_S aA aB aC aD aE aF aG).heap:=(by exact (clo rfl (clo rfl rfl)))
def f6_L0_E0 (aB : Int) (aC : ByteArray) (aD : (List GEdit)) (aA : GOffice) (aE : Int) (aF : Bool) : St:=⟨[U,(iv aB),(sv aC),(.sl false (List.map c_GEdit aD)),(.ptr 0 1 0 0),U,U,U,(.ptr 1 1 0 0),U,(iv aE),(bv aF),U,U,U,U,U,U,U,U,U,U,U,U,U,U,U,U,U,U,U,U,U,U,U,U,U,U,U,U,U,U,U,U,U,U,U,U,U,U,U,U,U,U,U,U,U,U,U,U,U,U,U,U,U,U,U,U,U],[(.blk 2 [[(iv aA.ID),(.sl false (List.map c_GTxn aA.Txns))]]),(.blk 2 [[(iv 0),(.lit nilS)]])]⟩
abbrev hp31 (a2635 : GOffice) (x2680 : GTxn) : Heap:=[(.blk 2 [[(iv a2635.ID),(.sl false (List.map c_GTxn a2635.Txns))]]),(.blk 2 [[(iv 0),(.lit nilS)]]),(.blk 5 [(c_GTxn x2680)])]
def f6_L0 (n : Nat) (aC : Int) (aF : ByteArray) (aG : (List GEdit)) (aA : GOffice) : Nat → Int → Bool → Int → Option (Int × Bool)
 | 0,_,_,_ => none
 | m + 1,aD,aH,aB => (cnd (decide (aB < ((aA.Txns.length : Nat) : Int))) (bnd (idx aA.Txns aB) fun aE => (cnd (aE.Office == aA.ID) (cnd (aH) (f6_L0 n aC aF aG aA m (imax aD aE.Seq) true (IntKind.i64.wrap (aB + 1))) (cnd (decide (aE.Time > aC)) (f6_L0 n aC aF aG aA m (imax aD aE.Seq) true (IntKind.i64.wrap (aB + 1))) (f6_L0 n aC aF aG aA m (imax aD aE.Seq) false (IntKind.i64.wrap (aB + 1))))) (f6_L0 n aC aF aG aA m aD aH (IntKind.i64.wrap (aB + 1))))) (some (aD,aH)))
theorem f6_L0_ok (n : Nat) (aD : Int) (aE : ByteArray) (aF : (List GEdit)) (aB : GOffice) : ∀ (m : Nat) (aC : Int) (aH : Bool) (aG : Int) (r : (Int × Bool)),f6_L0 n aD aE aF aB m aC aH aG = some r → maskR lv13 lv14 true 0 2 (evLoopH (headSt (some lv12) true 0 2) (evC PP (evF PP T n) n 0 L6_0) m (f6_L0_S aD aE aF aB aC aH aG)) = some ((.exit 0),f6_L0_E0 aD aE aF aB r.1 r.2)
 | 0,_,_,_,_,h => by cases h
 | m + 1,aC,aH,aG,r,h => by
  rw [f6_L0] at h
  rcases cn h with ⟨aP,aI,h⟩ | ⟨aP,aI,h⟩
  rotate_left
  ·obtain rfl:=si h
   exact last_q (some lv12) true (f6_L0_E0 aD aE aF aB aC aH) (qa 23 aI <| q0) [] [] (by exact (clo rfl (clo rfl rfl)))
  obtain ⟨aA,aQ,h⟩:=bnd_some h
  have aK:=idxl (H:=(hp30 aB)) (f:=false) (c:=c_GTxn) aQ (c_GTxn_len _)
  rcases cn h with ⟨aR,aJ,h⟩ | ⟨aR,aJ,h⟩
  rotate_left
  ·exact nx_q (f6_L0_S aD aE aF aB aC aH (IntKind.i64.wrap (aG + 1))) (qa 30 aJ <| qa 24 aK <| qa 23 aI <| q0) [] [none] (f6_L0_c _ _ _ _ _ _ _) (f6_L0_ok n aD aE aF aB m aC aH (IntKind.i64.wrap (aG + 1)) r h)
  have aL:=op_max (P:=PP) (cf:=evF PP T n) (fl:=0) (H:=(hp31 aB aA)) (a:=aC) (b:=aA.Seq)
  rcases cn h with ⟨aM,aS,h⟩ | ⟨aM,aS,h⟩
  ·have aT:=mov_b (P:=PP) (cf:=evF PP T n) (fl:=0) (H:=(hp31 aB aA)) (tm:=[U,(iv aD),(sv aE),(.sl false (List.map c_GEdit aF)),(.ptr 0 1 0 0),U,U,U,(.ptr 1 1 0 0),U,(iv (imax aC aA.Seq)),(bv aH),U,(.ptr 2 1 0 0),U,U,U,U,U,U,(.sl false (List.map c_GTxn aB.Txns)),(iv ((aB.Txns.length : Nat) : Int)),(iv aG),bt,(.rptr [(iv aA.Office),(iv aA.Seq),(iv aA.Time),(sv aA.Source),(.sl false (List.map c_GEdit aA.Edits))]),(.agg [(iv aA.Office),(iv aA.Seq),(iv aA.Time),(sv aA.Source),(.sl false (List.map c_GEdit aA.Edits))]),(.ptr 2 1 0 0),(iv aA.Office),(.ptr 0 1 0 0),(iv aB.ID),bt,(iv aC),(.ptr 2 1 0 1),(iv aA.Seq),(iv (imax aC aA.Seq)),U,U,U,U,U,U,U,U,U,U,U,U,U,U,U,U,U,U,U,U,U,U,U,U,U,U,U,U,U,U,U,U,U,U]) (x:=.tmp 11) rfl aM
   exact nx_q (f6_L0_S aD aE aF aB (imax aC aA.Seq) true (IntKind.i64.wrap (aG + 1))) (qb 35 aT <| qb 34 aL <| qa 30 aJ <| qa 24 aK <| qa 23 aI <| q0) [] [none] (f6_L0_c _ _ _ _ _ _ _) (f6_L0_ok n aD aE aF aB m (imax aC aA.Seq) true (IntKind.i64.wrap (aG + 1)) r h)
  have aO:=mov_b (P:=PP) (cf:=evF PP T n) (fl:=0) (H:=(hp31 aB aA)) (tm:=[U,(iv aD),(sv aE),(.sl false (List.map c_GEdit aF)),(.ptr 0 1 0 0),U,U,U,(.ptr 1 1 0 0),U,(iv (imax aC aA.Seq)),(bv aH),U,(.ptr 2 1 0 0),U,U,U,U,U,U,(.sl false (List.map c_GTxn aB.Txns)),(iv ((aB.Txns.length : Nat) : Int)),(iv aG),bt,(.rptr [(iv aA.Office),(iv aA.Seq),(iv aA.Time),(sv aA.Source),(.sl false (List.map c_GEdit aA.Edits))]),(.agg [(iv aA.Office),(iv aA.Seq),(iv aA.Time),(sv aA.Source),(.sl false (List.map c_GEdit aA.Edits))]),(.ptr 2 1 0 0),(iv aA.Office),(.ptr 0 1 0 0),(iv aB.ID),bt,(iv aC),(.ptr 2 1 0 1),(iv aA.Seq),(iv (imax aC aA.Seq)),U,U,U,U,U,U,U,U,U,U,U,U,U,U,U,U,U,U,U,U,U,U,U,U,U,U,U,U,U,U,U,U,U,U]) (x:=.tmp 11) rfl aM
  rcases cn h with ⟨aU,aN,h⟩ | ⟨aU,aN,h⟩
  ·exact nx_q (f6_L0_S aD aE aF aB (imax aC aA.Seq) true (IntKind.i64.wrap (aG + 1))) (qa 40 aN <| qb 35 aO <| qb 34 aL <| qa 30 aJ <| qa 24 aK <| qa 23 aI <| q0) [] [none] (f6_L0_c _ _ _ _ _ _ _) (f6_L0_ok n aD aE aF aB m (imax aC aA.Seq) true (IntKind.i64.wrap (aG + 1)) r h)
  exact nx_q (f6_L0_S aD aE aF aB (imax aC aA.Seq) false (IntKind.i64.wrap (aG + 1))) (qa 40 aN <| qb 35 aO <| qb 34 aL <| qa 30 aJ <| qa 24 aK <| qa 23 aI <| q0) [] [none] (f6_L0_c _ _ _ _ _ _ _) (f6_L0_ok n aD aE aF aB m (imax aC aA.Seq) false (IntKind.i64.wrap (aG + 1)) r h)
abbrev hp32 (a2635 : GOffice) (v2697 : (Int × Bool)) (a2636 : Int) (a2637 : ByteArray) (a2638 : (List GEdit)) : Heap:=[(.blk 2 [[(iv a2635.ID),(.sl false (List.map c_GTxn a2635.Txns))]]),(.blk 2 [[(iv 0),(.lit nilS)]]),(.blk 5 [[(iv a2635.ID),(iv (IntKind.i64.wrap (v2697.1 + 1))),(iv a2636),(sv a2637),(.sl false (List.map c_GEdit a2638))]])]
abbrev hp33 (a2635 : GOffice) (v2697 : (Int × Bool)) (a2636 : Int) (a2637 : ByteArray) (a2638 : (List GEdit)) : Heap:=[(.blk 2 [[(iv a2635.ID),(.sl false (List.map c_GTxn a2635.Txns))]]),(.blk 2 [[(iv 0),(.lit nilS)]]),(.blk 5 [[(iv a2635.ID),(iv (IntKind.i64.wrap (v2697.1 + 1))),(iv a2636),(sv a2637),(.sl false (List.map c_GEdit a2638))]]),(.blk 2 [[(iv a2635.ID),(.sl false (List.map c_GTxn a2635.Txns))]]),(.blk 5 (List.map c_GTxn [])),(.blk 2 [[(iv a2635.ID),(.ms 4 0 0 0)]])]
def f6_I23_L0_S (aA : GOffice) (aC : (Int × Bool)) (aD : Int) (aE : ByteArray) (aF : (List GEdit)) (aB : (List GTxn)) (aG : Int) : St:=⟨[U,U,(.ptr 5 1 0 0),U,U,U,U,U,U,(.sl false (List.map c_GTxn aA.Txns)),(iv ((aA.Txns.length : Nat) : Int)),(iv aG),U,U,U,U,U,U,U,U,U,U,U,U],[(.blk 2 [[(iv aA.ID),(.sl false (List.map c_GTxn aA.Txns))]]),(.blk 2 [[(iv 0),(.lit nilS)]]),(.blk 5 [[(iv aA.ID),(iv (IntKind.i64.wrap (aC.1 + 1))),(iv aD),(sv aE),(.sl false (List.map c_GEdit aF))]]),(.blk 2 [[(iv aA.ID),(.sl false (List.map c_GTxn aA.Txns))]]),(.blk 5 (List.map c_GTxn aB)),(.blk 2 [[(iv aA.ID),(.ms 4 aB.length 0 aB.length)]])]⟩
theorem f6_I23_L0_c (aA : GOffice) (aB : (Int × Bool)) (aC : Int) (aD : ByteArray) (aE : (List GEdit)) (aF : (List GTxn)) (aG : Int) : cleanQ true 3 6 (f6_I23_L0_S aA aB aC aD aE aF aG).heap:=(by exact (clo rfl (clo (clo_blk (c_GTxn_clean 6)) (clo rfl rfl))))
def f6_I23_L0_E0 (aA : GOffice) (aC : (Int × Bool)) (aD : Int) (aE : ByteArray) (aF : (List GEdit)) (aB : (List GTxn)) : St:=⟨[U,U,(.ptr 5 1 0 0),U,U,U,U,U,U,U,U,U,U,U,U,U,U,U,U,U,U,U,U,U],[(.blk 2 [[(iv aA.ID),(.sl false (List.map c_GTxn aA.Txns))]]),(.blk 2 [[(iv 0),(.lit nilS)]]),(.blk 5 [[(iv aA.ID),(iv (IntKind.i64.wrap (aC.1 + 1))),(iv aD),(sv aE),(.sl false (List.map c_GEdit aF))]]),(.blk 2 [[(iv aA.ID),(.sl false (List.map c_GTxn aA.Txns))]]),(.blk 5 (List.map c_GTxn aB)),(.blk 2 [[(iv aA.ID),(.ms 4 aB.length 0 aB.length)]])]⟩
abbrev hp34 (a2635 : GOffice) (v2697 : (Int × Bool)) (a2636 : Int) (a2637 : ByteArray) (a2638 : (List GEdit)) (l2727 : (List GTxn)) : Heap:=[(.blk 2 [[(iv a2635.ID),(.sl false (List.map c_GTxn a2635.Txns))]]),(.blk 2 [[(iv 0),(.lit nilS)]]),(.blk 5 [[(iv a2635.ID),(iv (IntKind.i64.wrap (v2697.1 + 1))),(iv a2636),(sv a2637),(.sl false (List.map c_GEdit a2638))]]),(.blk 2 [[(iv a2635.ID),(.sl false (List.map c_GTxn a2635.Txns))]]),(.blk 5 (List.map c_GTxn l2727)),(.blk 2 [[(iv a2635.ID),(.ms 4 l2727.length 0 l2727.length)]])]
abbrev hp35 (a2635 : GOffice) (v2697 : (Int × Bool)) (a2636 : Int) (a2637 : ByteArray) (a2638 : (List GEdit)) (l2727 : (List GTxn)) (x2744 : GTxn) : Heap:=[(.blk 2 [[(iv a2635.ID),(.sl false (List.map c_GTxn a2635.Txns))]]),(.blk 2 [[(iv 0),(.lit nilS)]]),(.blk 5 [[(iv a2635.ID),(iv (IntKind.i64.wrap (v2697.1 + 1))),(iv a2636),(sv a2637),(.sl false (List.map c_GEdit a2638))]]),(.blk 2 [[(iv a2635.ID),(.sl false (List.map c_GTxn a2635.Txns))]]),(.blk 5 (List.map c_GTxn l2727)),(.blk 2 [[(iv a2635.ID),(.ms 4 l2727.length 0 l2727.length)]]),(.blk 5 [(c_GTxn x2744)])]
def f6_I23_L0 (n : Nat) (aA : GOffice) (aD : (Int × Bool)) (aE : Int) (aF : ByteArray) (aG : (List GEdit)) : Nat → (List GTxn) → Int → Option (List GTxn)
 | 0,_,_ => none
 | m + 1,aC,aB => (cnd (decide (aB < ((aA.Txns.length : Nat) : Int))) (bnd (idx aA.Txns aB) fun aH => (bnd (f37 n aH) fun aI => (bnd (app aC [aI]) fun aJ => (f6_I23_L0 n aA aD aE aF aG m aJ (IntKind.i64.wrap (aB + 1)))))) (some aC))
theorem f6_I23_L0_ok (n : Nat) (aA : GOffice) (aB : (Int × Bool)) (aC : Int) (aD : ByteArray) (aE : (List GEdit)) : ∀ (m : Nat) (aF : (List GTxn)) (aG : Int) (r : (List GTxn)),f6_I23_L0 n aA aB aC aD aE m aF aG = some r → maskR [false,false,true] [false,false,true] true 3 6 (evLoopH (headSt (some lv15) true 3 6) (evC PP (evF PP T n) n 3 L23_0) m (f6_I23_L0_S aA aB aC aD aE aF aG)) = some ((.exit 0),f6_I23_L0_E0 aA aB aC aD aE r)
 | 0,_,_,_,h => by cases h
 | m + 1,aF,aG,r,h => by
  rw [f6_I23_L0] at h
  rcases cn h with ⟨aK,aH,h⟩ | ⟨aK,aH,h⟩
  rotate_left
  ·obtain rfl:=si h
   exact last_q (some lv15) true (f6_I23_L0_E0 aA aB aC aD aE aF) (qa 12 aH <| q0) [] [] (by exact (clo rfl (clo (clo_blk (c_GTxn_clean 6)) (clo rfl rfl))))
  obtain ⟨aI,aL,h⟩:=bnd_some h
  have aM:=idxl (H:=(hp34 aA aB aC aD aE aF)) (f:=false) (c:=c_GTxn) aL (c_GTxn_len _)
  obtain ⟨aR,aN,h⟩:=bnd_some h
  have aO:=f37_ok n aI _ aN
  obtain ⟨aJ,aP,h⟩:=bnd_some h
  have aQ:=app_ms (fl:=3) (H:=(hp35 aA aB aC aD aE aF aI)) (id:=4) (s:=5) (bytes:=64) (c:=c_GTxn) (l:=aF) aP rfl c_GTxn_len (by omega) (by omega) (by omega)
  exact nx_q (f6_I23_L0_S aA aB aC aD aE aJ (IntKind.i64.wrap (aG + 1))) (qc 20 aQ <| qa 18 aO <| qa 13 aM <| qa 12 aH <| q0) [] [none,none] (f6_I23_L0_c _ _ _ _ _ _ _) (f6_I23_L0_ok n aA aB aC aD aE m aJ (IntKind.i64.wrap (aG + 1)) r h)
abbrev hp36 (a2635 : GOffice) (v2757 : (List GTxn)) (v2697 : (Int × Bool)) (a2636 : Int) (a2637 : ByteArray) (a2638 : (List GEdit)) : Heap:=[(.blk 2 [[(iv a2635.ID),(.sl false (List.map c_GTxn a2635.Txns))]]),(.blk 2 [[(iv a2635.ID),(.ms 4 v2757.length 0 v2757.length)]]),(.blk 5 [[(iv a2635.ID),(iv (IntKind.i64.wrap (v2697.1 + 1))),(iv a2636),(sv a2637),(.sl false (List.map c_GEdit a2638))]]),(.blk 2 [[(iv a2635.ID),(.sl false (List.map c_GTxn a2635.Txns))]]),(.blk 5 (List.map c_GTxn v2757)),(.blk 2 [[(iv a2635.ID),(.ms 4 v2757.length 0 v2757.length)]])]
abbrev hp37 (a2635 : GOffice) (v2757 : (List GTxn)) (v2697 : (Int × Bool)) (a2636 : Int) (a2637 : ByteArray) (a2638 : (List GEdit)) : Heap:=[(.blk 2 [[(iv a2635.ID),(.sl false (List.map c_GTxn a2635.Txns))]]),(.blk 2 [[(iv a2635.ID),(.ms 4 v2757.length 0 v2757.length)]]),(.blk 5 [[(iv a2635.ID),(iv (IntKind.i64.wrap (v2697.1 + 1))),(iv a2636),(sv a2637),(.sl false (List.map c_GEdit a2638))]]),(.blk 2 [[(iv a2635.ID),(.sl false (List.map c_GTxn a2635.Txns))]]),(.blk 5 (List.map c_GTxn v2757)),(.blk 2 [[(iv a2635.ID),(.ms 4 v2757.length 0 v2757.length)]]),(.blk 5 [[(iv a2635.ID),(iv (IntKind.i64.wrap (v2697.1 + 1))),(iv a2636),(sv a2637),(.sl false (List.map c_GEdit a2638))]])]
def f6_I42_L0_S (aB : (List GTxn)) (aA : GOffice) (aC : (Int × Bool)) (aD : Int) (aE : ByteArray) (aF : (List GEdit)) (aG : Int) (aH : Int) : St:=⟨[(.ms 4 aB.length 0 aB.length),U,(.fn 39 []),U,(.ptr 7 1 0 0),U,U,U,(iv ((aB.length : Nat) : Int)),(iv aH),(iv aG),U,U,U,U,U,U,U,U,U,U,U,U,U,U,U,U,U,U,U,U,U,U,U,U,U,U,U,U,U,U,U,U,U,U,U,U,U,U],[(.blk 2 [[(iv aA.ID),(.sl false (List.map c_GTxn aA.Txns))]]),(.blk 2 [[(iv aA.ID),(.ms 4 aB.length 0 aB.length)]]),(.blk 5 [[(iv aA.ID),(iv (IntKind.i64.wrap (aC.1 + 1))),(iv aD),(sv aE),(.sl false (List.map c_GEdit aF))]]),(.blk 2 [[(iv aA.ID),(.sl false (List.map c_GTxn aA.Txns))]]),(.blk 5 (List.map c_GTxn aB)),(.blk 2 [[(iv aA.ID),(.ms 4 aB.length 0 aB.length)]]),(.blk 5 [[(iv aA.ID),(iv (IntKind.i64.wrap (aC.1 + 1))),(iv aD),(sv aE),(.sl false (List.map c_GEdit aF))]]),(.blk 5 [[(iv aA.ID),(iv (IntKind.i64.wrap (aC.1 + 1))),(iv aD),(sv aE),(.sl false (List.map c_GEdit aF))]])]⟩
def f6_I42_L0_E0 (aB : (List GTxn)) (aA : GOffice) (aC : (Int × Bool)) (aD : Int) (aE : ByteArray) (aF : (List GEdit)) (aG : Int) : St:=⟨[(.ms 4 aB.length 0 aB.length),U,(.fn 39 []),U,(.ptr 7 1 0 0),U,U,U,(iv ((aB.length : Nat) : Int)),(iv aG),U,U,U,U,U,U,U,U,U,U,U,U,U,U,U,U,U,U,U,U,U,U,U,U,U,U,U,U,U,U,U,U,U,U,U,U,U,U,U],[(.blk 2 [[(iv aA.ID),(.sl false (List.map c_GTxn aA.Txns))]]),(.blk 2 [[(iv aA.ID),(.ms 4 aB.length 0 aB.length)]]),(.blk 5 [[(iv aA.ID),(iv (IntKind.i64.wrap (aC.1 + 1))),(iv aD),(sv aE),(.sl false (List.map c_GEdit aF))]]),(.blk 2 [[(iv aA.ID),(.sl false (List.map c_GTxn aA.Txns))]]),(.blk 5 (List.map c_GTxn aB)),(.blk 2 [[(iv aA.ID),(.ms 4 aB.length 0 aB.length)]]),(.blk 5 [[(iv aA.ID),(iv (IntKind.i64.wrap (aC.1 + 1))),(iv aD),(sv aE),(.sl false (List.map c_GEdit aF))]]),(.blk 5 [[(iv aA.ID),(iv (IntKind.i64.wrap (aC.1 + 1))),(iv aD),(sv aE),(.sl false (List.map c_GEdit aF))]])]⟩
abbrev hp38 (a2635 : GOffice) (v2757 : (List GTxn)) (v2697 : (Int × Bool)) (a2636 : Int) (a2637 : ByteArray) (a2638 : (List GEdit)) : Heap:=[(.blk 2 [[(iv a2635.ID),(.sl false (List.map c_GTxn a2635.Txns))]]),(.blk 2 [[(iv a2635.ID),(.ms 4 v2757.length 0 v2757.length)]]),(.blk 5 [[(iv a2635.ID),(iv (IntKind.i64.wrap (v2697.1 + 1))),(iv a2636),(sv a2637),(.sl false (List.map c_GEdit a2638))]]),(.blk 2 [[(iv a2635.ID),(.sl false (List.map c_GTxn a2635.Txns))]]),(.blk 5 (List.map c_GTxn v2757)),(.blk 2 [[(iv a2635.ID),(.ms 4 v2757.length 0 v2757.length)]]),(.blk 5 [[(iv a2635.ID),(iv (IntKind.i64.wrap (v2697.1 + 1))),(iv a2636),(sv a2637),(.sl false (List.map c_GEdit a2638))]]),(.blk 5 [[(iv a2635.ID),(iv (IntKind.i64.wrap (v2697.1 + 1))),(iv a2636),(sv a2637),(.sl false (List.map c_GEdit a2638))]])]
def f6_I42_L0 (n : Nat) (aC : (List GTxn)) (aD : GOffice) (aE : (Int × Bool)) (aF : Int) (aG : ByteArray) (aH : (List GEdit)) : Nat → Int → Int → Option Int
 | 0,_,_ => none
 | m + 1,aB,aA => (cnd (decide (aA < aB)) (bnd (idxK aC aC.length (IntKind.i64.wrap (Int.fdiv (IntKind.u64.wrap (IntKind.i64.wrap (aA + aB))) 2))) fun aI => (bnd (f39 n aI (GTxn.mk aD.ID (IntKind.i64.wrap (aE.1 + 1)) aF aG aH)) fun aJ => (cnd (decide (aJ < 0)) (f6_I42_L0 n aC aD aE aF aG aH m aB (IntKind.i64.wrap ((IntKind.i64.wrap (Int.fdiv (IntKind.u64.wrap (IntKind.i64.wrap (aA + aB))) 2)) + 1))) (f6_I42_L0 n aC aD aE aF aG aH m (IntKind.i64.wrap (Int.fdiv (IntKind.u64.wrap (IntKind.i64.wrap (aA + aB))) 2)) aA)))) (some aA))
theorem f6_I42_L0_ok (n : Nat) (aF : (List GTxn)) (aA : GOffice) (aB : (Int × Bool)) (aC : Int) (aD : ByteArray) (aE : (List GEdit)) : ∀ (m : Nat) (aH : Int) (aG : Int) (r : Int),f6_I42_L0 n aF aA aB aC aD aE m aH aG = some r → maskR lv17 lv18 false 0 8 (evLoopH (headSt (some lv16) false 0 8) (evC PP (evF PP T n) n 0 L42_0) m (f6_I42_L0_S aF aA aB aC aD aE aH aG)) = some ((.exit 0),f6_I42_L0_E0 aF aA aB aC aD aE r)
 | 0,_,_,_,h => by cases h
 | m + 1,aH,aG,r,h => by
  rw [f6_I42_L0] at h
  rcases cn h with ⟨aQ,aJ,h⟩ | ⟨aQ,aJ,h⟩
  rotate_left
  ·obtain rfl:=si h
   exact last_q (some lv16) false (f6_I42_L0_E0 aF aA aB aC aD aE aG) (qa 17 aJ <| q0) [] [] trivial
  have aL:=shr1_ok (P:=PP) (cf:=evF PP T n) (fl:=0) (H:=(hp38 aA aF aB aC aD aE)) (t:=111) (a:=(IntKind.u64.wrap (IntKind.i64.wrap (aG + aH))))
  obtain ⟨aI,aM,h⟩:=bnd_some h
  have aN:=idx_ms (H:=(hp38 aA aF aB aC aD aE)) (id:=4) (s:=5) (c:=c_GTxn) aM rfl
  have aO:=ld_ms (P:=PP) (cf:=evF PP T n) (fl:=0) (H:=(hp38 aA aF aB aC aD aE)) (id:=4) (c:=c_GTxn) (off:=0) (n:=5) (agg:=true) (v:=(.agg [(iv aI.Office),(iv aI.Seq),(iv aI.Time),(sv aI.Source),(.sl false (List.map c_GEdit aI.Edits))])) aM rfl (by simp [c_GTxn_len]) rfl
  obtain ⟨aU,aR,h⟩:=bnd_some h
  have aS:=f39_ok n aI (GTxn.mk aA.ID (IntKind.i64.wrap (aB.1 + 1)) aC aD aE) _ aR
  have aP:=callA_pl (fl:=0) (H:=(hp38 aA aF aB aC aD aE)) rfl rfl aS
  rcases cn h with ⟨aT,aK,h⟩ | ⟨aT,aK,h⟩
  rotate_left
  ·exact nx_q (f6_I42_L0_S aF aA aB aC aD aE (IntKind.i64.wrap (Int.fdiv (IntKind.u64.wrap (IntKind.i64.wrap (aG + aH))) 2)) aG) (qa 31 aK <| qb 30 aP <| qb 28 aO <| qa 27 aN <| qb 22 aL <| qa 17 aJ <| q0) [] [] trivial (f6_I42_L0_ok n aF aA aB aC aD aE m (IntKind.i64.wrap (Int.fdiv (IntKind.u64.wrap (IntKind.i64.wrap (aG + aH))) 2)) aG r h)
  exact nx_q (f6_I42_L0_S aF aA aB aC aD aE aH (IntKind.i64.wrap ((IntKind.i64.wrap (Int.fdiv (IntKind.u64.wrap (IntKind.i64.wrap (aG + aH))) 2)) + 1))) (qa 31 aK <| qb 30 aP <| qb 28 aO <| qa 27 aN <| qb 22 aL <| qa 17 aJ <| q0) [] [] trivial (f6_I42_L0_ok n aF aA aB aC aD aE m aH (IntKind.i64.wrap ((IntKind.i64.wrap (Int.fdiv (IntKind.u64.wrap (IntKind.i64.wrap (aG + aH))) 2)) + 1)) r h)
abbrev hp39 (a2635 : GOffice) (v2757 : (List GTxn)) (v2697 : (Int × Bool)) (a2636 : Int) (a2637 : ByteArray) (a2638 : (List GEdit)) (v2830 : GTxn) : Heap:=[(.blk 2 [[(iv a2635.ID),(.sl false (List.map c_GTxn a2635.Txns))]]),(.blk 2 [[(iv a2635.ID),(.ms 4 v2757.length 0 v2757.length)]]),(.blk 5 [[(iv a2635.ID),(iv (IntKind.i64.wrap (v2697.1 + 1))),(iv a2636),(sv a2637),(.sl false (List.map c_GEdit a2638))]]),(.blk 2 [[(iv a2635.ID),(.sl false (List.map c_GTxn a2635.Txns))]]),(.blk 5 (List.map c_GTxn v2757)),(.blk 2 [[(iv a2635.ID),(.ms 4 v2757.length 0 v2757.length)]]),(.blk 5 [[(iv a2635.ID),(iv (IntKind.i64.wrap (v2697.1 + 1))),(iv a2636),(sv a2637),(.sl false (List.map c_GEdit a2638))]]),(.blk 5 [[(iv a2635.ID),(iv (IntKind.i64.wrap (v2697.1 + 1))),(iv a2636),(sv a2637),(.sl false (List.map c_GEdit a2638))]]),(.blk 5 [(c_GTxn v2830)])]
abbrev hp40 (a2635 : GOffice) (v2757 : (List GTxn)) (v2697 : (Int × Bool)) (a2636 : Int) (a2637 : ByteArray) (a2638 : (List GEdit)) (l2836 : (List GTxn)) (v2830 : GTxn) : Heap:=[(.blk 2 [[(iv a2635.ID),(.sl false (List.map c_GTxn a2635.Txns))]]),(.blk 2 [[(iv a2635.ID),(.ms 4 v2757.length 0 v2757.length)]]),(.blk 5 [[(iv a2635.ID),(iv (IntKind.i64.wrap (v2697.1 + 1))),(iv a2636),(sv a2637),(.sl false (List.map c_GEdit a2638))]]),(.blk 2 [[(iv a2635.ID),(.sl false (List.map c_GTxn a2635.Txns))]]),(.blk 5 (List.map c_GTxn l2836)),(.blk 2 [[(iv a2635.ID),(.ms 4 v2757.length 0 v2757.length)]]),(.blk 5 [[(iv a2635.ID),(iv (IntKind.i64.wrap (v2697.1 + 1))),(iv a2636),(sv a2637),(.sl false (List.map c_GEdit a2638))]]),(.blk 5 [[(iv a2635.ID),(iv (IntKind.i64.wrap (v2697.1 + 1))),(iv a2636),(sv a2637),(.sl false (List.map c_GEdit a2638))]]),(.blk 5 [(c_GTxn v2830)])]
abbrev hp41 (a2635 : GOffice) (l2836 : (List GTxn)) (v2697 : (Int × Bool)) (a2636 : Int) (a2637 : ByteArray) (a2638 : (List GEdit)) (v2757 : (List GTxn)) (v2830 : GTxn) : Heap:=[(.blk 2 [[(iv a2635.ID),(.sl false (List.map c_GTxn a2635.Txns))]]),(.blk 2 [[(iv a2635.ID),(.ms 4 l2836.length 0 l2836.length)]]),(.blk 5 [[(iv a2635.ID),(iv (IntKind.i64.wrap (v2697.1 + 1))),(iv a2636),(sv a2637),(.sl false (List.map c_GEdit a2638))]]),(.blk 2 [[(iv a2635.ID),(.sl false (List.map c_GTxn a2635.Txns))]]),(.blk 5 (List.map c_GTxn l2836)),(.blk 2 [[(iv a2635.ID),(.ms 4 v2757.length 0 v2757.length)]]),(.blk 5 [[(iv a2635.ID),(iv (IntKind.i64.wrap (v2697.1 + 1))),(iv a2636),(sv a2637),(.sl false (List.map c_GEdit a2638))]]),(.blk 5 [[(iv a2635.ID),(iv (IntKind.i64.wrap (v2697.1 + 1))),(iv a2636),(sv a2637),(.sl false (List.map c_GEdit a2638))]]),(.blk 5 [(c_GTxn v2830)])]
def f6 : Nat → GOffice → Int → ByteArray → (List GEdit) → Option (GOffice × Int)
 | 0,_,_,_,_ => none
 | n + 1,aA,aB,aC,aD => (bnd (f21 n aA) fun aL => (cnd (aL) (bnd (f6_L0 n aB aC aD aA n 0 false 0) fun aE => (bnd (f22 n (GTxn.mk aA.ID (IntKind.i64.wrap (aE.1 + 1)) aB aC aD)) fun aJ => (cnd (aJ != 0) (some ((GOffice.mk 0 []),aJ)) (cnd (decide (((aA.Txns.length : Nat) : Int) ≥ 256)) (some ((GOffice.mk 0 []),3)) (cnd (aE.2) (some ((GOffice.mk 0 []),10)) (bnd (prd n) fun aK => (bnd (f6_I23_L0 aK aA aE aB aC aD aK [] 0) fun aF => (bnd (prd n) fun aG => (bnd (prd aG) fun aI => (bnd (f6_I42_L0 aI aF aA aE aB aC aD aI ((aF.length : Nat) : Int) 0) fun aH => (cnd (decide (aH < ((aF.length : Nat) : Int))) (bnd (idxK aF aF.length aH) fun aM => (bnd (f39 aI aM (GTxn.mk aA.ID (IntKind.i64.wrap (aE.1 + 1)) aB aC aD)) fun aN => (cnd (aN == 0) (bnd (f37 aG (GTxn.mk aA.ID (IntKind.i64.wrap (aE.1 + 1)) aB aC aD)) fun aO => (bnd (prd aG) fun aU => bnd (insO aF aH aO) fun aP => (some ((GOffice.mk aA.ID aP),0)))) (bnd (f37 aG (GTxn.mk aA.ID (IntKind.i64.wrap (aE.1 + 1)) aB aC aD)) fun aQ => (bnd (prd aG) fun aV => bnd (insO aF aH aQ) fun aR => (some ((GOffice.mk aA.ID aR),0))))))) (bnd (f37 aG (GTxn.mk aA.ID (IntKind.i64.wrap (aE.1 + 1)) aB aC aD)) fun aS => (bnd (prd aG) fun aW => bnd (insO aF aH aS) fun aT => (some ((GOffice.mk aA.ID aT),0))))))))))))))) (some ((GOffice.mk 0 []),19))))
theorem f6_ok (n : Nat) (aA : GOffice) (aC : Int) (aD : ByteArray) (aE : (List GEdit)) (r : (GOffice × Int)) (h : f6 n aA aC aD aE = some r) : pv PP T n 6 [(.agg (c_GOffice aA)),(iv aC),(sv aD),(.sl false (List.map c_GEdit aE))] = some (.tup [(.agg (c_GOffice r.1)),(iv r.2)]):=by
 cases n with
 | zero => cases h
 | succ n =>
  rw [f6] at h
  obtain ⟨bl,ak,h⟩:=bnd_some h
  rcases cn h with ⟨aa,ap,h⟩ | ⟨aa,ap,h⟩
  rotate_left
  ·have aq:=by have q:=f21_ok n aA _ ak; rw [aa] at q; exact q
   obtain rfl:=si h
   exact pv_q F6 (qa 16 aq <| q0) [] [none]
  have aP:=by have q:=f21_ok n aA _ ak; rw [aa] at q; exact q
  have aQ:=len_sl (P:=PP) (cf:=evF PP T n) (fl:=0) (H:=(hp30 aA)) (f:=false) (c:=c_GTxn) (l:=aA.Txns)
  have aR : cleanQ true 0 2 [(.blk 2 [[(iv aA.ID),(.sl false (List.map c_GTxn aA.Txns))]]),(.blk 2 [[(iv 0),(.lit nilS)]])]:=(by exact (clo rfl (clo rfl rfl)))
  obtain ⟨aB,ar,h⟩:=bnd_some h
  have aS:=f6_L0_ok n aC aD aE aA n 0 false 0 _ ar
  obtain ⟨aT,au,h⟩:=bnd_some h
  have aU:=f22_ok n (GTxn.mk aA.ID (IntKind.i64.wrap (aB.1 + 1)) aC aD aE) _ au
  rcases cn h with ⟨av,aO,h⟩ | ⟨av,aO,h⟩
  ·obtain rfl:=si h
   exact pv_q F6 (qa 54 aO <| qa 52 aU <| qp aS <| qp aR <| qb 21 aQ <| qa 16 aP <| q0) [((.exit 0),f6_L0_E0 aC aD aE aA aB.1 aB.2)] [none,none]
  have aX:=len_sl (P:=PP) (cf:=evF PP T n) (fl:=0) (H:=(hp32 aA aB aC aD aE)) (f:=false) (c:=c_GTxn) (l:=aA.Txns)
  rcases cn h with ⟨aw,aV,h⟩ | ⟨aw,aV,h⟩
  ·obtain rfl:=si h
   exact pv_q F6 (qa 60 aV <| qb 59 aX <| qa 54 aO <| qa 52 aU <| qp aS <| qp aR <| qb 21 aQ <| qa 16 aP <| q0) [((.exit 0),f6_L0_E0 aC aD aE aA aB.1 aB.2)] [none,none]
  rcases cn h with ⟨ab,ax,h⟩ | ⟨ab,ax,h⟩
  ·have ay:=mov_b (P:=PP) (cf:=evF PP T n) (fl:=0) (H:=(hp32 aA aB aC aD aE)) (tm:=[U,(iv aC),(sv aD),(.sl false (List.map c_GEdit aE)),(.ptr 0 1 0 0),U,U,U,(.ptr 1 1 0 0),(iv aT),(iv aB.1),(bv aB.2),U,U,(.ptr 2 1 0 0),U,U,U,U,U,U,U,U,U,U,U,U,U,U,U,U,U,U,U,U,U,U,U,U,U,U,U,U,(.ptr 0 1 0 0),(iv aA.ID),(iv aB.1),(iv (IntKind.i64.wrap (aB.1 + 1))),(iv aC),(sv aD),(.sl false (List.map c_GEdit aE)),(.agg [(iv aA.ID),(iv (IntKind.i64.wrap (aB.1 + 1))),(iv aC),(sv aD),(.sl false (List.map c_GEdit aE))]),(.agg [(iv aA.ID),(iv (IntKind.i64.wrap (aB.1 + 1))),(iv aC),(sv aD),(.sl false (List.map c_GEdit aE))]),(iv aT),(iv aT),bf,U,U,(.ptr 0 1 0 1),(.sl false (List.map c_GTxn aA.Txns)),(iv ((aA.Txns.length : Nat) : Int)),bf,U,U,U,U,U,U,U,U]) (x:=.tmp 11) rfl ab
   obtain rfl:=si h
   exact pv_q F6 (qb 62 ay <| qa 60 aV <| qb 59 aX <| qa 54 aO <| qa 52 aU <| qp aS <| qp aR <| qb 21 aQ <| qa 16 aP <| q0) [((.exit 0),f6_L0_E0 aC aD aE aA aB.1 aB.2)] [none,none]
  have ac:=mov_b (P:=PP) (cf:=evF PP T n) (fl:=0) (H:=(hp32 aA aB aC aD aE)) (tm:=[U,(iv aC),(sv aD),(.sl false (List.map c_GEdit aE)),(.ptr 0 1 0 0),U,U,U,(.ptr 1 1 0 0),(iv aT),(iv aB.1),(bv aB.2),U,U,(.ptr 2 1 0 0),U,U,U,U,U,U,U,U,U,U,U,U,U,U,U,U,U,U,U,U,U,U,U,U,U,U,U,U,(.ptr 0 1 0 0),(iv aA.ID),(iv aB.1),(iv (IntKind.i64.wrap (aB.1 + 1))),(iv aC),(sv aD),(.sl false (List.map c_GEdit aE)),(.agg [(iv aA.ID),(iv (IntKind.i64.wrap (aB.1 + 1))),(iv aC),(sv aD),(.sl false (List.map c_GEdit aE))]),(.agg [(iv aA.ID),(iv (IntKind.i64.wrap (aB.1 + 1))),(iv aC),(sv aD),(.sl false (List.map c_GEdit aE))]),(iv aT),(iv aT),bf,U,U,(.ptr 0 1 0 1),(.sl false (List.map c_GTxn aA.Txns)),(iv ((aA.Txns.length : Nat) : Int)),bf,U,U,U,U,U,U,U,U]) (x:=.tmp 11) rfl ab
  obtain ⟨ad,az,h⟩:=bnd_some h
  have bA:=prd_eq az
  have bB:=len_sl (P:=PP) (cf:=evF PP T ad) (fl:=3) (H:=(hp33 aA aB aC aD aE)) (f:=false) (c:=c_GTxn) (l:=aA.Txns)
  have bC : cleanQ true 3 6 [(.blk 2 [[(iv aA.ID),(.sl false (List.map c_GTxn aA.Txns))]]),(.blk 2 [[(iv 0),(.lit nilS)]]),(.blk 5 [[(iv aA.ID),(iv (IntKind.i64.wrap (aB.1 + 1))),(iv aC),(sv aD),(.sl false (List.map c_GEdit aE))]]),(.blk 2 [[(iv aA.ID),(.sl false (List.map c_GTxn aA.Txns))]]),(.blk 5 (List.map c_GTxn [])),(.blk 2 [[(iv aA.ID),(.ms 4 0 0 0)]])]:=(by exact (clo rfl (clo (clo_blk (c_GTxn_clean 6)) (clo rfl rfl))))
  obtain ⟨aF,bD,h⟩:=bnd_some h
  have bE:=f6_I23_L0_ok ad aA aB aC aD aE ad [] 0 _ bD
  have ae : evF PP T n 3 23 [(.agg [(iv aA.ID),(.sl false (List.map c_GTxn aA.Txns))])] (hp32 aA aB aC aD aE) = some ((.agg [(iv aA.ID),(.ms 4 aF.length 0 aF.length)]),(hp34 aA aB aC aD aE aF)):=by
   rw [bA]; exact evF_q F23 (qp bE <| qp bC <| qb 10 bB <| q0) [((.exit 0),f6_I23_L0_E0 aA aB aC aD aE aF)] [none,none]
  obtain ⟨aJ,bF,h⟩:=bnd_some h
  have af:=prd_eq bF
  obtain ⟨aY,bG,h⟩:=bnd_some h
  have ag:=prd_eq bG
  have ah : cleanQ false 0 8 [(.blk 2 [[(iv aA.ID),(.sl false (List.map c_GTxn aA.Txns))]]),(.blk 2 [[(iv aA.ID),(.ms 4 aF.length 0 aF.length)]]),(.blk 5 [[(iv aA.ID),(iv (IntKind.i64.wrap (aB.1 + 1))),(iv aC),(sv aD),(.sl false (List.map c_GEdit aE))]]),(.blk 2 [[(iv aA.ID),(.sl false (List.map c_GTxn aA.Txns))]]),(.blk 5 (List.map c_GTxn aF)),(.blk 2 [[(iv aA.ID),(.ms 4 aF.length 0 aF.length)]]),(.blk 5 [[(iv aA.ID),(iv (IntKind.i64.wrap (aB.1 + 1))),(iv aC),(sv aD),(.sl false (List.map c_GEdit aE))]]),(.blk 5 [[(iv aA.ID),(iv (IntKind.i64.wrap (aB.1 + 1))),(iv aC),(sv aD),(.sl false (List.map c_GEdit aE))]])]:=trivial
  obtain ⟨aK,bH,h⟩:=bnd_some h
  have ai:=f6_I42_L0_ok aY aF aA aB aC aD aE aY ((aF.length : Nat) : Int) 0 _ bH
  rcases cn h with ⟨bI,aZ,h⟩ | ⟨bI,aZ,h⟩
  rotate_left
  ·have bJ : evF PP T aJ 0 42 [(.ms 4 aF.length 0 aF.length),(.agg [(iv aA.ID),(iv (IntKind.i64.wrap (aB.1 + 1))),(iv aC),(sv aD),(.sl false (List.map c_GEdit aE))]),(.fn 39 [])] (hp37 aA aF aB aC aD aE) = some ((.tup [(iv aK),bf]),(hp38 aA aF aB aC aD aE)):=by
    rw [ag]; exact evF_q F42 (qa 38 aZ <| qp ai <| qp ah <| q0) [((.exit 0),f6_I42_L0_E0 aF aA aB aC aD aE aK)] []
   obtain ⟨aL,bK,h⟩:=bnd_some h
   have bL:=f37_ok aJ (GTxn.mk aA.ID (IntKind.i64.wrap (aB.1 + 1)) aC aD aE) _ bK
   obtain ⟨bm,bM,h⟩:=bnd_some h
   have bN:=prd_eq bM
   obtain ⟨aG,bO,h⟩:=bnd_some h
   have bP : evF PP T aJ 0 43 [(.ms 4 aF.length 0 aF.length),(iv aK),(.ms 8 1 0 1)] (hp39 aA aF aB aC aD aE aL) = some ((.ms 4 aG.length 0 aG.length),(hp40 aA aF aB aC aD aE aG aL)):=(by rw [bN]; exact ins_told (id:=4) (id2:=8) (l:=aF) (x:=aL) (by omega) (by decide) rfl rfl bO)
   have bQ : evF PP T n 0 24 [(.ptr 1 1 0 0),(.agg [(iv aA.ID),(iv (IntKind.i64.wrap (aB.1 + 1))),(iv aC),(sv aD),(.sl false (List.map c_GEdit aE))])] (hp36 aA aF aB aC aD aE) = some ((.tup []),(hp41 aA aG aB aC aD aE aF aL)):=by
    rw [af]; exact evF_q F24 (qc 24 bP <| qa 22 bL <| qc 12 bJ <| q0) [] [none]
   obtain rfl:=si h
   refine pv_evF (evF_q F6 (qc 67 bQ <| qc 65 ae <| qb 62 ac <| qa 60 aV <| qb 59 aX <| qa 54 aO <| qa 52 aU <| qp aS <| qp aR <| qb 21 aQ <| qa 16 aP <| q0) [((.exit 0),f6_L0_E0 aC aD aE aA aB.1 aB.2)] [none,none,none] (r:=(.tup [(.agg [(iv aA.ID),(.ms 4 aG.length 0 aG.length)]),(iv 0)])) (H':=(hp41 aA aG aB aC aD aE aF aL))) ?_
   show (AV.tup [(AV.agg [(seal1 (hp41 aA aG aB aC aD aE aF aL) 0 (iv aA.ID)),(seal1 (hp41 aA aG aB aC aD aE aF aL) 0 (.ms 4 aG.length 0 aG.length))]),(seal1 (hp41 aA aG aB aC aD aE aF aL) 0 (iv 0))]) = _
   rw [seal1_ms (H:=(hp41 aA aG aB aC aD aE aF aL)) (id:=4) (s:=5) (c:=c_GTxn) (l:=aG) rfl (c_GTxn_seal _ _ _)]
   first | done | rfl
  obtain ⟨aW,al,h⟩:=bnd_some h
  have am:=idx_ms (H:=(hp38 aA aF aB aC aD aE)) (id:=4) (s:=5) (c:=c_GTxn) al rfl
  have an:=ld_ms (P:=PP) (cf:=evF PP T aY) (fl:=0) (H:=(hp38 aA aF aB aC aD aE)) (id:=4) (c:=c_GTxn) (off:=0) (n:=5) (agg:=true) (v:=(.agg [(iv aW.Office),(iv aW.Seq),(iv aW.Time),(sv aW.Source),(.sl false (List.map c_GEdit aW.Edits))])) al rfl (by simp [c_GTxn_len]) rfl
  obtain ⟨bn,bR,h⟩:=bnd_some h
  have bS:=f39_ok aY aW (GTxn.mk aA.ID (IntKind.i64.wrap (aB.1 + 1)) aC aD aE) _ bR
  have ao:=callA_pl (fl:=0) (H:=(hp38 aA aF aB aC aD aE)) rfl rfl bS
  rcases cn h with ⟨bT,aj,h⟩ | ⟨bT,aj,h⟩
  ·have bU : evF PP T aJ 0 42 [(.ms 4 aF.length 0 aF.length),(.agg [(iv aA.ID),(iv (IntKind.i64.wrap (aB.1 + 1))),(iv aC),(sv aD),(.sl false (List.map c_GEdit aE))]),(.fn 39 [])] (hp37 aA aF aB aC aD aE) = some ((.tup [(iv aK),bt]),(hp38 aA aF aB aC aD aE)):=by
    rw [ag]; exact evF_q F42 (qa 47 aj <| qb 46 ao <| qb 44 an <| qa 43 am <| qa 38 aZ <| qp ai <| qp ah <| q0) [((.exit 0),f6_I42_L0_E0 aF aA aB aC aD aE aK)] []
   obtain ⟨aM,bV,h⟩:=bnd_some h
   have bW:=f37_ok aJ (GTxn.mk aA.ID (IntKind.i64.wrap (aB.1 + 1)) aC aD aE) _ bV
   obtain ⟨bo,bX,h⟩:=bnd_some h
   have bY:=prd_eq bX
   obtain ⟨aH,bZ,h⟩:=bnd_some h
   have ba : evF PP T aJ 0 43 [(.ms 4 aF.length 0 aF.length),(iv aK),(.ms 8 1 0 1)] (hp39 aA aF aB aC aD aE aM) = some ((.ms 4 aH.length 0 aH.length),(hp40 aA aF aB aC aD aE aH aM)):=(by rw [bY]; exact ins_told (id:=4) (id2:=8) (l:=aF) (x:=aM) (by omega) (by decide) rfl rfl bZ)
   have bb : evF PP T n 0 24 [(.ptr 1 1 0 0),(.agg [(iv aA.ID),(iv (IntKind.i64.wrap (aB.1 + 1))),(iv aC),(sv aD),(.sl false (List.map c_GEdit aE))])] (hp36 aA aF aB aC aD aE) = some ((.tup []),(hp41 aA aH aB aC aD aE aF aM)):=by
    rw [af]; exact evF_q F24 (qc 24 ba <| qa 22 bW <| qc 12 bU <| q0) [] [none]
   obtain rfl:=si h
   refine pv_evF (evF_q F6 (qc 67 bb <| qc 65 ae <| qb 62 ac <| qa 60 aV <| qb 59 aX <| qa 54 aO <| qa 52 aU <| qp aS <| qp aR <| qb 21 aQ <| qa 16 aP <| q0) [((.exit 0),f6_L0_E0 aC aD aE aA aB.1 aB.2)] [none,none,none] (r:=(.tup [(.agg [(iv aA.ID),(.ms 4 aH.length 0 aH.length)]),(iv 0)])) (H':=(hp41 aA aH aB aC aD aE aF aM))) ?_
   show (AV.tup [(AV.agg [(seal1 (hp41 aA aH aB aC aD aE aF aM) 0 (iv aA.ID)),(seal1 (hp41 aA aH aB aC aD aE aF aM) 0 (.ms 4 aH.length 0 aH.length))]),(seal1 (hp41 aA aH aB aC aD aE aF aM) 0 (iv 0))]) = _
   rw [seal1_ms (H:=(hp41 aA aH aB aC aD aE aF aM)) (id:=4) (s:=5) (c:=c_GTxn) (l:=aH) rfl (c_GTxn_seal _ _ _)]
   first | done | rfl
  have bc : evF PP T aJ 0 42 [(.ms 4 aF.length 0 aF.length),(.agg [(iv aA.ID),(iv (IntKind.i64.wrap (aB.1 + 1))),(iv aC),(sv aD),(.sl false (List.map c_GEdit aE))]),(.fn 39 [])] (hp37 aA aF aB aC aD aE) = some ((.tup [(iv aK),bf]),(hp38 aA aF aB aC aD aE)):=by
   rw [ag]; exact evF_q F42 (qa 47 aj <| qb 46 ao <| qb 44 an <| qa 43 am <| qa 38 aZ <| qp ai <| qp ah <| q0) [((.exit 0),f6_I42_L0_E0 aF aA aB aC aD aE aK)] []
  obtain ⟨aN,bd,h⟩:=bnd_some h
  have be:=f37_ok aJ (GTxn.mk aA.ID (IntKind.i64.wrap (aB.1 + 1)) aC aD aE) _ bd
  obtain ⟨bp,bg,h⟩:=bnd_some h
  have bh:=prd_eq bg
  obtain ⟨aI,bi,h⟩:=bnd_some h
  have bj : evF PP T aJ 0 43 [(.ms 4 aF.length 0 aF.length),(iv aK),(.ms 8 1 0 1)] (hp39 aA aF aB aC aD aE aN) = some ((.ms 4 aI.length 0 aI.length),(hp40 aA aF aB aC aD aE aI aN)):=(by rw [bh]; exact ins_told (id:=4) (id2:=8) (l:=aF) (x:=aN) (by omega) (by decide) rfl rfl bi)
  have bk : evF PP T n 0 24 [(.ptr 1 1 0 0),(.agg [(iv aA.ID),(iv (IntKind.i64.wrap (aB.1 + 1))),(iv aC),(sv aD),(.sl false (List.map c_GEdit aE))])] (hp36 aA aF aB aC aD aE) = some ((.tup []),(hp41 aA aI aB aC aD aE aF aN)):=by
   rw [af]; exact evF_q F24 (qc 24 bj <| qa 22 be <| qc 12 bc <| q0) [] [none]
  obtain rfl:=si h
  refine pv_evF (evF_q F6 (qc 67 bk <| qc 65 ae <| qb 62 ac <| qa 60 aV <| qb 59 aX <| qa 54 aO <| qa 52 aU <| qp aS <| qp aR <| qb 21 aQ <| qa 16 aP <| q0) [((.exit 0),f6_L0_E0 aC aD aE aA aB.1 aB.2)] [none,none,none] (r:=(.tup [(.agg [(iv aA.ID),(.ms 4 aI.length 0 aI.length)]),(iv 0)])) (H':=(hp41 aA aI aB aC aD aE aF aN))) ?_
  show (AV.tup [(AV.agg [(seal1 (hp41 aA aI aB aC aD aE aF aN) 0 (iv aA.ID)),(seal1 (hp41 aA aI aB aC aD aE aF aN) 0 (.ms 4 aI.length 0 aI.length))]),(seal1 (hp41 aA aI aB aC aD aE aF aN) 0 (iv 0))]) = _
  rw [seal1_ms (H:=(hp41 aA aI aB aC aD aE aF aN)) (id:=4) (s:=5) (c:=c_GTxn) (l:=aI) rfl (c_GTxn_seal _ _ _)]
  first | done | rfl
def f16_L0 (n : Nat) (aA : (List GTxn)) : Nat → (List (GArr2_Int × Bool)) → Int → Option (List (GArr2_Int × Bool))
 | 0,_,_ => none
 | m + 1,aC,aB => (cnd (decide (aB < ((aA.length : Nat) : Int))) (bnd (idx aA aB) fun aD => (f16_L0 n aA m (mput aC (GArr2_Int.mk aD.Office aD.Seq) true) (IntKind.i64.wrap (aB + 1)))) (some aC))
def f16_I32_L0 (n : Nat) (aB : Int) (aC : (List (GArr2_Int × Bool))) (aD : (List Int)) : Nat → Int → Option Int
 | 0,_ => none
 | m + 1,aA => (cnd ((Option.getD (mget aC (GArr2_Int.mk aB (IntKind.i64.wrap (aA + 1)))) false)) (f16_I32_L0 n aB aC aD m (IntKind.i64.wrap (aA + 1))) (some aA))
def f16_I33_L0 (n : Nat) (aC : (List (GArr2_Int × Bool))) : Nat → (List Int) → Int → Int → Option (List Int)
 | 0,_,_,_ => none
 | m + 1,aA,aD,aB => (cnd (decide (aB ≤ 8)) (bnd (prd n) fun aE => (bnd (f16_I32_L0 aE aB aC aA aE 0) fun aF => (cnd (aF == 0) (f16_I33_L0 n aC m aA (IntKind.i64.wrap (aD + 1)) (IntKind.i64.wrap (aB + 1))) (bnd (appZ aA aD 0) fun aG => (bnd (app aG [aF]) fun aH => (f16_I33_L0 n aC m aH 0 (IntKind.i64.wrap (aB + 1)))))))) (some aA))
def f16 : Nat → (List GTxn) → Option GClock
 | 0,_ => none
 | n + 1,aB => (bnd (f16_L0 n aB n ([] : List (GArr2_Int × Bool)) 0) fun aC => (bnd (prd n) fun aA => (bnd (f16_I33_L0 aA aC aA [] 0 1) fun aD => (some (GClock.mk aD)))))
def f80 : Nat → Int → Int → Option Int
 | 0,_,_ => none
 | n + 1,aA,aB => (cnd (decide (aA < aB)) (some aB) (some aA))
def f56 : Nat → GClock → Int → Option Int
 | 0,_,_ => none
 | n + 1,aB,aA => (cnd (decide (aA < 1)) (some 0) (cnd (decide (aA > 8)) (some 0) (cnd (decide (aA > ((aB.Counts.length : Nat) : Int))) (some 0) (bnd (idx aB.Counts (IntKind.i64.wrap (aA - 1))) fun aC => (bnd (f80 n aC 0) fun aD => (some aD))))))
def f35 : Nat → GClock → Int → Int → Option Bool
 | 0,_,_,_ => none
 | n + 1,aB,aC,aA => (cnd (decide (1 ≤ aA)) (bnd (f56 n aB aC) fun aD => (cnd (decide (aA ≤ aD)) (some true) (some false))) (some false))
def f51 : Nat → (List GPoint) → Option (List GPoint)
 | 0,_ => none
 | n + 1,aA => (cnd (List.isEmpty aA) (some []) (bnd (app ([] : (List GPoint)) aA) fun aB => (some aB)))
def f52 : Nat → (List Int) → Option (List Int)
 | 0,_ => none
 | n + 1,aA => (cnd (List.isEmpty aA) (some []) (bnd (app ([] : (List Int)) aA) fun aB => (some aB)))
def f13_I30_L1 (n : Nat) (aA : (List GTxn)) (aB : GOffice) (aC : Int) (aD : GClock) (aE : GTxn) : Nat → Option Unit
 | 0 => none
 | m + 1 => (some ())
def f13_I30_L1_2 (n : Nat) (aG : (List GTxn)) (aH : GOffice) (aI : Int) (aE : (List GEdit)) (aJ : GClock) (aK : GTxn) : Nat → (List GEdit) → Int → Option (List GEdit)
 | 0,_,_ => none
 | m + 1,aD,aC => (cnd (decide (aC < ((aE.length : Nat) : Int))) (bnd (idxK aD aD.length aC) fun aA => (bnd (f51 n aA.Via) fun aF => (bnd (f52 n aA.Parts) fun aL => (bnd (idxK (List.set aD (Int.toNat aC) (GEdit.mk aA.Kind aA.ID aA.A aA.B aA.C aA.At aF aA.Name aA.Parts)) aD.length aC) fun aB => (f13_I30_L1_2 n aG aH aI aE aJ aK m (List.set (List.set aD (Int.toNat aC) (GEdit.mk aA.Kind aA.ID aA.A aA.B aA.C aA.At aF aA.Name aA.Parts)) (Int.toNat aC) (GEdit.mk aB.Kind aB.ID aB.A aB.B aB.C aB.At aB.Via aB.Name aL)) (IntKind.i64.wrap (aC + 1))))))) (some aD))
def f13_I30_L0 (n : Nat) (aB : GOffice) (aD : GClock) : Nat → (List GTxn) → Int → Option (List GTxn)
 | 0,_,_ => none
 | m + 1,aE,aC => (cnd (decide (aC < ((aB.Txns.length : Nat) : Int))) (bnd (idx aB.Txns aC) fun aA => (bnd (f35 n aD aA.Office aA.Seq) fun aG => (cnd (aG) (f13_I30_L0 n aB aD m aE (IntKind.i64.wrap (aC + 1))) (bnd (prd n) fun aK => (cnd (List.isEmpty aA.Edits) (bnd (f13_I30_L1 n aE aB aC aD aA n) fun aL => (bnd (app aE [(GTxn.mk aA.Office aA.Seq aA.Time aA.Source [])]) fun aH => (f13_I30_L0 n aB aD m aH (IntKind.i64.wrap (aC + 1))))) (bnd (app ([] : (List GEdit)) aA.Edits) fun aF => (bnd (f13_I30_L1_2 n aE aB aC aF aD aA n aF 0) fun aI => (bnd (app aE [(GTxn.mk aA.Office aA.Seq aA.Time aA.Source aI)]) fun aJ => (f13_I30_L0 n aB aD m aJ (IntKind.i64.wrap (aC + 1))))))))))) (some aE))
def f13 : Nat → GOffice → GClock → Option (List GTxn)
 | 0,_,_ => none
 | n + 1,aB,aC => (bnd (prd n) fun aA => (bnd (f13_I30_L0 aA aB aC aA [] 0) fun aD => (some aD)))
def f11_I23_L0 (n : Nat) (aA : GOffice) : Nat → (List GTxn) → Int → Option (List GTxn)
 | 0,_,_ => none
 | m + 1,aC,aB => (cnd (decide (aB < ((aA.Txns.length : Nat) : Int))) (bnd (idx aA.Txns aB) fun aD => (bnd (f37 n aD) fun aE => (bnd (app aC [aE]) fun aF => (f11_I23_L0 n aA m aF (IntKind.i64.wrap (aB + 1)))))) (some aC))
def f11_I48_L0 (n : Nat) (aA : (List GTxn)) (aD : GOffice) (aE : (List GTxn)) (aC : GTxn) : Nat → Int → Option (Int ⊕ Unit)
 | 0,_ => none
 | m + 1,aB => (cnd (decide (aB < ((aA.length : Nat) : Int))) (bnd (idxK aA aA.length aB) fun aF => (bnd (prd n) fun aG => (cnd (aF.Office == aC.Office) (cnd (aF.Seq == aC.Seq) (some (Sum.inl aB)) (f11_I48_L0 n aA aD aE aC m (IntKind.i64.wrap (aB + 1)))) (f11_I48_L0 n aA aD aE aC m (IntKind.i64.wrap (aB + 1)))))) (some (Sum.inr ())))
def f11_I42_L0 (n : Nat) (aC : (List GTxn)) (aE : GOffice) (aF : (List GTxn)) (aD : GTxn) : Nat → Int → Int → Option Int
 | 0,_,_ => none
 | m + 1,aB,aA => (cnd (decide (aA < aB)) (bnd (idxK aC aC.length (IntKind.i64.wrap (Int.fdiv (IntKind.u64.wrap (IntKind.i64.wrap (aA + aB))) 2))) fun aG => (bnd (f39 n aG aD) fun aH => (cnd (decide (aH < 0)) (f11_I42_L0 n aC aE aF aD m aB (IntKind.i64.wrap ((IntKind.i64.wrap (Int.fdiv (IntKind.u64.wrap (IntKind.i64.wrap (aA + aB))) 2)) + 1))) (f11_I42_L0 n aC aE aF aD m (IntKind.i64.wrap (Int.fdiv (IntKind.u64.wrap (IntKind.i64.wrap (aA + aB))) 2)) aA)))) (some aA))
def f11_L0 (n : Nat) (aE : (List GTxn)) (aC : GOffice) (aD : (List GTxn)) : Nat → (List GTxn) → Int → Option ((Int × Int × Int × ByteArray × (List GEdit) × Int × Int × Int × ByteArray × (List GEdit) × (List GTxn) × Int) ⊕ (List GTxn))
 | 0,_,_ => none
 | m + 1,aB,aF => (cnd (decide (aF < ((aE.length : Nat) : Int))) (bnd (idx aE aF) fun aA => (bnd (prd n) fun aI => (bnd (f22 aI aA) fun aN => (cnd (aN != 0) (some (Sum.inl (aA.Office,aA.Seq,aA.Time,aA.Source,aA.Edits,aA.Office,aA.Seq,aA.Time,aA.Source,aA.Edits,aB,aN))) (bnd (prd aI) fun aO => (bnd2 (f11_I48_L0 aO aB aC aD aA aO 0) (fun aP => (cnd (decide (aP ≥ 0)) (bnd (idxK aB aB.length aP) fun aQ => (bnd (f49 aI aQ aA) fun aR => (cnd (aR) (f11_L0 n aE aC aD m aB (IntKind.i64.wrap (aF + 1))) (some (Sum.inl (aA.Office,aA.Seq,aA.Time,aA.Source,aA.Edits,aA.Office,aA.Seq,aA.Time,aA.Source,aA.Edits,aB,16)))))) (cnd (decide (((aB.length : Nat) : Int) ≥ 256)) (some (Sum.inl (aA.Office,aA.Seq,aA.Time,aA.Source,aA.Edits,aA.Office,aA.Seq,aA.Time,aA.Source,aA.Edits,aB,3))) (bnd (prd aI) fun aG => (bnd (prd aG) fun aL => (bnd (f11_I42_L0 aL aB aC aD aA aL ((aB.length : Nat) : Int) 0) fun aJ => (cnd (decide (aJ < ((aB.length : Nat) : Int))) (bnd (idxK aB aB.length aJ) fun aS => (bnd (f39 aL aS aA) fun aT => (cnd (aT == 0) (bnd (f37 aG aA) fun aU => (bnd (prd aG) fun ai => bnd (insO aB aJ aU) fun aV => (f11_L0 n aE aC aD m aV (IntKind.i64.wrap (aF + 1))))) (bnd (f37 aG aA) fun aW => (bnd (prd aG) fun aj => bnd (insO aB aJ aW) fun aX => (f11_L0 n aE aC aD m aX (IntKind.i64.wrap (aF + 1)))))))) (bnd (f37 aG aA) fun aY => (bnd (prd aG) fun ak => bnd (insO aB aJ aY) fun aZ => (f11_L0 n aE aC aD m aZ (IntKind.i64.wrap (aF + 1)))))))))))) (fun al => (cnd (decide (((aB.length : Nat) : Int) ≥ 256)) (some (Sum.inl (aA.Office,aA.Seq,aA.Time,aA.Source,aA.Edits,aA.Office,aA.Seq,aA.Time,aA.Source,aA.Edits,aB,3))) (bnd (prd aI) fun aH => (bnd (prd aH) fun aM => (bnd (f11_I42_L0 aM aB aC aD aA aM ((aB.length : Nat) : Int) 0) fun aK => (cnd (decide (aK < ((aB.length : Nat) : Int))) (bnd (idxK aB aB.length aK) fun aa => (bnd (f39 aM aa aA) fun ab => (cnd (ab == 0) (bnd (f37 aH aA) fun ac => (bnd (prd aH) fun am => bnd (insO aB aK ac) fun ad => (f11_L0 n aE aC aD m ad (IntKind.i64.wrap (aF + 1))))) (bnd (f37 aH aA) fun ae => (bnd (prd aH) fun an => bnd (insO aB aK ae) fun af => (f11_L0 n aE aC aD m af (IntKind.i64.wrap (aF + 1)))))))) (bnd (f37 aH aA) fun ag => (bnd (prd aH) fun ao => bnd (insO aB aK ag) fun ah => (f11_L0 n aE aC aD m ah (IntKind.i64.wrap (aF + 1))))))))))))))))) (some (Sum.inr aB)))
end Go.Proofs.YtkdnaejhpcibnaaGreatDoor.Av
