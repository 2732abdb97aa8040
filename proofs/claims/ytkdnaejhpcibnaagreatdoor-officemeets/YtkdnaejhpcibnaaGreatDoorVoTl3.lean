/- A part of the proofs of laws of the chapter office: an evaluator of the program, proved sound, and what it says. -/
import Derived.Test.YtkdnaejhpcibnaaGreatDoorVoTl0
set_option linter.unusedVariables false
set_option linter.unusedSimpArgs false
namespace Go.Proofs.YtkdnaejhpcibnaaGreatDoor.Av
open Go
theorem f22_ok (n : Nat) (aA : GTxn) (r : Int) (h : f22 n aA = some r) : pv PP T n 22 [(.agg (c_GTxn aA))] = some (iv r):=by
 cases n with
 | zero => cases h
 | succ n =>
  rw [f22] at h
  rcases cn h with ⟨ae,aB,h⟩ | ⟨ae,aB,h⟩
  ·obtain rfl:=si h
   exact pv_q F22 (qa 7 aB <| q0) [] []
  rcases cn h with ⟨af,aC,h⟩ | ⟨af,aC,h⟩
  ·obtain rfl:=si h
   exact pv_q F22 (qa 11 aC <| qa 7 aB <| q0) [] []
  rcases cn h with ⟨ag,aD,h⟩ | ⟨ag,aD,h⟩
  ·obtain rfl:=si h
   exact pv_q F22 (qa 16 aD <| qa 11 aC <| qa 7 aB <| q0) [] []
  rcases cn h with ⟨ah,aE,h⟩ | ⟨ah,aE,h⟩
  ·obtain rfl:=si h
   exact pv_q F22 (qa 21 aE <| qa 16 aD <| qa 11 aC <| qa 7 aB <| q0) [] []
  rcases cn h with ⟨ai,aF,h⟩ | ⟨ai,aF,h⟩
  ·obtain rfl:=si h
   exact pv_q F22 (qa 26 aF <| qa 21 aE <| qa 16 aD <| qa 11 aC <| qa 7 aB <| q0) [] []
  rcases cn h with ⟨aj,aG,h⟩ | ⟨aj,aG,h⟩
  ·obtain rfl:=si h
   exact pv_q F22 (qa 31 aG <| qa 26 aF <| qa 21 aE <| qa 16 aD <| qa 11 aC <| qa 7 aB <| q0) [] []
  rcases cn h with ⟨aT,ak,h⟩ | ⟨aT,ak,h⟩
  ·have aO:=c_str_neq (P:=PP) (cf:=evF PP T n) (fl:=0) (H:=[(.blk 5 [(c_GTxn aA)])]) (t:=9) aT
   have aP:=len_sl (P:=PP) (cf:=evF PP T n) (fl:=0) (H:=[(.blk 5 [(c_GTxn aA)])]) (f:=false) (c:=c_GEdit) (l:=aA.Edits)
   rcases cn h with ⟨al,aK,h⟩ | ⟨al,aK,h⟩
   ·obtain rfl:=si h
    exact pv_q F22 (qa 45 aK <| qb 44 aP <| qb 35 aO <| qa 31 aG <| qa 26 aF <| qa 21 aE <| qa 16 aD <| qa 11 aC <| qa 7 aB <| q0) [] []
   have aU:=len_sl (P:=PP) (cf:=evF PP T n) (fl:=0) (H:=[(.blk 5 [(c_GTxn aA)])]) (f:=false) (c:=c_GEdit) (l:=aA.Edits)
   rcases cn h with ⟨am,aQ,h⟩ | ⟨am,aQ,h⟩
   ·obtain rfl:=si h
    exact pv_q F22 (qa 50 aQ <| qb 49 aU <| qa 45 aK <| qb 44 aP <| qb 35 aO <| qa 31 aG <| qa 26 aF <| qa 21 aE <| qa 16 aD <| qa 11 aC <| qa 7 aB <| q0) [] []
   have aa:=len_sl (P:=PP) (cf:=evF PP T n) (fl:=0) (H:=[(.blk 5 [(c_GTxn aA)])]) (f:=false) (c:=c_GEdit) (l:=aA.Edits)
   have ab : cleanQ true 0 1 [(.blk 5 [(c_GTxn aA)])]:=(by exact (clo rfl rfl))
   rcases bnd2_some h with ⟨aH,aV,h⟩ | ⟨ar,aV,h⟩
   rotate_left
   ·have aW:=f22_L0_ok n aA n 0 _ aV
    obtain rfl:=si h
    exact pv_q F22 (qp aW <| qp ab <| qb 54 aa <| qa 50 aQ <| qb 49 aU <| qa 45 aK <| qb 44 aP <| qb 35 aO <| qa 31 aG <| qa 26 aF <| qa 21 aE <| qa 16 aD <| qa 11 aC <| qa 7 aB <| q0) [((.exit 0),f22_L0_E1 aA)] []
   have aW:=f22_L0_ok n aA n 0 _ aV
   obtain rfl:=si h
   exact pv_q F22 (qp aW <| qp ab <| qb 54 aa <| qa 50 aQ <| qb 49 aU <| qa 45 aK <| qb 44 aP <| qb 35 aO <| qa 31 aG <| qa 26 aF <| qa 21 aE <| qa 16 aD <| qa 11 aC <| qa 7 aB <| q0) [(.ret,f22_L0_E0 aA aH.1 aH.2.1 aH.2.2.1 aH.2.2.2.1 aH.2.2.2.2.1 aH.2.2.2.2.2.1 aH.2.2.2.2.2.2.1 aH.2.2.2.2.2.2.2.1 aH.2.2.2.2.2.2.2.2.1 aH.2.2.2.2.2.2.2.2.2.1 aH.2.2.2.2.2.2.2.2.2.2)] []
  have aL:=c_str_neq (P:=PP) (cf:=evF PP T n) (fl:=0) (H:=[(.blk 5 [(c_GTxn aA)])]) (t:=9) aT
  obtain ⟨au,an,h⟩:=bnd_some h
  have aM:=f40_ok n aA.Source _ an
  rcases cn h with ⟨ao,aJ,h⟩ | ⟨ao,aJ,h⟩
  ·obtain rfl:=si h
   exact pv_q F22 (qa 40 aJ <| qa 38 aM <| qb 35 aL <| qa 31 aG <| qa 26 aF <| qa 21 aE <| qa 16 aD <| qa 11 aC <| qa 7 aB <| q0) [] []
  have aR:=len_sl (P:=PP) (cf:=evF PP T n) (fl:=0) (H:=[(.blk 5 [(c_GTxn aA)])]) (f:=false) (c:=c_GEdit) (l:=aA.Edits)
  rcases cn h with ⟨ap,aN,h⟩ | ⟨ap,aN,h⟩
  ·obtain rfl:=si h
   exact pv_q F22 (qa 45 aN <| qb 44 aR <| qa 40 aJ <| qa 38 aM <| qb 35 aL <| qa 31 aG <| qa 26 aF <| qa 21 aE <| qa 16 aD <| qa 11 aC <| qa 7 aB <| q0) [] []
  have aX:=len_sl (P:=PP) (cf:=evF PP T n) (fl:=0) (H:=[(.blk 5 [(c_GTxn aA)])]) (f:=false) (c:=c_GEdit) (l:=aA.Edits)
  rcases cn h with ⟨aq,aS,h⟩ | ⟨aq,aS,h⟩
  ·obtain rfl:=si h
   exact pv_q F22 (qa 50 aS <| qb 49 aX <| qa 45 aN <| qb 44 aR <| qa 40 aJ <| qa 38 aM <| qb 35 aL <| qa 31 aG <| qa 26 aF <| qa 21 aE <| qa 16 aD <| qa 11 aC <| qa 7 aB <| q0) [] []
  have ac:=len_sl (P:=PP) (cf:=evF PP T n) (fl:=0) (H:=[(.blk 5 [(c_GTxn aA)])]) (f:=false) (c:=c_GEdit) (l:=aA.Edits)
  have ad : cleanQ true 0 1 [(.blk 5 [(c_GTxn aA)])]:=(by exact (clo rfl rfl))
  rcases bnd2_some h with ⟨aI,aY,h⟩ | ⟨av,aY,h⟩
  rotate_left
  ·have aZ:=f22_L0_ok n aA n 0 _ aY
   obtain rfl:=si h
   exact pv_q F22 (qp aZ <| qp ad <| qb 54 ac <| qa 50 aS <| qb 49 aX <| qa 45 aN <| qb 44 aR <| qa 40 aJ <| qa 38 aM <| qb 35 aL <| qa 31 aG <| qa 26 aF <| qa 21 aE <| qa 16 aD <| qa 11 aC <| qa 7 aB <| q0) [((.exit 0),f22_L0_E1 aA)] []
  have aZ:=f22_L0_ok n aA n 0 _ aY
  obtain rfl:=si h
  exact pv_q F22 (qp aZ <| qp ad <| qb 54 ac <| qa 50 aS <| qb 49 aX <| qa 45 aN <| qb 44 aR <| qa 40 aJ <| qa 38 aM <| qb 35 aL <| qa 31 aG <| qa 26 aF <| qa 21 aE <| qa 16 aD <| qa 11 aC <| qa 7 aB <| q0) [(.ret,f22_L0_E0 aA aI.1 aI.2.1 aI.2.2.1 aI.2.2.2.1 aI.2.2.2.2.1 aI.2.2.2.2.2.1 aI.2.2.2.2.2.2.1 aI.2.2.2.2.2.2.2.1 aI.2.2.2.2.2.2.2.2.1 aI.2.2.2.2.2.2.2.2.2.1 aI.2.2.2.2.2.2.2.2.2.2)] []
abbrev hp19 (a2447 : GOffice) : Heap:=[(.blk 2 [[(iv a2447.ID),(.sl false (List.map c_GTxn a2447.Txns))]])]
abbrev hp20 (a2447 : GOffice) : Heap:=[(.blk 2 [[(iv a2447.ID),(.sl false (List.map c_GTxn a2447.Txns))]]),(.mp (entL kv_GArr2_Int a_bool ([] : List (GArr2_Int × Bool))))]
def f21_L0_S (aA : GOffice) (aB : (List (GArr2_Int × Bool))) (aC : Int) : St:=⟨[U,(.ptr 0 1 0 0),U,(.mp 1),U,U,U,U,U,U,U,U,U,U,U,U,U,U,U,U,U,U,U,(.sl false (List.map c_GTxn aA.Txns)),(iv ((aA.Txns.length : Nat) : Int)),(iv aC),U,U,U,U,U,U,U,U,U,U,U,U,U,U,U,U,U,U,U,U,U,U,U,U,U,U,U,U,U,U,U,U,U,U,U],[(.blk 2 [[(iv aA.ID),(.sl false (List.map c_GTxn aA.Txns))]]),(.mp (entL kv_GArr2_Int a_bool aB))]⟩
theorem f21_L0_c (aA : GOffice) (aB : (List (GArr2_Int × Bool))) (aC : Int) : cleanQ true 0 2 (f21_L0_S aA aB aC).heap:=(by exact (clo rfl (clo (clo_mp (kv:=kv_GArr2_Int) (va:=a_bool) fun _ => rfl) rfl)))
def f21_L0_E0 (aA : GOffice) (aB : Int) (aC : Int) (aD : Int) (aE : ByteArray) (aF : (List GEdit)) (aG : Int) (aH : Int) (aI : (List (GArr2_Int × Bool))) : St:=⟨[U,U,bf,U,U,U,U,U,U,U,U,U,U,U,U,U,U,U,U,U,U,U,U,U,U,U,U,U,U,U,U,U,U,U,U,U,U,U,U,U,U,U,U,U,U,U,U,U,U,U,U,U,U,U,U,U,U,U,U,U,U],[(.blk 2 [[(iv aA.ID),(.sl false (List.map c_GTxn aA.Txns))]]),(.mp (entL kv_GArr2_Int a_bool aI)),(.blk 5 [[(iv aB),(iv aC),(iv aD),(sv aE),(.sl false (List.map c_GEdit aF))]]),(.blk 2 [[(iv aG),(iv aH)]])]⟩
def f21_L0_E1 (aA : GOffice) (aB : (List (GArr2_Int × Bool))) : St:=⟨[U,U,U,U,U,U,U,U,U,U,U,U,U,U,U,U,U,U,U,U,U,U,U,U,U,U,U,U,U,U,U,U,U,U,U,U,U,U,U,U,U,U,U,U,U,U,U,U,U,U,U,U,U,U,U,U,U,U,U,U,U],[(.blk 2 [[(iv aA.ID),(.sl false (List.map c_GTxn aA.Txns))]]),(.mp (entL kv_GArr2_Int a_bool aB))]⟩
abbrev hp21 (a2447 : GOffice) (l2475 : (List (GArr2_Int × Bool))) : Heap:=[(.blk 2 [[(iv a2447.ID),(.sl false (List.map c_GTxn a2447.Txns))]]),(.mp (entL kv_GArr2_Int a_bool l2475))]
abbrev hp22 (a2447 : GOffice) (l2475 : (List (GArr2_Int × Bool))) (x2520 : GTxn) : Heap:=[(.blk 2 [[(iv a2447.ID),(.sl false (List.map c_GTxn a2447.Txns))]]),(.mp (entL kv_GArr2_Int a_bool l2475)),(.blk 5 [(c_GTxn x2520)]),(.blk 2 [[(iv x2520.Office),(iv x2520.Seq)]])]
abbrev hp23 (a2447 : GOffice) (l2475 : (List (GArr2_Int × Bool))) (x2520 : GTxn) : Heap:=[(.blk 2 [[(iv a2447.ID),(.sl false (List.map c_GTxn a2447.Txns))]]),(.mp (entL kv_GArr2_Int a_bool (mput l2475 (GArr2_Int.mk x2520.Office x2520.Seq) true))),(.blk 5 [(c_GTxn x2520)]),(.blk 2 [[(iv x2520.Office),(iv x2520.Seq)]])]
def f21_L0 (n : Nat) (aD : GOffice) : Nat → (List (GArr2_Int × Bool)) → Int → Option ((Int × Int × Int × ByteArray × (List GEdit) × Int × Int × (List (GArr2_Int × Bool))) ⊕ (List (GArr2_Int × Bool)))
 | 0,_,_ => none
 | m + 1,aB,aC => (cnd (decide (aC < ((aD.Txns.length : Nat) : Int))) (bnd (idx aD.Txns aC) fun aA => (bnd (f22 n aA) fun aE => (cnd (aE != 0) (some (Sum.inl (aA.Office,aA.Seq,aA.Time,aA.Source,aA.Edits,aA.Office,aA.Seq,aB))) (cnd (decide (aC > 0)) (bnd (idx aD.Txns (IntKind.i64.wrap (aC - 1))) fun aF => (bnd (f39 n aF aA) fun aG => (cnd (decide (aG ≥ 0)) (some (Sum.inl (aA.Office,aA.Seq,aA.Time,aA.Source,aA.Edits,aA.Office,aA.Seq,aB))) (cnd ((Option.getD (mget aB (GArr2_Int.mk aA.Office aA.Seq)) false)) (some (Sum.inl (aA.Office,aA.Seq,aA.Time,aA.Source,aA.Edits,aA.Office,aA.Seq,aB))) (f21_L0 n aD m (mput aB (GArr2_Int.mk aA.Office aA.Seq) true) (IntKind.i64.wrap (aC + 1))))))) (cnd ((Option.getD (mget aB (GArr2_Int.mk aA.Office aA.Seq)) false)) (some (Sum.inl (aA.Office,aA.Seq,aA.Time,aA.Source,aA.Edits,aA.Office,aA.Seq,aB))) (f21_L0 n aD m (mput aB (GArr2_Int.mk aA.Office aA.Seq) true) (IntKind.i64.wrap (aC + 1)))))))) (some (Sum.inr aB)))
theorem f21_L0_ok (n : Nat) (aC : GOffice) : ∀ (m : Nat) (aB : (List (GArr2_Int × Bool))) (aE : Int) (r : ((Int × Int × Int × ByteArray × (List GEdit) × Int × Int × (List (GArr2_Int × Bool))) ⊕ (List (GArr2_Int × Bool)))),f21_L0 n aC m aB aE = some r → maskR [] [false,false,true] true 0 2 (evLoopH (headSt (some lv10) true 0 2) (evC PP (evF PP T n) n 0 L21_0) m (f21_L0_S aC aB aE)) = (match r with | .inl r => some (.ret,f21_L0_E0 aC r.1 r.2.1 r.2.2.1 r.2.2.2.1 r.2.2.2.2.1 r.2.2.2.2.2.1 r.2.2.2.2.2.2.1 r.2.2.2.2.2.2.2) | .inr r => some ((.exit 0),f21_L0_E1 aC r))
 | 0,_,_,_,h => by cases h
 | m + 1,aB,aE,r,h => by
  rw [f21_L0] at h
  rcases cn h with ⟨aO,aD,h⟩ | ⟨aO,aD,h⟩
  rotate_left
  ·obtain rfl:=si h
   exact last_q (some lv10) true (f21_L0_E1 aC aB) (qa 26 aD <| q0) [] [] (by exact (clo rfl (clo (clo_mp (kv:=kv_GArr2_Int) (va:=a_bool) fun _ => rfl) rfl)))
  obtain ⟨aA,aP,h⟩:=bnd_some h
  have aG:=idxl (H:=(hp21 aC aB)) (f:=false) (c:=c_GTxn) aP (c_GTxn_len _)
  obtain ⟨af,aQ,h⟩:=bnd_some h
  have aH:=f22_ok n aA _ aQ
  rcases cn h with ⟨aR,aF,h⟩ | ⟨aR,aF,h⟩
  ·obtain rfl:=si h
   exact last_q (some lv10) true (f21_L0_E0 aC aA.Office aA.Seq aA.Time aA.Source aA.Edits aA.Office aA.Seq aB) (qa 37 aF <| qa 36 aH <| qa 28 aG <| qa 26 aD <| q0) [] [none,none] trivial
  rcases cn h with ⟨aS,aI,h⟩ | ⟨aS,aI,h⟩
  rotate_left
  ·rcases cn h with ⟨aK,aT,h⟩ | ⟨aK,aT,h⟩
   ·have aU:=by have q:=look_ok (P:=PP) (cf:=evF PP T n) (fl:=0) (H:=(hp22 aC aB aA)) (id:=1) (kv:=kv_GArr2_Int) (va:=a_bool) (m:=aB) (k:=(GArr2_Int.mk aA.Office aA.Seq)) (x:=(.agg [(iv aA.Office),(iv aA.Seq)])) key_GArr2_Int false rfl rfl; simp only [aK,a_bool] at q; exact q
    obtain rfl:=si h
    exact last_q (some lv10) true (f21_L0_E0 aC aA.Office aA.Seq aA.Time aA.Source aA.Edits aA.Office aA.Seq aB) (qb 56 aU <| qa 40 aI <| qa 37 aF <| qa 36 aH <| qa 28 aG <| qa 26 aD <| q0) [] [none,none] trivial
   have aV:=by have q:=look_ok (P:=PP) (cf:=evF PP T n) (fl:=0) (H:=(hp22 aC aB aA)) (id:=1) (kv:=kv_GArr2_Int) (va:=a_bool) (m:=aB) (k:=(GArr2_Int.mk aA.Office aA.Seq)) (x:=(.agg [(iv aA.Office),(iv aA.Seq)])) key_GArr2_Int false rfl rfl; simp only [aK,a_bool] at q; exact q
   have aW:=upd_ok (P:=PP) (cf:=evF PP T n) (fl:=0) (H:=(hp22 aC aB aA)) (id:=1) (kv:=kv_GArr2_Int) (va:=a_bool) (m:=aB) (k:=(GArr2_Int.mk aA.Office aA.Seq)) (x:=(.agg [(iv aA.Office),(iv aA.Seq)])) key_GArr2_Int true rfl (by omega) rfl
   exact nx_q (f21_L0_S aC (mput aB (GArr2_Int.mk aA.Office aA.Seq) true) (IntKind.i64.wrap (aE + 1))) (qp aW <| qb 56 aV <| qa 40 aI <| qa 37 aF <| qa 36 aH <| qa 28 aG <| qa 26 aD <| q0) [] [none,none,some (hp23 aC aB aA)] (f21_L0_c _ _ _) (f21_L0_ok n aC m (mput aB (GArr2_Int.mk aA.Office aA.Seq) true) (IntKind.i64.wrap (aE + 1)) r h)
  obtain ⟨aX,aY,h⟩:=bnd_some h
  have aL:=idxl (H:=(hp22 aC aB aA)) (f:=false) (c:=c_GTxn) aY (c_GTxn_len _)
  obtain ⟨ag,aZ,h⟩:=bnd_some h
  have aM:=f39_ok n aX aA _ aZ
  rcases cn h with ⟨aa,aJ,h⟩ | ⟨aa,aJ,h⟩
  ·obtain rfl:=si h
   exact last_q (some lv10) true (f21_L0_E0 aC aA.Office aA.Seq aA.Time aA.Source aA.Edits aA.Office aA.Seq aB) (qa 50 aJ <| qa 49 aM <| qa 46 aL <| qa 40 aI <| qa 37 aF <| qa 36 aH <| qa 28 aG <| qa 26 aD <| q0) [] [none,none] trivial
  rcases cn h with ⟨aN,ab,h⟩ | ⟨aN,ab,h⟩
  ·have ac:=by have q:=look_ok (P:=PP) (cf:=evF PP T n) (fl:=0) (H:=(hp22 aC aB aA)) (id:=1) (kv:=kv_GArr2_Int) (va:=a_bool) (m:=aB) (k:=(GArr2_Int.mk aA.Office aA.Seq)) (x:=(.agg [(iv aA.Office),(iv aA.Seq)])) key_GArr2_Int false rfl rfl; simp only [aN,a_bool] at q; exact q
   obtain rfl:=si h
   exact last_q (some lv10) true (f21_L0_E0 aC aA.Office aA.Seq aA.Time aA.Source aA.Edits aA.Office aA.Seq aB) (qb 56 ac <| qa 50 aJ <| qa 49 aM <| qa 46 aL <| qa 40 aI <| qa 37 aF <| qa 36 aH <| qa 28 aG <| qa 26 aD <| q0) [] [none,none] trivial
  have ad:=by have q:=look_ok (P:=PP) (cf:=evF PP T n) (fl:=0) (H:=(hp22 aC aB aA)) (id:=1) (kv:=kv_GArr2_Int) (va:=a_bool) (m:=aB) (k:=(GArr2_Int.mk aA.Office aA.Seq)) (x:=(.agg [(iv aA.Office),(iv aA.Seq)])) key_GArr2_Int false rfl rfl; simp only [aN,a_bool] at q; exact q
  have ae:=upd_ok (P:=PP) (cf:=evF PP T n) (fl:=0) (H:=(hp22 aC aB aA)) (id:=1) (kv:=kv_GArr2_Int) (va:=a_bool) (m:=aB) (k:=(GArr2_Int.mk aA.Office aA.Seq)) (x:=(.agg [(iv aA.Office),(iv aA.Seq)])) key_GArr2_Int true rfl (by omega) rfl
  exact nx_q (f21_L0_S aC (mput aB (GArr2_Int.mk aA.Office aA.Seq) true) (IntKind.i64.wrap (aE + 1))) (qp ae <| qb 56 ad <| qa 50 aJ <| qa 49 aM <| qa 46 aL <| qa 40 aI <| qa 37 aF <| qa 36 aH <| qa 28 aG <| qa 26 aD <| q0) [] [none,none,some (hp23 aC aB aA)] (f21_L0_c _ _ _) (f21_L0_ok n aC m (mput aB (GArr2_Int.mk aA.Office aA.Seq) true) (IntKind.i64.wrap (aE + 1)) r h)
def f21 : Nat → GOffice → Option Bool
 | 0,_ => none
 | n + 1,aA => (cnd (decide (aA.ID < 1)) (some false) (cnd (decide (aA.ID > 8)) (some false) (cnd (decide (((aA.Txns.length : Nat) : Int) > 256)) (some false) (bnd2 (f21_L0 n aA n ([] : List (GArr2_Int × Bool)) 0) (fun aB => (some false)) (fun aC => (some true))))))
theorem f21_ok (n : Nat) (aA : GOffice) (r : Bool) (h : f21 n aA = some r) : pv PP T n 21 [(.agg (c_GOffice aA))] = some (bv r):=by
 cases n with
 | zero => cases h
 | succ n =>
  rw [f21] at h
  rcases cn h with ⟨aK,aC,h⟩ | ⟨aK,aC,h⟩
  ·obtain rfl:=si h
   exact pv_q F21 (qa 9 aC <| q0) [] []
  rcases cn h with ⟨aL,aD,h⟩ | ⟨aL,aD,h⟩
  ·obtain rfl:=si h
   exact pv_q F21 (qa 13 aD <| qa 9 aC <| q0) [] []
  have aF:=len_sl (P:=PP) (cf:=evF PP T n) (fl:=0) (H:=(hp19 aA)) (f:=false) (c:=c_GTxn) (l:=aA.Txns)
  rcases cn h with ⟨aM,aE,h⟩ | ⟨aM,aE,h⟩
  ·obtain rfl:=si h
   exact pv_q F21 (qa 19 aE <| qb 18 aF <| qa 13 aD <| qa 9 aC <| q0) [] []
  have aI:=len_sl (P:=PP) (cf:=evF PP T n) (fl:=0) (H:=(hp20 aA)) (f:=false) (c:=c_GTxn) (l:=aA.Txns)
  have aJ : cleanQ true 0 2 [(.blk 2 [[(iv aA.ID),(.sl false (List.map c_GTxn aA.Txns))]]),(.mp (entL kv_GArr2_Int a_bool ([] : List (GArr2_Int × Bool))))]:=(by exact (clo rfl (clo (clo_mp (kv:=kv_GArr2_Int) (va:=a_bool) fun _ => rfl) rfl)))
  rcases bnd2_some h with ⟨aB,aG,h⟩ | ⟨aN,aG,h⟩
  rotate_left
  ·have aH:=f21_L0_ok n aA n ([] : List (GArr2_Int × Bool)) 0 _ aG
   obtain rfl:=si h
   exact pv_q F21 (qp aH <| qp aJ <| qb 24 aI <| qa 19 aE <| qb 18 aF <| qa 13 aD <| qa 9 aC <| q0) [((.exit 0),f21_L0_E1 aA aN)] []
  have aH:=f21_L0_ok n aA n ([] : List (GArr2_Int × Bool)) 0 _ aG
  obtain rfl:=si h
  exact pv_q F21 (qp aH <| qp aJ <| qb 24 aI <| qa 19 aE <| qb 18 aF <| qa 13 aD <| qa 9 aC <| q0) [(.ret,f21_L0_E0 aA aB.1 aB.2.1 aB.2.2.1 aB.2.2.2.1 aB.2.2.2.2.1 aB.2.2.2.2.2.1 aB.2.2.2.2.2.2.1 aB.2.2.2.2.2.2.2)] []
abbrev hp25 (a2557 : GTxn) : Heap:=[(.blk 5 [(c_GTxn a2557)]),(.blk 5 [[(iv 0),(iv 0),(iv 0),(sv (⟨#[]⟩)),(.lit nilS)]])]
def f37_L0_S (aA : GTxn) : St:=⟨[U,(.ptr 0 1 0 0),(.ptr 1 1 0 0),U,U,U,U,U,U,U,(.sl false []),(iv 0),(iv 0),U,U,U,U,U,U,U,U,U,U,U,U,U,U,U,U,U,U,U,U,U,U],[(.blk 5 [(c_GTxn (GTxn.mk aA.Office aA.Seq aA.Time aA.Source []))]),(.blk 5 [[(iv 0),(iv 0),(iv 0),(sv (⟨#[]⟩)),(.lit nilS)]])]⟩
def f37_L0_E0 (aA : GTxn) : St:=⟨[U,(.ptr 0 1 0 0),(.ptr 1 1 0 0),U,U,U,U,U,U,U,U,U,U,U,U,U,U,U,U,U,U,U,U,U,U,U,U,U,U,U,U,U,U,U,U],[(.blk 5 [(c_GTxn (GTxn.mk aA.Office aA.Seq aA.Time aA.Source []))]),(.blk 5 [[(iv 0),(iv 0),(iv 0),(sv (⟨#[]⟩)),(.lit nilS)]])]⟩
def f37_L0 (n : Nat) (aA : GTxn) : Nat → Option Unit
 | 0 => none
 | m + 1 => (some ())
theorem f37_L0_ok (n : Nat) (aA : GTxn) : ∀ (m : Nat) (r : Unit),f37_L0 n aA m = some r → maskR [false,true,true] [false,false,true] true 0 2 (evLoopH (headSt (some lv11) true 0 2) (evC PP (evF PP T n) n 0 L37_0) m (f37_L0_S aA)) = some ((.exit 0),f37_L0_E0 aA)
 | 0,_,h => by cases h
 | m + 1,r,h => by
  rw [f37_L0] at h
  obtain rfl:=si h
  exact last_q (some lv11) true (f37_L0_E0 aA) q0 [] [] (by exact (clo rfl (clo rfl rfl)))
abbrev hp26 (a2557 : GTxn) : Heap:=[(.blk 5 [(c_GTxn a2557)]),(.blk 5 [[(iv 0),(iv 0),(iv 0),(sv (⟨#[]⟩)),(.lit nilS)]]),(.blk 10 (List.map c_GEdit a2557.Edits))]
def f37_L0_2_S (aA : GTxn) (aB : (List GEdit)) (aC : Int) : St:=⟨[U,(.ptr 0 1 0 0),(.ptr 1 1 0 0),U,U,U,U,U,U,U,(.ms 2 aB.length 0 aB.length),(iv ((aA.Edits.length : Nat) : Int)),(iv aC),U,U,U,U,U,U,U,U,U,U,U,U,U,U,U,U,U,U,U,U,U,U],[(.blk 5 [[(iv aA.Office),(iv aA.Seq),(iv aA.Time),(sv aA.Source),(.ms 2 aB.length 0 aB.length)]]),(.blk 5 [[(iv 0),(iv 0),(iv 0),(sv (⟨#[]⟩)),(.lit nilS)]]),(.blk 10 (List.map c_GEdit aB))]⟩
def f37_L0_2_E0 (aA : GTxn) (aB : (List GEdit)) : St:=⟨[U,(.ptr 0 1 0 0),(.ptr 1 1 0 0),U,U,U,U,U,U,U,U,U,U,U,U,U,U,U,U,U,U,U,U,U,U,U,U,U,U,U,U,U,U,U,U],[(.blk 5 [[(iv aA.Office),(iv aA.Seq),(iv aA.Time),(sv aA.Source),(.ms 2 aB.length 0 aB.length)]]),(.blk 5 [[(iv 0),(iv 0),(iv 0),(sv (⟨#[]⟩)),(.lit nilS)]]),(.blk 10 (List.map c_GEdit aB))]⟩
abbrev hp27 (a2557 : GTxn) (l2589 : (List GEdit)) : Heap:=[(.blk 5 [[(iv a2557.Office),(iv a2557.Seq),(iv a2557.Time),(sv a2557.Source),(.ms 2 l2589.length 0 l2589.length)]]),(.blk 5 [[(iv 0),(iv 0),(iv 0),(sv (⟨#[]⟩)),(.lit nilS)]]),(.blk 10 (List.map c_GEdit l2589))]
abbrev hp28 (a2557 : GTxn) (l2589 : (List GEdit)) (x2613 : GEdit) : Heap:=[(.blk 5 [[(iv a2557.Office),(iv a2557.Seq),(iv a2557.Time),(sv a2557.Source),(.ms 2 l2589.length 0 l2589.length)]]),(.blk 5 [[(iv 0),(iv 0),(iv 0),(sv (⟨#[]⟩)),(.lit nilS)]]),(.blk 10 (List.map c_GEdit l2589)),(.blk 10 [(c_GEdit x2613)])]
def f37_L0_2 (n : Nat) (aE : GTxn) : Nat → (List GEdit) → Int → Option (List GEdit)
 | 0,_,_ => none
 | m + 1,aD,aC => (cnd (decide (aC < ((aE.Edits.length : Nat) : Int))) (bnd (idxK aD aD.length aC) fun aA => (bnd (f60 n aA.Via) fun aF => (bnd (f61 n aA.Parts) fun aG => (bnd (idxK (List.set aD (Int.toNat aC) (GEdit.mk aA.Kind aA.ID aA.A aA.B aA.C aA.At aF aA.Name aA.Parts)) aD.length aC) fun aB => (f37_L0_2 n aE m (List.set (List.set aD (Int.toNat aC) (GEdit.mk aA.Kind aA.ID aA.A aA.B aA.C aA.At aF aA.Name aA.Parts)) (Int.toNat aC) (GEdit.mk aB.Kind aB.ID aB.A aB.B aB.C aB.At aB.Via aB.Name aG)) (IntKind.i64.wrap (aC + 1))))))) (some aD))
theorem f37_L0_2_ok (n : Nat) (aC : GTxn) : ∀ (m : Nat) (aD : (List GEdit)) (aE : Int) (r : (List GEdit)),f37_L0_2 n aC m aD aE = some r → maskR [false,true,true] [false,false,true] true 0 3 (evLoopH (headSt (some lv11) true 0 3) (evC PP (evF PP T n) n 0 L37_0) m (f37_L0_2_S aC aD aE)) = some ((.exit 0),f37_L0_2_E0 aC r)
 | 0,_,_,_,h => by cases h
 | m + 1,aD,aE,r,h => by
  rw [f37_L0_2] at h
  rcases cn h with ⟨aK,aI,h⟩ | ⟨aK,aI,h⟩
  rotate_left
  ·obtain rfl:=si h
   exact last_q (some lv11) true (f37_L0_2_E0 aC aD) (qa 13 aI <| q0) [] [] (by exact (clo rfl (clo rfl (clo (clo_blk (c_GEdit_clean 3)) rfl))))
  obtain ⟨aA,aH,h⟩:=bnd_some h
  have aL:=idx_ms (H:=(hp27 aC aD)) (id:=2) (s:=10) (c:=c_GEdit) aH rfl
  have aM:=ld_ms (P:=PP) (cf:=evF PP T n) (fl:=0) (H:=(hp27 aC aD)) (id:=2) (c:=c_GEdit) (off:=0) (n:=10) (agg:=true) (v:=(.agg [(iv aA.Kind),(iv aA.ID),(iv aA.A),(iv aA.B),(iv aA.C),(iv aA.At.X),(iv aA.At.Y),(.sl false (List.map c_GPoint aA.Via)),(sv aA.Name),(.sl false (List.map c_i64 aA.Parts))])) aH rfl (by simp [c_GEdit_len]) rfl
  obtain ⟨aF,aN,h⟩:=bnd_some h
  have aO:=f60_ok n aA.Via _ aN
  have aP:=idx_ms (H:=(hp28 aC aD aA)) (id:=2) (s:=10) (c:=c_GEdit) aH rfl
  have aQ:=st_ms (P:=PP) (cf:=evF PP T n) (fl:=0) (H:=(hp28 aC aD aA)) (id:=2) (s:=10) (c:=c_GEdit) (x':=(GEdit.mk aA.Kind aA.ID aA.A aA.B aA.C aA.At aF aA.Name aA.Parts)) (off:=7) (n:=1) (v:=(.sl false (List.map c_GPoint aF))) (cs:=[(.sl false (List.map c_GPoint aF))]) aH rfl (by omega) rfl rfl (by constructor <;> simp [c_GEdit_len]) rfl
  obtain ⟨aG,aR,h⟩:=bnd_some h
  have aS:=f61_ok n aA.Parts _ aR
  obtain ⟨aB,aJ,h⟩:=bnd_some h
  have aT:=idx_msT (tot:=aD.length) (by simp) (H:=[(.blk 5 [[(iv aC.Office),(iv aC.Seq),(iv aC.Time),(sv aC.Source),(.ms 2 aD.length 0 aD.length)]]),(.blk 5 [[(iv 0),(iv 0),(iv 0),(sv (⟨#[]⟩)),(.lit nilS)]]),(.blk 10 (List.map c_GEdit (List.set aD (Int.toNat aE) (GEdit.mk aA.Kind aA.ID aA.A aA.B aA.C aA.At aF aA.Name aA.Parts)))),(.blk 10 [(c_GEdit aA)])]) (id:=2) (s:=10) (c:=c_GEdit) aJ rfl
  have aU:=st_msT (tot:=aD.length) (by simp) (P:=PP) (cf:=evF PP T n) (fl:=0) (H:=[(.blk 5 [[(iv aC.Office),(iv aC.Seq),(iv aC.Time),(sv aC.Source),(.ms 2 aD.length 0 aD.length)]]),(.blk 5 [[(iv 0),(iv 0),(iv 0),(sv (⟨#[]⟩)),(.lit nilS)]]),(.blk 10 (List.map c_GEdit (List.set aD (Int.toNat aE) (GEdit.mk aA.Kind aA.ID aA.A aA.B aA.C aA.At aF aA.Name aA.Parts)))),(.blk 10 [(c_GEdit aA)])]) (id:=2) (s:=10) (c:=c_GEdit) (x':=(GEdit.mk aB.Kind aB.ID aB.A aB.B aB.C aB.At aB.Via aB.Name aG)) (off:=9) (n:=1) (v:=(.sl false (List.map c_i64 aG))) (cs:=[(.sl false (List.map c_i64 aG))]) aJ rfl (by omega) rfl rfl (by constructor <;> simp [c_GEdit_len]) rfl
  have aV : f37_L0_2_S aC (List.set (List.set aD (Int.toNat aE) (GEdit.mk aA.Kind aA.ID aA.A aA.B aA.C aA.At aF aA.Name aA.Parts)) (Int.toNat aE) (GEdit.mk aB.Kind aB.ID aB.A aB.B aB.C aB.At aB.Via aB.Name aG)) (IntKind.i64.wrap (aE + 1)) = ⟨[U,(.ptr 0 1 0 0),(.ptr 1 1 0 0),U,U,U,U,U,U,U,(.ms 2 aD.length 0 aD.length),(iv ((aC.Edits.length : Nat) : Int)),(iv (IntKind.i64.wrap (aE + 1))),U,U,U,U,U,U,U,U,U,U,U,U,U,U,U,U,U,U,U,U,U,U],[(.blk 5 [[(iv aC.Office),(iv aC.Seq),(iv aC.Time),(sv aC.Source),(.ms 2 aD.length 0 aD.length)]]),(.blk 5 [[(iv 0),(iv 0),(iv 0),(sv (⟨#[]⟩)),(.lit nilS)]]),(.blk 10 (List.map c_GEdit (List.set (List.set aD (Int.toNat aE) (GEdit.mk aA.Kind aA.ID aA.A aA.B aA.C aA.At aF aA.Name aA.Parts)) (Int.toNat aE) (GEdit.mk aB.Kind aB.ID aB.A aB.B aB.C aB.At aB.Via aB.Name aG))))]⟩:=by simp [f37_L0_2_S]
  exact (congrArg (maskR [false,true,true] [false,false,true] true 0 3) (next_q (some lv11) true ⟨[U,(.ptr 0 1 0 0),(.ptr 1 1 0 0),U,U,U,U,U,U,U,(.ms 2 aD.length 0 aD.length),(iv ((aC.Edits.length : Nat) : Int)),(iv (IntKind.i64.wrap (aE + 1))),U,U,U,U,U,U,U,U,U,U,U,U,U,U,U,U,U,U,U,U,U,U],[(.blk 5 [[(iv aC.Office),(iv aC.Seq),(iv aC.Time),(sv aC.Source),(.ms 2 aD.length 0 aD.length)]]),(.blk 5 [[(iv 0),(iv 0),(iv 0),(sv (⟨#[]⟩)),(.lit nilS)]]),(.blk 10 (List.map c_GEdit (List.set (List.set aD (Int.toNat aE) (GEdit.mk aA.Kind aA.ID aA.A aA.B aA.C aA.At aF aA.Name aA.Parts)) (Int.toNat aE) (GEdit.mk aB.Kind aB.ID aB.A aB.B aB.C aB.At aB.Via aB.Name aG))))]⟩ (qp aU <| qa 31 aT <| qa 30 aS <| qp aQ <| qa 23 aP <| qa 22 aO <| qb 16 aM <| qa 15 aL <| qa 13 aI <| q0) [] [none,some [(.blk 5 [[(iv aC.Office),(iv aC.Seq),(iv aC.Time),(sv aC.Source),(.ms 2 aD.length 0 aD.length)]]),(.blk 5 [[(iv 0),(iv 0),(iv 0),(sv (⟨#[]⟩)),(.lit nilS)]]),(.blk 10 (List.map c_GEdit (List.set aD (Int.toNat aE) (GEdit.mk aA.Kind aA.ID aA.A aA.B aA.C aA.At aF aA.Name aA.Parts)))),(.blk 10 [(c_GEdit aA)])],some [(.blk 5 [[(iv aC.Office),(iv aC.Seq),(iv aC.Time),(sv aC.Source),(.ms 2 aD.length 0 aD.length)]]),(.blk 5 [[(iv 0),(iv 0),(iv 0),(sv (⟨#[]⟩)),(.lit nilS)]]),(.blk 10 (List.map c_GEdit (List.set (List.set aD (Int.toNat aE) (GEdit.mk aA.Kind aA.ID aA.A aA.B aA.C aA.At aF aA.Name aA.Parts)) (Int.toNat aE) (GEdit.mk aB.Kind aB.ID aB.A aB.B aB.C aB.At aB.Via aB.Name aG)))),(.blk 10 [(c_GEdit aA)])]] (by exact (clo rfl (clo rfl (clo (clo_blk (c_GEdit_clean 3)) rfl)))) rfl)).trans ((congrArg (fun s => maskR [false,true,true] [false,false,true] true 0 3 (evLoopH (headSt (some lv11) true 0 3) (evC PP (evF PP T n) n 0 L37_0) m s)) aV.symm).trans (f37_L0_2_ok n aC m (List.set (List.set aD (Int.toNat aE) (GEdit.mk aA.Kind aA.ID aA.A aA.B aA.C aA.At aF aA.Name aA.Parts)) (Int.toNat aE) (GEdit.mk aB.Kind aB.ID aB.A aB.B aB.C aB.At aB.Via aB.Name aG)) (IntKind.i64.wrap (aE + 1)) r h))
abbrev hp29 (a2557 : GTxn) (v2634 : (List GEdit)) : Heap:=[(.blk 5 [[(iv a2557.Office),(iv a2557.Seq),(iv a2557.Time),(sv a2557.Source),(.ms 2 v2634.length 0 v2634.length)]]),(.blk 5 [[(iv a2557.Office),(iv a2557.Seq),(iv a2557.Time),(sv a2557.Source),(.ms 2 v2634.length 0 v2634.length)]]),(.blk 10 (List.map c_GEdit v2634))]
def f37 : Nat → GTxn → Option GTxn
 | 0,_ => none
 | n + 1,aA => (bnd (prd n) fun aC => (cnd (List.isEmpty aA.Edits) (bnd (f37_L0 n aA n) fun aD => (some (GTxn.mk aA.Office aA.Seq aA.Time aA.Source []))) (bnd (grd (decide (List.length aA.Edits ≤ 1000000))) fun aE => (bnd (f37_L0_2 n aA n aA.Edits 0) fun aB => (some (GTxn.mk aA.Office aA.Seq aA.Time aA.Source aB))))))
theorem f37_ok (n : Nat) (aA : GTxn) (r : GTxn) (h : f37 n aA = some r) : pv PP T n 37 [(.agg (c_GTxn aA))] = some (.agg (c_GTxn r)):=by
 cases n with
 | zero => cases h
 | succ n =>
  rw [f37] at h
  obtain ⟨aP,aE,h⟩:=bnd_some h
  have aD:=prd_eq aE
  rcases cn h with ⟨aC,aF,h⟩ | ⟨aC,aF,h⟩
  ·have aG : evOp PP (evF PP T n) 0 (.callF 59 [.tmp 0]) [(.sl false (List.map c_GEdit aA.Edits))] (hp25 aA) = some ((.sl false []),(hp25 aA)):=by rw [aD]; exact clone_e (hp25 aA) rfl (by omega) aC
   have aH : cleanQ true 0 2 [(.blk 5 [(c_GTxn (GTxn.mk aA.Office aA.Seq aA.Time aA.Source []))]),(.blk 5 [[(iv 0),(iv 0),(iv 0),(sv (⟨#[]⟩)),(.lit nilS)]])]:=(by exact (clo rfl (clo rfl rfl)))
   obtain ⟨aQ,aI,h⟩:=bnd_some h
   have aJ:=f37_L0_ok n aA n _ aI
   obtain rfl:=si h
   exact pv_q F37 (qp aJ <| qp aH <| qb 7 aG <| q0) [((.exit 0),f37_L0_E0 aA)] [none,none]
  obtain ⟨aR,aK,h⟩:=bnd_some h
  have aL : evOp PP (evF PP T n) 0 (.callF 59 [.tmp 0]) [(.sl false (List.map c_GEdit aA.Edits))] (hp25 aA) = some ((.ms 2 aA.Edits.length 0 aA.Edits.length),(hp26 aA)):=by rw [aD]; exact clone_n (hp25 aA) rfl c_GEdit_len (by omega) (by omega) aC (of_decide_eq_true (grd_some aK))
  have aM : cleanQ true 0 3 [(.blk 5 [[(iv aA.Office),(iv aA.Seq),(iv aA.Time),(sv aA.Source),(.ms 2 aA.Edits.length 0 aA.Edits.length)]]),(.blk 5 [[(iv 0),(iv 0),(iv 0),(sv (⟨#[]⟩)),(.lit nilS)]]),(.blk 10 (List.map c_GEdit aA.Edits))]:=(by exact (clo rfl (clo rfl (clo (clo_blk (c_GEdit_clean 3)) rfl))))
  obtain ⟨aB,aN,h⟩:=bnd_some h
  have aO:=f37_L0_2_ok n aA n aA.Edits 0 _ aN
  obtain rfl:=si h
  refine pv_evF (evF_q F37 (qp aO <| qp aM <| qc 7 aL <| q0) [((.exit 0),f37_L0_2_E0 aA aB)] [none,none] (r:=(.agg [(iv aA.Office),(iv aA.Seq),(iv aA.Time),(sv aA.Source),(.ms 2 aB.length 0 aB.length)])) (H':=(hp29 aA aB))) ?_
  show (AV.agg [(seal1 (hp29 aA aB) 0 (iv aA.Office)),(seal1 (hp29 aA aB) 0 (iv aA.Seq)),(seal1 (hp29 aA aB) 0 (iv aA.Time)),(seal1 (hp29 aA aB) 0 (sv aA.Source)),(seal1 (hp29 aA aB) 0 (.ms 2 aB.length 0 aB.length))]) = _
  rw [seal1_ms (H:=(hp29 aA aB)) (id:=2) (s:=10) (c:=c_GEdit) (l:=aB) rfl (c_GEdit_seal _ _ _)]
  first | done | rfl
abbrev hp30 (a2635 : GOffice) : Heap:=[(.blk 2 [[(iv a2635.ID),(.sl false (List.map c_GTxn a2635.Txns))]]),(.blk 2 [[(iv 0),(.lit nilS)]])]
def f6_L0 (n : Nat) (aC : Int) (aF : ByteArray) (aG : (List GEdit)) (aA : GOffice) : Nat → Int → Bool → Int → Option (Int × Bool)
 | 0,_,_,_ => none
 | m + 1,aD,aH,aB => (cnd (decide (aB < ((aA.Txns.length : Nat) : Int))) (bnd (idx aA.Txns aB) fun aE => (cnd (aE.Office == aA.ID) (cnd (aH) (f6_L0 n aC aF aG aA m (imax aD aE.Seq) true (IntKind.i64.wrap (aB + 1))) (cnd (decide (aE.Time > aC)) (f6_L0 n aC aF aG aA m (imax aD aE.Seq) true (IntKind.i64.wrap (aB + 1))) (f6_L0 n aC aF aG aA m (imax aD aE.Seq) false (IntKind.i64.wrap (aB + 1))))) (f6_L0 n aC aF aG aA m aD aH (IntKind.i64.wrap (aB + 1))))) (some (aD,aH)))
def f6_I23_L0 (n : Nat) (aA : GOffice) (aD : (Int × Bool)) (aE : Int) (aF : ByteArray) (aG : (List GEdit)) : Nat → (List GTxn) → Int → Option (List GTxn)
 | 0,_,_ => none
 | m + 1,aC,aB => (cnd (decide (aB < ((aA.Txns.length : Nat) : Int))) (bnd (idx aA.Txns aB) fun aH => (bnd (f37 n aH) fun aI => (bnd (app aC [aI]) fun aJ => (f6_I23_L0 n aA aD aE aF aG m aJ (IntKind.i64.wrap (aB + 1)))))) (some aC))
def f6_I42_L0 (n : Nat) (aC : (List GTxn)) (aD : GOffice) (aE : (Int × Bool)) (aF : Int) (aG : ByteArray) (aH : (List GEdit)) : Nat → Int → Int → Option Int
 | 0,_,_ => none
 | m + 1,aB,aA => (cnd (decide (aA < aB)) (bnd (idxK aC aC.length (IntKind.i64.wrap (Int.fdiv (IntKind.u64.wrap (IntKind.i64.wrap (aA + aB))) 2))) fun aI => (bnd (f39 n aI (GTxn.mk aD.ID (IntKind.i64.wrap (aE.1 + 1)) aF aG aH)) fun aJ => (cnd (decide (aJ < 0)) (f6_I42_L0 n aC aD aE aF aG aH m aB (IntKind.i64.wrap ((IntKind.i64.wrap (Int.fdiv (IntKind.u64.wrap (IntKind.i64.wrap (aA + aB))) 2)) + 1))) (f6_I42_L0 n aC aD aE aF aG aH m (IntKind.i64.wrap (Int.fdiv (IntKind.u64.wrap (IntKind.i64.wrap (aA + aB))) 2)) aA)))) (some aA))
def f6 : Nat → GOffice → Int → ByteArray → (List GEdit) → Option (GOffice × Int)
 | 0,_,_,_,_ => none
 | n + 1,aA,aB,aC,aD => (bnd (f21 n aA) fun aL => (cnd (aL) (bnd (f6_L0 n aB aC aD aA n 0 false 0) fun aE => (bnd (f22 n (GTxn.mk aA.ID (IntKind.i64.wrap (aE.1 + 1)) aB aC aD)) fun aJ => (cnd (aJ != 0) (some ((GOffice.mk 0 []),aJ)) (cnd (decide (((aA.Txns.length : Nat) : Int) ≥ 256)) (some ((GOffice.mk 0 []),3)) (cnd (aE.2) (some ((GOffice.mk 0 []),10)) (bnd (prd n) fun aK => (bnd (f6_I23_L0 aK aA aE aB aC aD aK [] 0) fun aF => (bnd (prd n) fun aG => (bnd (prd aG) fun aI => (bnd (f6_I42_L0 aI aF aA aE aB aC aD aI ((aF.length : Nat) : Int) 0) fun aH => (cnd (decide (aH < ((aF.length : Nat) : Int))) (bnd (idxK aF aF.length aH) fun aM => (bnd (f39 aI aM (GTxn.mk aA.ID (IntKind.i64.wrap (aE.1 + 1)) aB aC aD)) fun aN => (cnd (aN == 0) (bnd (f37 aG (GTxn.mk aA.ID (IntKind.i64.wrap (aE.1 + 1)) aB aC aD)) fun aO => (bnd (prd aG) fun aU => bnd (insO aF aH aO) fun aP => (some ((GOffice.mk aA.ID aP),0)))) (bnd (f37 aG (GTxn.mk aA.ID (IntKind.i64.wrap (aE.1 + 1)) aB aC aD)) fun aQ => (bnd (prd aG) fun aV => bnd (insO aF aH aQ) fun aR => (some ((GOffice.mk aA.ID aR),0))))))) (bnd (f37 aG (GTxn.mk aA.ID (IntKind.i64.wrap (aE.1 + 1)) aB aC aD)) fun aS => (bnd (prd aG) fun aW => bnd (insO aF aH aS) fun aT => (some ((GOffice.mk aA.ID aT),0))))))))))))))) (some ((GOffice.mk 0 []),19))))
abbrev hp42 : Heap:=[(.blk 1 [[(.lit nilS)]]),(.mp (entL kv_GArr2_Int a_bool ([] : List (GArr2_Int × Bool)))),(.blk 1 [[(.mp 1)]])]
def f16_L0_S (aA : (List GTxn)) (aB : (List (GArr2_Int × Bool))) (aC : Int) : St:=⟨[U,U,(.ptr 0 1 0 0),(.ptr 2 1 0 0),U,U,U,(.sl false (List.map c_GTxn aA)),(iv ((aA.length : Nat) : Int)),(iv aC),U,U,U,U,U,U,U,U,U,U,U,U],[(.blk 1 [[(.lit nilS)]]),(.mp (entL kv_GArr2_Int a_bool aB)),(.blk 1 [[(.mp 1)]])]⟩
theorem f16_L0_c (aA : (List GTxn)) (aB : (List (GArr2_Int × Bool))) (aC : Int) : cleanQ true 0 3 (f16_L0_S aA aB aC).heap:=(by exact (clo rfl (clo (clo_mp (kv:=kv_GArr2_Int) (va:=a_bool) fun _ => rfl) (clo rfl rfl))))
def f16_L0_E0 (aB : (List GTxn)) (aA : (List (GArr2_Int × Bool))) : St:=⟨[U,U,(.ptr 0 1 0 0),(.ptr 2 1 0 0),U,U,U,U,U,U,U,U,U,U,U,U,U,U,U,U,U,U],[(.blk 1 [[(.lit nilS)]]),(.mp (entL kv_GArr2_Int a_bool aA)),(.blk 1 [[(.mp 1)]])]⟩
abbrev hp43 (l2874 : (List (GArr2_Int × Bool))) : Heap:=[(.blk 1 [[(.lit nilS)]]),(.mp (entL kv_GArr2_Int a_bool l2874)),(.blk 1 [[(.mp 1)]])]
abbrev hp44 (l2874 : (List (GArr2_Int × Bool))) (x2886 : GTxn) : Heap:=[(.blk 1 [[(.lit nilS)]]),(.mp (entL kv_GArr2_Int a_bool l2874)),(.blk 1 [[(.mp 1)]]),(.blk 5 [(c_GTxn x2886)])]
abbrev hp45 (l2874 : (List (GArr2_Int × Bool))) (x2886 : GTxn) : Heap:=[(.blk 1 [[(.lit nilS)]]),(.mp (entL kv_GArr2_Int a_bool (mput l2874 (GArr2_Int.mk x2886.Office x2886.Seq) true))),(.blk 1 [[(.mp 1)]]),(.blk 5 [(c_GTxn x2886)])]
def f16_L0 (n : Nat) (aA : (List GTxn)) : Nat → (List (GArr2_Int × Bool)) → Int → Option (List (GArr2_Int × Bool))
 | 0,_,_ => none
 | m + 1,aC,aB => (cnd (decide (aB < ((aA.length : Nat) : Int))) (bnd (idx aA aB) fun aD => (f16_L0 n aA m (mput aC (GArr2_Int.mk aD.Office aD.Seq) true) (IntKind.i64.wrap (aB + 1)))) (some aC))
theorem f16_L0_ok (n : Nat) (aC : (List GTxn)) : ∀ (m : Nat) (aA : (List (GArr2_Int × Bool))) (aD : Int) (r : (List (GArr2_Int × Bool))),f16_L0 n aC m aA aD = some r → maskR [false,false,true,true] [false,false,true] true 0 3 (evLoopH (headSt (some lv19) true 0 3) (evC PP (evF PP T n) n 0 L16_0) m (f16_L0_S aC aA aD)) = some ((.exit 0),f16_L0_E0 aC r)
 | 0,_,_,_,h => by cases h
 | m + 1,aA,aD,r,h => by
  rw [f16_L0] at h
  rcases cn h with ⟨aF,aE,h⟩ | ⟨aF,aE,h⟩
  rotate_left
  ·obtain rfl:=si h
   exact last_q (some lv19) true (f16_L0_E0 aC aA) (qa 10 aE <| q0) [] [] (by exact (clo rfl (clo (clo_mp (kv:=kv_GArr2_Int) (va:=a_bool) fun _ => rfl) (clo rfl rfl))))
  obtain ⟨aB,aG,h⟩:=bnd_some h
  have aH:=idxl (H:=(hp43 aA)) (f:=false) (c:=c_GTxn) aG (c_GTxn_len _)
  have aI:=upd_ok (P:=PP) (cf:=evF PP T n) (fl:=0) (H:=(hp44 aA aB)) (id:=1) (kv:=kv_GArr2_Int) (va:=a_bool) (m:=aA) (k:=(GArr2_Int.mk aB.Office aB.Seq)) (x:=(.agg [(iv aB.Office),(iv aB.Seq)])) key_GArr2_Int true rfl (by omega) rfl
  exact nx_q (f16_L0_S aC (mput aA (GArr2_Int.mk aB.Office aB.Seq) true) (IntKind.i64.wrap (aD + 1))) (qp aI <| qa 11 aH <| qa 10 aE <| q0) [] [none,some (hp45 aA aB)] (f16_L0_c _ _ _) (f16_L0_ok n aC m (mput aA (GArr2_Int.mk aB.Office aB.Seq) true) (IntKind.i64.wrap (aD + 1)) r h)
def f16_I33_L0_S (aB : (List (GArr2_Int × Bool))) (aA : (List Int)) (aC : Int) (aD : Int) : St:=⟨[(.fn 32 [(.ptr 2 1 0 0)]),U,(.ptr 4 1 0 0),(iv aC),(iv aD),U,U,U,U,U,U,U,U,U,U,U,U,U,U,U,U,U,U,U,U,U],[(.blk 1 [[(.lit nilS)]]),(.mp (entL kv_GArr2_Int a_bool aB)),(.blk 1 [[(.mp 1)]]),(.blk 1 (List.map c_i64 aA)),(.blk 1 [[(.ms 3 aA.length 0 aA.length)]])]⟩
def f16_I33_L0_E0 (aB : (List (GArr2_Int × Bool))) (aA : (List Int)) : St:=⟨[U,U,(.ptr 4 1 0 0),U,U,U,U,U,U,U,U,U,U,U,U,U,U,U,U,U,U,U,U,U,U,U],[(.blk 1 [[(.lit nilS)]]),(.mp (entL kv_GArr2_Int a_bool aB)),(.blk 1 [[(.mp 1)]]),(.blk 1 (List.map c_i64 aA)),(.blk 1 [[(.ms 3 aA.length 0 aA.length)]])]⟩
abbrev hp47 (v2894 : (List (GArr2_Int × Bool))) (l2924 : (List Int)) : Heap:=[(.blk 1 [[(.lit nilS)]]),(.mp (entL kv_GArr2_Int a_bool v2894)),(.blk 1 [[(.mp 1)]]),(.blk 1 (List.map c_i64 l2924)),(.blk 1 [[(.ms 3 l2924.length 0 l2924.length)]])]
def f16_I32_L0_S (aB : Int) (aC : (List (GArr2_Int × Bool))) (aA : (List Int)) (aD : Int) : St:=⟨[(iv aB),(.ptr 2 1 0 0),U,U,(iv aD),U,U,U,U,U,U,U,U,U],[(.blk 1 [[(.lit nilS)]]),(.mp (entL kv_GArr2_Int a_bool aC)),(.blk 1 [[(.mp 1)]]),(.blk 1 (List.map c_i64 aA)),(.blk 1 [[(.ms 3 aA.length 0 aA.length)]])]⟩
def f16_I32_L0_E0 (aD : Int) (aB : (List (GArr2_Int × Bool))) (aA : (List Int)) (aC : Int) : St:=⟨[U,U,U,U,(iv aC),U,U,U,U,U,U,U,U,U],[(.blk 1 [[(.lit nilS)]]),(.mp (entL kv_GArr2_Int a_bool aB)),(.blk 1 [[(.mp 1)]]),(.blk 1 (List.map c_i64 aA)),(.blk 1 [[(.ms 3 aA.length 0 aA.length)]])]⟩
def f16_I32_L0 (n : Nat) (aB : Int) (aC : (List (GArr2_Int × Bool))) (aD : (List Int)) : Nat → Int → Option Int
 | 0,_ => none
 | m + 1,aA => (cnd ((Option.getD (mget aC (GArr2_Int.mk aB (IntKind.i64.wrap (aA + 1)))) false)) (f16_I32_L0 n aB aC aD m (IntKind.i64.wrap (aA + 1))) (some aA))
theorem f16_I32_L0_ok (n : Nat) (aA : Int) (aB : (List (GArr2_Int × Bool))) (aD : (List Int)) : ∀ (m : Nat) (aC : Int) (r : Int),f16_I32_L0 n aA aB aD m aC = some r → maskR lv1 [false,false,false,true] false 5 5 (evLoopH (headSt (some lv21) false 5 5) (evC PP (evF PP T n) n 5 L32_0) m (f16_I32_L0_S aA aB aD aC)) = some ((.exit 0),f16_I32_L0_E0 aA aB aD r)
 | 0,_,_,h => by cases h
 | m + 1,aC,r,h => by
  rw [f16_I32_L0] at h
  rcases cn h with ⟨aE,aF,h⟩ | ⟨aE,aF,h⟩
  rotate_left
  ·have aG:=by have q:=look_ok (P:=PP) (cf:=evF PP T n) (fl:=5) (H:=(hp47 aB aD)) (id:=1) (kv:=kv_GArr2_Int) (va:=a_bool) (m:=aB) (k:=(GArr2_Int.mk aA (IntKind.i64.wrap (aC + 1)))) (x:=(.agg [(iv aA),(iv (IntKind.i64.wrap (aC + 1)))])) key_GArr2_Int false rfl rfl; simp only [aE,a_bool] at q; exact q
   obtain rfl:=si h
   exact last_q (some lv21) false (f16_I32_L0_E0 aA aB aD aC) (qb 10 aG <| q0) [] [] trivial
  have aH:=by have q:=look_ok (P:=PP) (cf:=evF PP T n) (fl:=5) (H:=(hp47 aB aD)) (id:=1) (kv:=kv_GArr2_Int) (va:=a_bool) (m:=aB) (k:=(GArr2_Int.mk aA (IntKind.i64.wrap (aC + 1)))) (x:=(.agg [(iv aA),(iv (IntKind.i64.wrap (aC + 1)))])) key_GArr2_Int false rfl rfl; simp only [aE,a_bool] at q; exact q
  exact nx_q (f16_I32_L0_S aA aB aD (IntKind.i64.wrap (aC + 1))) (qb 10 aH <| q0) [] [] trivial (f16_I32_L0_ok n aA aB aD m (IntKind.i64.wrap (aC + 1)) r h)
abbrev hp48 (v2894 : (List (GArr2_Int × Bool))) (l2982 : (List Int)) (l2924 : (List Int)) : Heap:=[(.blk 1 [[(.lit nilS)]]),(.mp (entL kv_GArr2_Int a_bool v2894)),(.blk 1 [[(.mp 1)]]),(.blk 1 (List.map c_i64 l2982)),(.blk 1 [[(.ms 3 l2924.length 0 l2924.length)]])]
def f16_I33_L0 (n : Nat) (aC : (List (GArr2_Int × Bool))) : Nat → (List Int) → Int → Int → Option (List Int)
 | 0,_,_,_ => none
 | m + 1,aA,aD,aB => (cnd (decide (aB ≤ 8)) (bnd (prd n) fun aE => (bnd (f16_I32_L0 aE aB aC aA aE 0) fun aF => (cnd (aF == 0) (f16_I33_L0 n aC m aA (IntKind.i64.wrap (aD + 1)) (IntKind.i64.wrap (aB + 1))) (bnd (appZ aA aD 0) fun aG => (bnd (app aG [aF]) fun aH => (f16_I33_L0 n aC m aH 0 (IntKind.i64.wrap (aB + 1)))))))) (some aA))
theorem f16_I33_L0_ok (n : Nat) (aB : (List (GArr2_Int × Bool))) : ∀ (m : Nat) (aA : (List Int)) (aD : Int) (aC : Int) (r : (List Int)),f16_I33_L0 n aB m aA aD aC = some r → maskR [false,false,true] [false,false,true] false 0 5 (evLoopH (headSt (some lv20) false 0 5) (evC PP (evF PP T n) n 0 L33_0) m (f16_I33_L0_S aB aA aD aC)) = some ((.exit 0),f16_I33_L0_E0 aB r)
 | 0,_,_,_,_,h => by cases h
 | m + 1,aA,aD,aC,r,h => by
  rw [f16_I33_L0] at h
  rcases cn h with ⟨aL,aE,h⟩ | ⟨aL,aE,h⟩
  rotate_left
  ·obtain rfl:=si h
   exact last_q (some lv20) false (f16_I33_L0_E0 aB aA) (qa 7 aE <| q0) [] [] trivial
  obtain ⟨aH,aM,h⟩:=bnd_some h
  have aN:=prd_eq aM
  have aO : cleanQ false 5 5 [(.blk 1 [[(.lit nilS)]]),(.mp (entL kv_GArr2_Int a_bool aB)),(.blk 1 [[(.mp 1)]]),(.blk 1 (List.map c_i64 aA)),(.blk 1 [[(.ms 3 aA.length 0 aA.length)]])]:=trivial
  obtain ⟨aF,aP,h⟩:=bnd_some h
  have aQ:=f16_I32_L0_ok aH aC aB aA aH 0 _ aP
  have aR : evF PP T n 5 32 [(iv aC),(.ptr 2 1 0 0)] (hp47 aB aA) = some ((iv aF),(hp47 aB aA)):=by
   rw [aN]; exact evF_q F32 (qp aQ <| qp aO <| q0) [((.exit 0),f16_I32_L0_E0 aC aB aA aF)] []
  have aI : callA (evF PP T n) 0 true 32 [(iv aC),(.ptr 2 1 0 0)] (hp47 aB aA) = some ((iv aF),(hp47 aB aA)):=callA_np rfl rfl aR rfl
  rcases cn h with ⟨aS,aG,h⟩ | ⟨aS,aG,h⟩
  ·exact nx_q (f16_I33_L0_S aB aA (IntKind.i64.wrap (aD + 1)) (IntKind.i64.wrap (aC + 1))) (qa 14 aG <| qb 12 aI <| qa 7 aE <| q0) [] [] trivial (f16_I33_L0_ok n aB m aA (IntKind.i64.wrap (aD + 1)) (IntKind.i64.wrap (aC + 1)) r h)
  obtain ⟨aJ,aT,h⟩:=bnd_some h
  have aU:=apZ_ms (P:=PP) (cf:=evF PP T n) (fl:=0) (H:=(hp47 aB aA)) (id:=3) (s:=1) (bytes:=8) (c:=c_i64) (l:=aA) (z:=[(.int .i64 0)]) aT rfl c_i64_len rfl (by omega) (by omega) (by omega)
  obtain ⟨aK,aV,h⟩:=bnd_some h
  have aW:=app_ms (fl:=0) (H:=(hp48 aB aJ aA)) (id:=3) (s:=1) (bytes:=8) (c:=c_i64) (l:=aJ) aV rfl c_i64_len (by omega) (by omega) (by omega)
  exact nx_q (f16_I33_L0_S aB aK 0 (IntKind.i64.wrap (aC + 1))) (qc 23 aW <| qc 20 aU <| qa 14 aG <| qb 12 aI <| qa 7 aE <| q0) [] [none] trivial (f16_I33_L0_ok n aB m aK 0 (IntKind.i64.wrap (aC + 1)) r h)
abbrev hp49 (v2992 : (List Int)) (v2894 : (List (GArr2_Int × Bool))) : Heap:=[(.blk 1 [[(.ms 3 v2992.length 0 v2992.length)]]),(.mp (entL kv_GArr2_Int a_bool v2894)),(.blk 1 [[(.mp 1)]]),(.blk 1 (List.map c_i64 v2992)),(.blk 1 [[(.ms 3 v2992.length 0 v2992.length)]])]
def f16 : Nat → (List GTxn) → Option GClock
 | 0,_ => none
 | n + 1,aB => (bnd (f16_L0 n aB n ([] : List (GArr2_Int × Bool)) 0) fun aC => (bnd (prd n) fun aA => (bnd (f16_I33_L0 aA aC aA [] 0 1) fun aD => (some (GClock.mk aD)))))
theorem f16_ok (n : Nat) (aC : (List GTxn)) (r : GClock) (h : f16 n aC = some r) : pv PP T n 16 [(.sl false (List.map c_GTxn aC))] = some (.agg (c_GClock r)):=by
 cases n with
 | zero => cases h
 | succ n =>
  rw [f16] at h
  have aE:=len_sl (P:=PP) (cf:=evF PP T n) (fl:=0) (H:=hp42) (f:=false) (c:=c_GTxn) (l:=aC)
  have aF : cleanQ true 0 3 [(.blk 1 [[(.lit nilS)]]),(.mp (entL kv_GArr2_Int a_bool ([] : List (GArr2_Int × Bool)))),(.blk 1 [[(.mp 1)]])]:=(by exact (clo rfl (clo (clo_mp (kv:=kv_GArr2_Int) (va:=a_bool) fun _ => rfl) (clo rfl rfl))))
  obtain ⟨aB,aG,h⟩:=bnd_some h
  have aH:=f16_L0_ok n aC n ([] : List (GArr2_Int × Bool)) 0 _ aG
  obtain ⟨aD,aI,h⟩:=bnd_some h
  have aJ:=prd_eq aI
  have aK : cleanQ false 0 5 [(.blk 1 [[(.lit nilS)]]),(.mp (entL kv_GArr2_Int a_bool aB)),(.blk 1 [[(.mp 1)]]),(.blk 1 (List.map c_i64 [])),(.blk 1 [[(.ms 3 0 0 0)]])]:=trivial
  obtain ⟨aA,aL,h⟩:=bnd_some h
  have aM:=f16_I33_L0_ok aD aB aD [] 0 1 _ aL
  have aN : evF PP T n 0 33 [(.fn 32 [(.ptr 2 1 0 0)])] (hp43 aB) = some ((.agg [(.ms 3 aA.length 0 aA.length)]),(hp47 aB aA)):=by
   rw [aJ]; exact evF_q F33 (qp aM <| qp aK <| q0) [((.exit 0),f16_I33_L0_E0 aB aA)] [none]
  obtain rfl:=si h
  refine pv_evF (evF_q F16 (qc 21 aN <| qp aH <| qp aF <| qb 8 aE <| q0) [((.exit 0),f16_L0_E0 aC aB)] [none,none] (r:=(.agg [(.ms 3 aA.length 0 aA.length)])) (H':=(hp49 aA aB))) ?_
  show (AV.agg [(seal1 (hp49 aA aB) 0 (.ms 3 aA.length 0 aA.length))]) = _
  rw [seal1_ms (H:=(hp49 aA aB)) (id:=3) (s:=1) (c:=c_i64) (l:=aA) rfl (c_i64_seal _ _ _)]
  first | done | rfl
def f80 : Nat → Int → Int → Option Int
 | 0,_,_ => none
 | n + 1,aA,aB => (cnd (decide (aA < aB)) (some aB) (some aA))
theorem f80_ok (n : Nat) (aB : Int) (aC : Int) (r : Int) (h : f80 n aB aC = some r) : pv PP T n 80 [(iv aB),(iv aC)] = some (iv r):=by
 cases n with
 | zero => cases h
 | succ n =>
  rw [f80] at h
  rcases cn h with ⟨aD,aA,h⟩ | ⟨aD,aA,h⟩
  ·obtain rfl:=si h
   exact pv_q F80 (qa 7 aA <| q0) [] []
  obtain rfl:=si h
  exact pv_q F80 (qa 7 aA <| q0) [] []
abbrev hp50 (a2999 : GClock) : Heap:=[(.blk 1 [[(.sl false (List.map c_i64 a2999.Counts))]])]
def f56 : Nat → GClock → Int → Option Int
 | 0,_,_ => none
 | n + 1,aB,aA => (cnd (decide (aA < 1)) (some 0) (cnd (decide (aA > 8)) (some 0) (cnd (decide (aA > ((aB.Counts.length : Nat) : Int))) (some 0) (bnd (idx aB.Counts (IntKind.i64.wrap (aA - 1))) fun aC => (bnd (f80 n aC 0) fun aD => (some aD))))))
theorem f56_ok (n : Nat) (aA : GClock) (aE : Int) (r : Int) (h : f56 n aA aE = some r) : pv PP T n 56 [(.agg (c_GClock aA)),(iv aE)] = some (iv r):=by
 cases n with
 | zero => cases h
 | succ n =>
  rw [f56] at h
  rcases cn h with ⟨aG,aB,h⟩ | ⟨aG,aB,h⟩
  ·obtain rfl:=si h
   exact pv_q F56 (qa 6 aB <| q0) [] []
  rcases cn h with ⟨aH,aC,h⟩ | ⟨aH,aC,h⟩
  ·obtain rfl:=si h
   exact pv_q F56 (qa 9 aC <| qa 6 aB <| q0) [] []
  have aF:=len_sl (P:=PP) (cf:=evF PP T n) (fl:=0) (H:=(hp50 aA)) (f:=false) (c:=c_i64) (l:=aA.Counts)
  rcases cn h with ⟨aI,aD,h⟩ | ⟨aI,aD,h⟩
  ·obtain rfl:=si h
   exact pv_q F56 (qa 16 aD <| qb 15 aF <| qa 9 aC <| qa 6 aB <| q0) [] []
  obtain ⟨aJ,aK,h⟩:=bnd_some h
  have aL:=idxl (H:=(hp50 aA)) (f:=false) (c:=c_i64) aK (c_i64_len _)
  obtain ⟨aO,aM,h⟩:=bnd_some h
  have aN:=f80_ok n aJ 0 _ aM
  obtain rfl:=si h
  exact pv_q F56 (qa 24 aN <| qa 22 aL <| qa 16 aD <| qb 15 aF <| qa 9 aC <| qa 6 aB <| q0) [] []
def f35 : Nat → GClock → Int → Int → Option Bool
 | 0,_,_,_ => none
 | n + 1,aB,aC,aA => (cnd (decide (1 ≤ aA)) (bnd (f56 n aB aC) fun aD => (cnd (decide (aA ≤ aD)) (some true) (some false))) (some false))
theorem f35_ok (n : Nat) (aB : GClock) (aC : Int) (aE : Int) (r : Bool) (h : f35 n aB aC aE = some r) : pv PP T n 35 [(.agg (c_GClock aB)),(iv aC),(iv aE)] = some (bv r):=by
 cases n with
 | zero => cases h
 | succ n =>
  rw [f35] at h
  rcases cn h with ⟨aG,aA,h⟩ | ⟨aG,aA,h⟩
  rotate_left
  ·obtain rfl:=si h
   exact pv_q F35 (qa 8 aA <| q0) [] []
  obtain ⟨aJ,aH,h⟩:=bnd_some h
  have aF:=f56_ok n aB aC _ aH
  rcases cn h with ⟨aI,aD,h⟩ | ⟨aI,aD,h⟩
  ·obtain rfl:=si h
   exact pv_q F35 (qa 14 aD <| qa 13 aF <| qa 8 aA <| q0) [] []
  obtain rfl:=si h
  exact pv_q F35 (qa 14 aD <| qa 13 aF <| qa 8 aA <| q0) [] []
abbrev hp51 (l3032 : (List GPoint)) : Heap:=[(.blk 2 (List.map c_GPoint [])),(.blk 2 (List.map c_GPoint l3032))]
def f51 : Nat → (List GPoint) → Option (List GPoint)
 | 0,_ => none
 | n + 1,aA => (cnd (List.isEmpty aA) (some []) (bnd (app ([] : (List GPoint)) aA) fun aB => (some aB)))
theorem f51_ok (n : Nat) (aC : (List GPoint)) (r : (List GPoint)) (h : f51 n aC = some r) : pv PP T n 51 [(.sl false (List.map c_GPoint aC))] = some (.sl false (List.map c_GPoint r)):=by
 cases n with
 | zero => cases h
 | succ n =>
  rw [f51] at h
  rcases cn h with ⟨aB,aD,h⟩ | ⟨aB,aD,h⟩
  ·have aE:=app_e (fl:=0) (H:=[(.blk 2 (List.map c_GPoint []))]) (s:=2) (bytes:=16) (c:=c_GPoint) (x:=(.lit nilS)) aB c_GPoint_len (by omega) (.inl rfl)
   obtain rfl:=si h
   exact pv_q F51 (qb 4 aE <| q0) [] []
  obtain ⟨aA,aF,h⟩:=bnd_some h
  have aG:=app_n (fl:=0) (H:=[(.blk 2 (List.map c_GPoint []))]) (s:=2) (bytes:=16) (c:=c_GPoint) (x:=(.lit nilS)) aF aB c_GPoint_len (by omega) (by omega) (.inl rfl)
  obtain rfl:=si h
  refine pv_evF (evF_q F51 (qc 4 aG <| q0) [] [] (r:=(.ms 1 aA.length 0 aA.length)) (H':=(hp51 aA))) ?_
  show (seal1 (hp51 aA) 0 (.ms 1 aA.length 0 aA.length)) = _
  rw [seal1_ms (H:=(hp51 aA)) (id:=1) (s:=2) (c:=c_GPoint) (l:=aA) rfl (c_GPoint_seal _ _ _)]
  first | done | rfl
abbrev hp52 (l3038 : (List Int)) : Heap:=[(.blk 1 (List.map c_i64 [])),(.blk 1 (List.map c_i64 l3038))]
def f52 : Nat → (List Int) → Option (List Int)
 | 0,_ => none
 | n + 1,aA => (cnd (List.isEmpty aA) (some []) (bnd (app ([] : (List Int)) aA) fun aB => (some aB)))
theorem f52_ok (n : Nat) (aC : (List Int)) (r : (List Int)) (h : f52 n aC = some r) : pv PP T n 52 [(.sl false (List.map c_i64 aC))] = some (.sl false (List.map c_i64 r)):=by
 cases n with
 | zero => cases h
 | succ n =>
  rw [f52] at h
  rcases cn h with ⟨aB,aD,h⟩ | ⟨aB,aD,h⟩
  ·have aE:=app_e (fl:=0) (H:=[(.blk 1 (List.map c_i64 []))]) (s:=1) (bytes:=8) (c:=c_i64) (x:=(.lit nilS)) aB c_i64_len (by omega) (.inl rfl)
   obtain rfl:=si h
   exact pv_q F52 (qb 4 aE <| q0) [] []
  obtain ⟨aA,aF,h⟩:=bnd_some h
  have aG:=app_n (fl:=0) (H:=[(.blk 1 (List.map c_i64 []))]) (s:=1) (bytes:=8) (c:=c_i64) (x:=(.lit nilS)) aF aB c_i64_len (by omega) (by omega) (.inl rfl)
  obtain rfl:=si h
  refine pv_evF (evF_q F52 (qc 4 aG <| q0) [] [] (r:=(.ms 1 aA.length 0 aA.length)) (H':=(hp52 aA))) ?_
  show (seal1 (hp52 aA) 0 (.ms 1 aA.length 0 aA.length)) = _
  rw [seal1_ms (H:=(hp52 aA)) (id:=1) (s:=1) (c:=c_i64) (l:=aA) rfl (c_i64_seal _ _ _)]
  first | done | rfl
abbrev hp62 (a3302 : GOffice) (a3303 : GClock) : Heap:=[(.blk 2 [[(iv a3302.ID),(.sl false (List.map c_GTxn a3302.Txns))]]),(.blk 1 [[(.sl false (List.map c_i64 a3303.Counts))]])]
abbrev hp63 (a3302 : GOffice) (a3303 : GClock) : Heap:=[(.blk 2 [[(iv a3302.ID),(.sl false (List.map c_GTxn a3302.Txns))]]),(.blk 1 [[(.sl false (List.map c_i64 a3303.Counts))]]),(.blk 1 [[(.sl false (List.map c_i64 a3303.Counts))]]),(.blk 5 (List.map c_GTxn []))]
def f13_I30_L0_S (aA : GOffice) (aC : GClock) (aB : (List GTxn)) (aD : Int) : St:=⟨[U,U,(.ptr 2 1 0 0),U,(.ms 3 aB.length 0 aB.length),U,U,U,U,(.sl false (List.map c_GTxn aA.Txns)),(iv ((aA.Txns.length : Nat) : Int)),(iv aD),U,U,U,U,U,U,U,U,U,U,U,U,U,U,U,U,U,U,U,U,U,U,U,U,U,U,U,U,U,U,U,U,U,U,U,U,U,U,U,U,U,U,U,U],[(.blk 2 [[(iv aA.ID),(.sl false (List.map c_GTxn aA.Txns))]]),(.blk 1 [[(.sl false (List.map c_i64 aC.Counts))]]),(.blk 1 [[(.sl false (List.map c_i64 aC.Counts))]]),(.blk 5 (List.map c_GTxn aB))]⟩
theorem f13_I30_L0_c (aA : GOffice) (aB : GClock) (aC : (List GTxn)) (aD : Int) : cleanQ true 0 4 (f13_I30_L0_S aA aB aC aD).heap:=(by exact (clo rfl (clo rfl (clo rfl (clo (clo_blk (c_GTxn_clean 4)) rfl)))))
def f13_I30_L0_E0 (aB : GOffice) (aC : GClock) (aA : (List GTxn)) : St:=⟨[U,U,U,U,(.ms 3 aA.length 0 aA.length),U,U,U,U,U,U,U,U,U,U,U,U,U,U,U,U,U,U,U,U,U,U,U,U,U,U,U,U,U,U,U,U,U,U,U,U,U,U,U,U,U,U,U,U,U,U,U,U,U,U,U],[(.blk 2 [[(iv aB.ID),(.sl false (List.map c_GTxn aB.Txns))]]),(.blk 1 [[(.sl false (List.map c_i64 aC.Counts))]]),(.blk 1 [[(.sl false (List.map c_i64 aC.Counts))]]),(.blk 5 (List.map c_GTxn aA))]⟩
abbrev hp64 (a3302 : GOffice) (a3303 : GClock) (l3385 : (List GTxn)) : Heap:=[(.blk 2 [[(iv a3302.ID),(.sl false (List.map c_GTxn a3302.Txns))]]),(.blk 1 [[(.sl false (List.map c_i64 a3303.Counts))]]),(.blk 1 [[(.sl false (List.map c_i64 a3303.Counts))]]),(.blk 5 (List.map c_GTxn l3385))]
abbrev hp65 (a3302 : GOffice) (a3303 : GClock) (l3385 : (List GTxn)) (x3467 : GTxn) : Heap:=[(.blk 2 [[(iv a3302.ID),(.sl false (List.map c_GTxn a3302.Txns))]]),(.blk 1 [[(.sl false (List.map c_i64 a3303.Counts))]]),(.blk 1 [[(.sl false (List.map c_i64 a3303.Counts))]]),(.blk 5 (List.map c_GTxn l3385)),(.blk 5 [(c_GTxn x3467)])]
abbrev hp66 (a3302 : GOffice) (a3303 : GClock) (l3385 : (List GTxn)) (x3467 : GTxn) : Heap:=[(.blk 2 [[(iv a3302.ID),(.sl false (List.map c_GTxn a3302.Txns))]]),(.blk 1 [[(.sl false (List.map c_i64 a3303.Counts))]]),(.blk 1 [[(.sl false (List.map c_i64 a3303.Counts))]]),(.blk 5 (List.map c_GTxn l3385)),(.blk 5 [(c_GTxn x3467)]),(.blk 10 (List.map c_GEdit []))]
def f13_I30_L1_S (aC : (List GTxn)) (aA : GOffice) (aE : Int) (aD : GClock) (aB : GTxn) : St:=⟨[U,U,(.ptr 2 1 0 0),U,(.ms 3 aC.length 0 aC.length),U,(.ptr 4 1 0 0),U,U,(.sl false (List.map c_GTxn aA.Txns)),(iv ((aA.Txns.length : Nat) : Int)),(iv aE),U,U,U,U,U,U,U,U,U,U,U,U,U,U,(.lit nilS),(iv 0),(iv 0),U,U,U,U,U,U,U,U,U,U,U,U,U,U,U,U,U,U,U,U,U,U,U,U,U,U,U],[(.blk 2 [[(iv aA.ID),(.sl false (List.map c_GTxn aA.Txns))]]),(.blk 1 [[(.sl false (List.map c_i64 aD.Counts))]]),(.blk 1 [[(.sl false (List.map c_i64 aD.Counts))]]),(.blk 5 (List.map c_GTxn aC)),(.blk 5 [[(iv aB.Office),(iv aB.Seq),(iv aB.Time),(sv aB.Source),(.lit nilS)]]),(.blk 10 (List.map c_GEdit []))]⟩
def f13_I30_L1_E0 (aC : (List GTxn)) (aA : GOffice) (aE : Int) (aD : GClock) (aB : GTxn) : St:=⟨[U,U,(.ptr 2 1 0 0),U,(.ms 3 aC.length 0 aC.length),U,(.ptr 4 1 0 0),U,U,(.sl false (List.map c_GTxn aA.Txns)),(iv ((aA.Txns.length : Nat) : Int)),(iv aE),U,U,U,U,U,U,U,U,U,U,U,U,U,U,U,U,U,U,U,U,U,U,U,U,U,U,U,U,U,U,U,U,U,U,U,U,U,U,U,U,U,U,U,U],[(.blk 2 [[(iv aA.ID),(.sl false (List.map c_GTxn aA.Txns))]]),(.blk 1 [[(.sl false (List.map c_i64 aD.Counts))]]),(.blk 1 [[(.sl false (List.map c_i64 aD.Counts))]]),(.blk 5 (List.map c_GTxn aC)),(.blk 5 [[(iv aB.Office),(iv aB.Seq),(iv aB.Time),(sv aB.Source),(.lit nilS)]]),(.blk 10 (List.map c_GEdit []))]⟩
def f13_I30_L1 (n : Nat) (aA : (List GTxn)) (aB : GOffice) (aC : Int) (aD : GClock) (aE : GTxn) : Nat → Option Unit
 | 0 => none
 | m + 1 => (some ())
theorem f13_I30_L1_ok (n : Nat) (aA : (List GTxn)) (aB : GOffice) (aC : Int) (aD : GClock) (aE : GTxn) : ∀ (m : Nat) (r : Unit),f13_I30_L1 n aA aB aC aD aE m = some r → maskR lv24 lv1 true 0 6 (evLoopH (headSt (some lv23) true 0 6) (evC PP (evF PP T n) n 0 L30_1) m (f13_I30_L1_S aA aB aC aD aE)) = some ((.exit 2),f13_I30_L1_E0 aA aB aC aD aE)
 | 0,_,h => by cases h
 | m + 1,r,h => by
  rw [f13_I30_L1] at h
  obtain rfl:=si h
  exact last_q (some lv23) true (f13_I30_L1_E0 aA aB aC aD aE) q0 [] [] (by exact (clo rfl (clo rfl (clo rfl (clo (clo_blk (c_GTxn_clean 6)) (clo rfl (clo (clo_blk (c_GEdit_clean 6)) rfl)))))))
abbrev hp67 (a3302 : GOffice) (a3303 : GClock) (l3385 : (List GTxn)) (x3467 : GTxn) : Heap:=[(.blk 2 [[(iv a3302.ID),(.sl false (List.map c_GTxn a3302.Txns))]]),(.blk 1 [[(.sl false (List.map c_i64 a3303.Counts))]]),(.blk 1 [[(.sl false (List.map c_i64 a3303.Counts))]]),(.blk 5 (List.map c_GTxn l3385)),(.blk 5 [[(iv x3467.Office),(iv x3467.Seq),(iv x3467.Time),(sv x3467.Source),(.lit nilS)]]),(.blk 10 (List.map c_GEdit []))]
abbrev hp68 (a3302 : GOffice) (a3303 : GClock) (l3385 : (List GTxn)) (x3467 : GTxn) (l3488 : (List GEdit)) : Heap:=[(.blk 2 [[(iv a3302.ID),(.sl false (List.map c_GTxn a3302.Txns))]]),(.blk 1 [[(.sl false (List.map c_i64 a3303.Counts))]]),(.blk 1 [[(.sl false (List.map c_i64 a3303.Counts))]]),(.blk 5 (List.map c_GTxn l3385)),(.blk 5 [(c_GTxn x3467)]),(.blk 10 (List.map c_GEdit [])),(.blk 10 (List.map c_GEdit l3488))]
def f13_I30_L1_2_S (aD : (List GTxn)) (aB : GOffice) (aF : Int) (aG : (List GEdit)) (aE : GClock) (aC : GTxn) (aA : (List GEdit)) (aH : Int) : St:=⟨[U,U,(.ptr 2 1 0 0),U,(.ms 3 aD.length 0 aD.length),U,(.ptr 4 1 0 0),U,U,(.sl false (List.map c_GTxn aB.Txns)),(iv ((aB.Txns.length : Nat) : Int)),(iv aF),U,U,U,U,U,U,U,U,U,U,U,U,U,U,(.ms 6 aA.length 0 aA.length),(iv ((aG.length : Nat) : Int)),(iv aH),U,U,U,U,U,U,U,U,U,U,U,U,U,U,U,U,U,U,U,U,U,U,U,U,U,U,U],[(.blk 2 [[(iv aB.ID),(.sl false (List.map c_GTxn aB.Txns))]]),(.blk 1 [[(.sl false (List.map c_i64 aE.Counts))]]),(.blk 1 [[(.sl false (List.map c_i64 aE.Counts))]]),(.blk 5 (List.map c_GTxn aD)),(.blk 5 [[(iv aC.Office),(iv aC.Seq),(iv aC.Time),(sv aC.Source),(.ms 6 aA.length 0 aA.length)]]),(.blk 10 (List.map c_GEdit [])),(.blk 10 (List.map c_GEdit aA))]⟩
def f13_I30_L1_2_E0 (aC : (List GTxn)) (aA : GOffice) (aF : Int) (aG : (List GEdit)) (aE : GClock) (aB : GTxn) (aD : (List GEdit)) : St:=⟨[U,U,(.ptr 2 1 0 0),U,(.ms 3 aC.length 0 aC.length),U,(.ptr 4 1 0 0),U,U,(.sl false (List.map c_GTxn aA.Txns)),(iv ((aA.Txns.length : Nat) : Int)),(iv aF),U,U,U,U,U,U,U,U,U,U,U,U,U,U,U,U,U,U,U,U,U,U,U,U,U,U,U,U,U,U,U,U,U,U,U,U,U,U,U,U,U,U,U,U],[(.blk 2 [[(iv aA.ID),(.sl false (List.map c_GTxn aA.Txns))]]),(.blk 1 [[(.sl false (List.map c_i64 aE.Counts))]]),(.blk 1 [[(.sl false (List.map c_i64 aE.Counts))]]),(.blk 5 (List.map c_GTxn aC)),(.blk 5 [[(iv aB.Office),(iv aB.Seq),(iv aB.Time),(sv aB.Source),(.ms 6 aD.length 0 aD.length)]]),(.blk 10 (List.map c_GEdit [])),(.blk 10 (List.map c_GEdit aD))]⟩
abbrev hp69 (a3302 : GOffice) (a3303 : GClock) (l3385 : (List GTxn)) (x3467 : GTxn) (l3511 : (List GEdit)) : Heap:=[(.blk 2 [[(iv a3302.ID),(.sl false (List.map c_GTxn a3302.Txns))]]),(.blk 1 [[(.sl false (List.map c_i64 a3303.Counts))]]),(.blk 1 [[(.sl false (List.map c_i64 a3303.Counts))]]),(.blk 5 (List.map c_GTxn l3385)),(.blk 5 [[(iv x3467.Office),(iv x3467.Seq),(iv x3467.Time),(sv x3467.Source),(.ms 6 l3511.length 0 l3511.length)]]),(.blk 10 (List.map c_GEdit [])),(.blk 10 (List.map c_GEdit l3511))]
abbrev hp70 (a3302 : GOffice) (a3303 : GClock) (l3385 : (List GTxn)) (x3467 : GTxn) (l3511 : (List GEdit)) (x3535 : GEdit) : Heap:=[(.blk 2 [[(iv a3302.ID),(.sl false (List.map c_GTxn a3302.Txns))]]),(.blk 1 [[(.sl false (List.map c_i64 a3303.Counts))]]),(.blk 1 [[(.sl false (List.map c_i64 a3303.Counts))]]),(.blk 5 (List.map c_GTxn l3385)),(.blk 5 [[(iv x3467.Office),(iv x3467.Seq),(iv x3467.Time),(sv x3467.Source),(.ms 6 l3511.length 0 l3511.length)]]),(.blk 10 (List.map c_GEdit [])),(.blk 10 (List.map c_GEdit l3511)),(.blk 10 [(c_GEdit x3535)])]
def f13_I30_L1_2 (n : Nat) (aG : (List GTxn)) (aH : GOffice) (aI : Int) (aE : (List GEdit)) (aJ : GClock) (aK : GTxn) : Nat → (List GEdit) → Int → Option (List GEdit)
 | 0,_,_ => none
 | m + 1,aD,aC => (cnd (decide (aC < ((aE.length : Nat) : Int))) (bnd (idxK aD aD.length aC) fun aA => (bnd (f51 n aA.Via) fun aF => (bnd (f52 n aA.Parts) fun aL => (bnd (idxK (List.set aD (Int.toNat aC) (GEdit.mk aA.Kind aA.ID aA.A aA.B aA.C aA.At aF aA.Name aA.Parts)) aD.length aC) fun aB => (f13_I30_L1_2 n aG aH aI aE aJ aK m (List.set (List.set aD (Int.toNat aC) (GEdit.mk aA.Kind aA.ID aA.A aA.B aA.C aA.At aF aA.Name aA.Parts)) (Int.toNat aC) (GEdit.mk aB.Kind aB.ID aB.A aB.B aB.C aB.At aB.Via aB.Name aL)) (IntKind.i64.wrap (aC + 1))))))) (some aD))
theorem f13_I30_L1_2_ok (n : Nat) (aG : (List GTxn)) (aE : GOffice) (aJ : Int) (aK : (List GEdit)) (aF : GClock) (aC : GTxn) : ∀ (m : Nat) (aD : (List GEdit)) (aH : Int) (r : (List GEdit)),f13_I30_L1_2 n aG aE aJ aK aF aC m aD aH = some r → maskR lv24 lv1 true 0 7 (evLoopH (headSt (some lv23) true 0 7) (evC PP (evF PP T n) n 0 L30_1) m (f13_I30_L1_2_S aG aE aJ aK aF aC aD aH)) = some ((.exit 2),f13_I30_L1_2_E0 aG aE aJ aK aF aC r)
 | 0,_,_,_,h => by cases h
 | m + 1,aD,aH,r,h => by
  rw [f13_I30_L1_2] at h
  rcases cn h with ⟨aP,aN,h⟩ | ⟨aP,aN,h⟩
  rotate_left
  ·obtain rfl:=si h
   exact last_q (some lv23) true (f13_I30_L1_2_E0 aG aE aJ aK aF aC aD) (qa 29 aN <| q0) [] [] (by exact (clo rfl (clo rfl (clo rfl (clo (clo_blk (c_GTxn_clean 7)) (clo rfl (clo (clo_blk (c_GEdit_clean 7)) (clo (clo_blk (c_GEdit_clean 7)) rfl))))))))
  obtain ⟨aA,aM,h⟩:=bnd_some h
  have aQ:=idx_ms (H:=(hp69 aE aF aG aC aD)) (id:=6) (s:=10) (c:=c_GEdit) aM rfl
  have aR:=ld_ms (P:=PP) (cf:=evF PP T n) (fl:=0) (H:=(hp69 aE aF aG aC aD)) (id:=6) (c:=c_GEdit) (off:=0) (n:=10) (agg:=true) (v:=(.agg [(iv aA.Kind),(iv aA.ID),(iv aA.A),(iv aA.B),(iv aA.C),(iv aA.At.X),(iv aA.At.Y),(.sl false (List.map c_GPoint aA.Via)),(sv aA.Name),(.sl false (List.map c_i64 aA.Parts))])) aM rfl (by simp [c_GEdit_len]) rfl
  obtain ⟨aI,aS,h⟩:=bnd_some h
  have aT:=f51_ok n aA.Via _ aS
  have aU:=idx_ms (H:=(hp70 aE aF aG aC aD aA)) (id:=6) (s:=10) (c:=c_GEdit) aM rfl
  have aV:=st_ms (P:=PP) (cf:=evF PP T n) (fl:=0) (H:=(hp70 aE aF aG aC aD aA)) (id:=6) (s:=10) (c:=c_GEdit) (x':=(GEdit.mk aA.Kind aA.ID aA.A aA.B aA.C aA.At aI aA.Name aA.Parts)) (off:=7) (n:=1) (v:=(.sl false (List.map c_GPoint aI))) (cs:=[(.sl false (List.map c_GPoint aI))]) aM rfl (by omega) rfl rfl (by constructor <;> simp [c_GEdit_len]) rfl
  obtain ⟨aL,aW,h⟩:=bnd_some h
  have aX:=f52_ok n aA.Parts _ aW
  obtain ⟨aB,aO,h⟩:=bnd_some h
  have aY:=idx_msT (tot:=aD.length) (by simp) (H:=[(.blk 2 [[(iv aE.ID),(.sl false (List.map c_GTxn aE.Txns))]]),(.blk 1 [[(.sl false (List.map c_i64 aF.Counts))]]),(.blk 1 [[(.sl false (List.map c_i64 aF.Counts))]]),(.blk 5 (List.map c_GTxn aG)),(.blk 5 [[(iv aC.Office),(iv aC.Seq),(iv aC.Time),(sv aC.Source),(.ms 6 aD.length 0 aD.length)]]),(.blk 10 (List.map c_GEdit [])),(.blk 10 (List.map c_GEdit (List.set aD (Int.toNat aH) (GEdit.mk aA.Kind aA.ID aA.A aA.B aA.C aA.At aI aA.Name aA.Parts)))),(.blk 10 [(c_GEdit aA)])]) (id:=6) (s:=10) (c:=c_GEdit) aO rfl
  have aZ:=st_msT (tot:=aD.length) (by simp) (P:=PP) (cf:=evF PP T n) (fl:=0) (H:=[(.blk 2 [[(iv aE.ID),(.sl false (List.map c_GTxn aE.Txns))]]),(.blk 1 [[(.sl false (List.map c_i64 aF.Counts))]]),(.blk 1 [[(.sl false (List.map c_i64 aF.Counts))]]),(.blk 5 (List.map c_GTxn aG)),(.blk 5 [[(iv aC.Office),(iv aC.Seq),(iv aC.Time),(sv aC.Source),(.ms 6 aD.length 0 aD.length)]]),(.blk 10 (List.map c_GEdit [])),(.blk 10 (List.map c_GEdit (List.set aD (Int.toNat aH) (GEdit.mk aA.Kind aA.ID aA.A aA.B aA.C aA.At aI aA.Name aA.Parts)))),(.blk 10 [(c_GEdit aA)])]) (id:=6) (s:=10) (c:=c_GEdit) (x':=(GEdit.mk aB.Kind aB.ID aB.A aB.B aB.C aB.At aB.Via aB.Name aL)) (off:=9) (n:=1) (v:=(.sl false (List.map c_i64 aL))) (cs:=[(.sl false (List.map c_i64 aL))]) aO rfl (by omega) rfl rfl (by constructor <;> simp [c_GEdit_len]) rfl
  have aa : f13_I30_L1_2_S aG aE aJ aK aF aC (List.set (List.set aD (Int.toNat aH) (GEdit.mk aA.Kind aA.ID aA.A aA.B aA.C aA.At aI aA.Name aA.Parts)) (Int.toNat aH) (GEdit.mk aB.Kind aB.ID aB.A aB.B aB.C aB.At aB.Via aB.Name aL)) (IntKind.i64.wrap (aH + 1)) = ⟨[U,U,(.ptr 2 1 0 0),U,(.ms 3 aG.length 0 aG.length),U,(.ptr 4 1 0 0),U,U,(.sl false (List.map c_GTxn aE.Txns)),(iv ((aE.Txns.length : Nat) : Int)),(iv aJ),U,U,U,U,U,U,U,U,U,U,U,U,U,U,(.ms 6 aD.length 0 aD.length),(iv ((aK.length : Nat) : Int)),(iv (IntKind.i64.wrap (aH + 1))),U,U,U,U,U,U,U,U,U,U,U,U,U,U,U,U,U,U,U,U,U,U,U,U,U,U,U],[(.blk 2 [[(iv aE.ID),(.sl false (List.map c_GTxn aE.Txns))]]),(.blk 1 [[(.sl false (List.map c_i64 aF.Counts))]]),(.blk 1 [[(.sl false (List.map c_i64 aF.Counts))]]),(.blk 5 (List.map c_GTxn aG)),(.blk 5 [[(iv aC.Office),(iv aC.Seq),(iv aC.Time),(sv aC.Source),(.ms 6 aD.length 0 aD.length)]]),(.blk 10 (List.map c_GEdit [])),(.blk 10 (List.map c_GEdit (List.set (List.set aD (Int.toNat aH) (GEdit.mk aA.Kind aA.ID aA.A aA.B aA.C aA.At aI aA.Name aA.Parts)) (Int.toNat aH) (GEdit.mk aB.Kind aB.ID aB.A aB.B aB.C aB.At aB.Via aB.Name aL))))]⟩:=by simp [f13_I30_L1_2_S]
  exact (congrArg (maskR lv24 lv1 true 0 7) (next_q (some lv23) true ⟨[U,U,(.ptr 2 1 0 0),U,(.ms 3 aG.length 0 aG.length),U,(.ptr 4 1 0 0),U,U,(.sl false (List.map c_GTxn aE.Txns)),(iv ((aE.Txns.length : Nat) : Int)),(iv aJ),U,U,U,U,U,U,U,U,U,U,U,U,U,U,(.ms 6 aD.length 0 aD.length),(iv ((aK.length : Nat) : Int)),(iv (IntKind.i64.wrap (aH + 1))),U,U,U,U,U,U,U,U,U,U,U,U,U,U,U,U,U,U,U,U,U,U,U,U,U,U,U],[(.blk 2 [[(iv aE.ID),(.sl false (List.map c_GTxn aE.Txns))]]),(.blk 1 [[(.sl false (List.map c_i64 aF.Counts))]]),(.blk 1 [[(.sl false (List.map c_i64 aF.Counts))]]),(.blk 5 (List.map c_GTxn aG)),(.blk 5 [[(iv aC.Office),(iv aC.Seq),(iv aC.Time),(sv aC.Source),(.ms 6 aD.length 0 aD.length)]]),(.blk 10 (List.map c_GEdit [])),(.blk 10 (List.map c_GEdit (List.set (List.set aD (Int.toNat aH) (GEdit.mk aA.Kind aA.ID aA.A aA.B aA.C aA.At aI aA.Name aA.Parts)) (Int.toNat aH) (GEdit.mk aB.Kind aB.ID aB.A aB.B aB.C aB.At aB.Via aB.Name aL))))]⟩ (qp aZ <| qa 47 aY <| qa 46 aX <| qp aV <| qa 39 aU <| qa 38 aT <| qb 32 aR <| qa 31 aQ <| qa 29 aN <| q0) [] [none,some [(.blk 2 [[(iv aE.ID),(.sl false (List.map c_GTxn aE.Txns))]]),(.blk 1 [[(.sl false (List.map c_i64 aF.Counts))]]),(.blk 1 [[(.sl false (List.map c_i64 aF.Counts))]]),(.blk 5 (List.map c_GTxn aG)),(.blk 5 [[(iv aC.Office),(iv aC.Seq),(iv aC.Time),(sv aC.Source),(.ms 6 aD.length 0 aD.length)]]),(.blk 10 (List.map c_GEdit [])),(.blk 10 (List.map c_GEdit (List.set aD (Int.toNat aH) (GEdit.mk aA.Kind aA.ID aA.A aA.B aA.C aA.At aI aA.Name aA.Parts)))),(.blk 10 [(c_GEdit aA)])],some [(.blk 2 [[(iv aE.ID),(.sl false (List.map c_GTxn aE.Txns))]]),(.blk 1 [[(.sl false (List.map c_i64 aF.Counts))]]),(.blk 1 [[(.sl false (List.map c_i64 aF.Counts))]]),(.blk 5 (List.map c_GTxn aG)),(.blk 5 [[(iv aC.Office),(iv aC.Seq),(iv aC.Time),(sv aC.Source),(.ms 6 aD.length 0 aD.length)]]),(.blk 10 (List.map c_GEdit [])),(.blk 10 (List.map c_GEdit (List.set (List.set aD (Int.toNat aH) (GEdit.mk aA.Kind aA.ID aA.A aA.B aA.C aA.At aI aA.Name aA.Parts)) (Int.toNat aH) (GEdit.mk aB.Kind aB.ID aB.A aB.B aB.C aB.At aB.Via aB.Name aL)))),(.blk 10 [(c_GEdit aA)])]] (by exact (clo rfl (clo rfl (clo rfl (clo (clo_blk (c_GTxn_clean 7)) (clo rfl (clo (clo_blk (c_GEdit_clean 7)) (clo (clo_blk (c_GEdit_clean 7)) rfl)))))))) rfl)).trans ((congrArg (fun s => maskR lv24 lv1 true 0 7 (evLoopH (headSt (some lv23) true 0 7) (evC PP (evF PP T n) n 0 L30_1) m s)) aa.symm).trans (f13_I30_L1_2_ok n aG aE aJ aK aF aC m (List.set (List.set aD (Int.toNat aH) (GEdit.mk aA.Kind aA.ID aA.A aA.B aA.C aA.At aI aA.Name aA.Parts)) (Int.toNat aH) (GEdit.mk aB.Kind aB.ID aB.A aB.B aB.C aB.At aB.Via aB.Name aL)) (IntKind.i64.wrap (aH + 1)) r h))
abbrev hp71 (a3302 : GOffice) (a3303 : GClock) (l3385 : (List GTxn)) (x3467 : GTxn) (v3556 : (List GEdit)) : Heap:=[(.blk 2 [[(iv a3302.ID),(.sl false (List.map c_GTxn a3302.Txns))]]),(.blk 1 [[(.sl false (List.map c_i64 a3303.Counts))]]),(.blk 1 [[(.sl false (List.map c_i64 a3303.Counts))]]),(.blk 5 (List.map c_GTxn l3385)),(.blk 5 [[(iv x3467.Office),(iv x3467.Seq),(iv x3467.Time),(sv x3467.Source),(.ms 6 v3556.length 0 v3556.length)]]),(.blk 10 (List.map c_GEdit [])),(.blk 10 (List.map c_GEdit v3556 ++ [List.replicate 10 AV.undef]))]
def f13_I30_L0 (n : Nat) (aB : GOffice) (aD : GClock) : Nat → (List GTxn) → Int → Option (List GTxn)
 | 0,_,_ => none
 | m + 1,aE,aC => (cnd (decide (aC < ((aB.Txns.length : Nat) : Int))) (bnd (idx aB.Txns aC) fun aA => (bnd (f35 n aD aA.Office aA.Seq) fun aG => (cnd (aG) (f13_I30_L0 n aB aD m aE (IntKind.i64.wrap (aC + 1))) (bnd (prd n) fun aK => (cnd (List.isEmpty aA.Edits) (bnd (f13_I30_L1 n aE aB aC aD aA n) fun aL => (bnd (app aE [(GTxn.mk aA.Office aA.Seq aA.Time aA.Source [])]) fun aH => (f13_I30_L0 n aB aD m aH (IntKind.i64.wrap (aC + 1))))) (bnd (app ([] : (List GEdit)) aA.Edits) fun aF => (bnd (f13_I30_L1_2 n aE aB aC aF aD aA n aF 0) fun aI => (bnd (app aE [(GTxn.mk aA.Office aA.Seq aA.Time aA.Source aI)]) fun aJ => (f13_I30_L0 n aB aD m aJ (IntKind.i64.wrap (aC + 1))))))))))) (some aE))
theorem f13_I30_L0_ok (n : Nat) (aC : GOffice) (aB : GClock) : ∀ (m : Nat) (aD : (List GTxn)) (aE : Int) (r : (List GTxn)),f13_I30_L0 n aC aB m aD aE = some r → maskR lv1 lv1 true 0 4 (evLoopH (headSt (some lv22) true 0 4) (evC PP (evF PP T n) n 0 L30_0) m (f13_I30_L0_S aC aB aD aE)) = some ((.exit 0),f13_I30_L0_E0 aC aB r)
 | 0,_,_,_,h => by cases h
 | m + 1,aD,aE,r,h => by
  rw [f13_I30_L0] at h
  rcases cn h with ⟨aQ,aH,h⟩ | ⟨aQ,aH,h⟩
  rotate_left
  ·obtain rfl:=si h
   exact last_q (some lv22) true (f13_I30_L0_E0 aC aB aD) (qa 12 aH <| q0) [] [] (by exact (clo rfl (clo rfl (clo rfl (clo (clo_blk (c_GTxn_clean 4)) rfl)))))
  obtain ⟨aA,aR,h⟩:=bnd_some h
  have aI:=idxl (H:=(hp64 aC aB aD)) (f:=false) (c:=c_GTxn) aR (c_GTxn_len _)
  obtain ⟨am,aL,h⟩:=bnd_some h
  rcases cn h with ⟨aJ,aS,h⟩ | ⟨aJ,aS,h⟩
  ·have aT:=by have q:=f35_ok n aB aA.Office aA.Seq _ aL; rw [aJ] at q; exact q
   exact nx_q (f13_I30_L0_S aC aB aD (IntKind.i64.wrap (aE + 1))) (qa 20 aT <| qa 13 aI <| qa 12 aH <| q0) [] [none] (f13_I30_L0_c _ _ _ _) (f13_I30_L0_ok n aC aB m aD (IntKind.i64.wrap (aE + 1)) r h)
  have aM:=by have q:=f35_ok n aB aA.Office aA.Seq _ aL; rw [aJ] at q; exact q
  obtain ⟨an,aU,h⟩:=bnd_some h
  have aN:=prd_eq aU
  rcases cn h with ⟨aK,aV,h⟩ | ⟨aK,aV,h⟩
  ·have aW:=app_e (fl:=5) (H:=(hp66 aC aB aD aA)) (s:=10) (bytes:=120) (c:=c_GEdit) (x:=(.lit nilS)) aK c_GEdit_len (by omega) (.inl rfl)
   have aX : evF PP T n 5 50 [(.sl false (List.map c_GEdit aA.Edits))] (hp65 aC aB aD aA) = some ((.lit nilS),(hp66 aC aB aD aA)):=by
    rw [aN]; exact evF_q F50 (qb 4 aW <| q0) [] []
   have aY : cleanQ true 0 6 [(.blk 2 [[(iv aC.ID),(.sl false (List.map c_GTxn aC.Txns))]]),(.blk 1 [[(.sl false (List.map c_i64 aB.Counts))]]),(.blk 1 [[(.sl false (List.map c_i64 aB.Counts))]]),(.blk 5 (List.map c_GTxn aD)),(.blk 5 [[(iv aA.Office),(iv aA.Seq),(iv aA.Time),(sv aA.Source),(.lit nilS)]]),(.blk 10 (List.map c_GEdit []))]:=(by exact (clo rfl (clo rfl (clo rfl (clo (clo_blk (c_GTxn_clean 6)) (clo rfl (clo (clo_blk (c_GEdit_clean 6)) rfl)))))))
   obtain ⟨ao,aZ,h⟩:=bnd_some h
   have aa:=f13_I30_L1_ok n aD aC aE aB aA n _ aZ
   obtain ⟨aO,ab,h⟩:=bnd_some h
   have ac:=app_ms (fl:=0) (H:=(hp67 aC aB aD aA)) (id:=3) (s:=5) (bytes:=64) (c:=c_GTxn) (l:=aD) ab rfl c_GTxn_len (by omega) (by omega) (by omega)
   exact nx_q (f13_I30_L0_S aC aB aO (IntKind.i64.wrap (aE + 1))) (qc 53 ac <| qp aa <| qp aY <| qc 23 aX <| qa 20 aM <| qa 13 aI <| qa 12 aH <| q0) [((.exit 2),f13_I30_L1_E0 aD aC aE aB aA)] [none,none] (f13_I30_L0_c _ _ _ _) (f13_I30_L0_ok n aC aB m aO (IntKind.i64.wrap (aE + 1)) r h)
  obtain ⟨aF,ad,h⟩:=bnd_some h
  have ae:=app_n (fl:=5) (H:=(hp66 aC aB aD aA)) (s:=10) (bytes:=120) (c:=c_GEdit) (x:=(.lit nilS)) ad aK c_GEdit_len (by omega) (by omega) (.inl rfl)
  have af : evF PP T n 5 50 [(.sl false (List.map c_GEdit aA.Edits))] (hp65 aC aB aD aA) = some ((.ms 6 aF.length 0 aF.length),(hp68 aC aB aD aA aF)):=by
   rw [aN]; exact evF_q F50 (qc 4 ae <| q0) [] []
  have ag : cleanQ true 0 7 [(.blk 2 [[(iv aC.ID),(.sl false (List.map c_GTxn aC.Txns))]]),(.blk 1 [[(.sl false (List.map c_i64 aB.Counts))]]),(.blk 1 [[(.sl false (List.map c_i64 aB.Counts))]]),(.blk 5 (List.map c_GTxn aD)),(.blk 5 [[(iv aA.Office),(iv aA.Seq),(iv aA.Time),(sv aA.Source),(.ms 6 aF.length 0 aF.length)]]),(.blk 10 (List.map c_GEdit [])),(.blk 10 (List.map c_GEdit aF))]:=(by exact (clo rfl (clo rfl (clo rfl (clo (clo_blk (c_GTxn_clean 7)) (clo rfl (clo (clo_blk (c_GEdit_clean 7)) (clo (clo_blk (c_GEdit_clean 7)) rfl))))))))
  obtain ⟨aG,ah,h⟩:=bnd_some h
  have ai:=f13_I30_L1_2_ok n aD aC aE aF aB aA n aF 0 _ ah
  have aj:=ldF_ms (P:=PP) (cf:=evF PP T n) (fl:=0) (H:=(hp69 aC aB aD aA aG)) (b:=4) (id:=6) (s:=10) (n:=5) (k:=4) (c:=c_GEdit) (l:=aG) (row:=[(iv aA.Office),(iv aA.Seq),(iv aA.Time),(sv aA.Source),(.ms 6 aG.length 0 aG.length)]) rfl rfl rfl (by omega) c_GEdit_toP
  obtain ⟨aP,ak,h⟩:=bnd_some h
  have al:=app_ms (fl:=0) (H:=(hp71 aC aB aD aA aG)) (id:=3) (s:=5) (bytes:=64) (c:=c_GTxn) (l:=aD) ak rfl c_GTxn_len (by omega) (by omega) (by omega)
  exact nx_q (f13_I30_L0_S aC aB aP (IntKind.i64.wrap (aE + 1))) (qc 53 al <| qc 51 aj <| qp ai <| qp ag <| qc 23 af <| qa 20 aM <| qa 13 aI <| qa 12 aH <| q0) [((.exit 2),f13_I30_L1_2_E0 aD aC aE aF aB aA aG)] [none,none] (f13_I30_L0_c _ _ _ _) (f13_I30_L0_ok n aC aB m aP (IntKind.i64.wrap (aE + 1)) r h)
def f13 : Nat → GOffice → GClock → Option (List GTxn)
 | 0,_,_ => none
 | n + 1,aB,aC => (bnd (prd n) fun aA => (bnd (f13_I30_L0 aA aB aC aA [] 0) fun aD => (some aD)))
theorem f13_ok (n : Nat) (aA : GOffice) (aB : GClock) (r : (List GTxn)) (h : f13 n aA aB = some r) : pv PP T n 13 [(.agg (c_GOffice aA)),(.agg (c_GClock aB))] = some (.sl false (List.map c_GTxn r)):=by
 cases n with
 | zero => cases h
 | succ n =>
  rw [f13] at h
  obtain ⟨aD,aE,h⟩:=bnd_some h
  have aF:=prd_eq aE
  have aG:=len_sl (P:=PP) (cf:=evF PP T aD) (fl:=0) (H:=(hp63 aA aB)) (f:=false) (c:=c_GTxn) (l:=aA.Txns)
  have aH : cleanQ true 0 4 [(.blk 2 [[(iv aA.ID),(.sl false (List.map c_GTxn aA.Txns))]]),(.blk 1 [[(.sl false (List.map c_i64 aB.Counts))]]),(.blk 1 [[(.sl false (List.map c_i64 aB.Counts))]]),(.blk 5 (List.map c_GTxn []))]:=(by exact (clo rfl (clo rfl (clo rfl (clo (clo_blk (c_GTxn_clean 4)) rfl)))))
  obtain ⟨aC,aI,h⟩:=bnd_some h
  have aJ:=f13_I30_L0_ok aD aA aB aD [] 0 _ aI
  have aK : evF PP T n 0 30 [(.agg [(.sl false (List.map c_i64 aB.Counts))]),(.sl false (List.map c_GTxn aA.Txns))] (hp62 aA aB) = some ((.ms 3 aC.length 0 aC.length),(hp64 aA aB aC)):=by
   rw [aF]; exact evF_q F30 (qp aJ <| qp aH <| qb 10 aG <| q0) [((.exit 0),f13_I30_L0_E0 aA aB aC)] []
  obtain rfl:=si h
  refine pv_evF (evF_q F13 (qc 8 aK <| q0) [] [] (r:=(.ms 3 aC.length 0 aC.length)) (H':=(hp64 aA aB aC))) ?_
  show (seal1 (hp64 aA aB aC) 0 (.ms 3 aC.length 0 aC.length)) = _
  rw [seal1_ms (H:=(hp64 aA aB aC)) (id:=3) (s:=5) (c:=c_GTxn) (l:=aC) rfl (c_GTxn_seal _ _ _)]
  first | done | rfl
abbrev hp72 (a3567 : GOffice) : Heap:=[(.blk 2 [[(iv a3567.ID),(.sl false (List.map c_GTxn a3567.Txns))]]),(.blk 2 [[(iv 0),(.lit nilS)]]),(.blk 2 [[(iv a3567.ID),(.sl false (List.map c_GTxn a3567.Txns))]]),(.blk 5 (List.map c_GTxn [])),(.blk 2 [[(iv a3567.ID),(.ms 3 0 0 0)]])]
def f11_I23_L0_S (aA : GOffice) (aB : (List GTxn)) (aC : Int) : St:=⟨[U,U,(.ptr 4 1 0 0),U,U,U,U,U,U,(.sl false (List.map c_GTxn aA.Txns)),(iv ((aA.Txns.length : Nat) : Int)),(iv aC),U,U,U,U,U,U,U,U,U,U,U,U],[(.blk 2 [[(iv aA.ID),(.sl false (List.map c_GTxn aA.Txns))]]),(.blk 2 [[(iv 0),(.lit nilS)]]),(.blk 2 [[(iv aA.ID),(.sl false (List.map c_GTxn aA.Txns))]]),(.blk 5 (List.map c_GTxn aB)),(.blk 2 [[(iv aA.ID),(.ms 3 aB.length 0 aB.length)]])]⟩
theorem f11_I23_L0_c (aA : GOffice) (aB : (List GTxn)) (aC : Int) : cleanQ true 2 5 (f11_I23_L0_S aA aB aC).heap:=(by exact (clo rfl (clo (clo_blk (c_GTxn_clean 5)) (clo rfl rfl))))
def f11_I23_L0_E0 (aA : GOffice) (aB : (List GTxn)) : St:=⟨[U,U,(.ptr 4 1 0 0),U,U,U,U,U,U,U,U,U,U,U,U,U,U,U,U,U,U,U,U,U],[(.blk 2 [[(iv aA.ID),(.sl false (List.map c_GTxn aA.Txns))]]),(.blk 2 [[(iv 0),(.lit nilS)]]),(.blk 2 [[(iv aA.ID),(.sl false (List.map c_GTxn aA.Txns))]]),(.blk 5 (List.map c_GTxn aB)),(.blk 2 [[(iv aA.ID),(.ms 3 aB.length 0 aB.length)]])]⟩
abbrev hp73 (a3567 : GOffice) (l3589 : (List GTxn)) : Heap:=[(.blk 2 [[(iv a3567.ID),(.sl false (List.map c_GTxn a3567.Txns))]]),(.blk 2 [[(iv 0),(.lit nilS)]]),(.blk 2 [[(iv a3567.ID),(.sl false (List.map c_GTxn a3567.Txns))]]),(.blk 5 (List.map c_GTxn l3589)),(.blk 2 [[(iv a3567.ID),(.ms 3 l3589.length 0 l3589.length)]])]
abbrev hp74 (a3567 : GOffice) (l3589 : (List GTxn)) (x3606 : GTxn) : Heap:=[(.blk 2 [[(iv a3567.ID),(.sl false (List.map c_GTxn a3567.Txns))]]),(.blk 2 [[(iv 0),(.lit nilS)]]),(.blk 2 [[(iv a3567.ID),(.sl false (List.map c_GTxn a3567.Txns))]]),(.blk 5 (List.map c_GTxn l3589)),(.blk 2 [[(iv a3567.ID),(.ms 3 l3589.length 0 l3589.length)]]),(.blk 5 [(c_GTxn x3606)])]
def f11_I23_L0 (n : Nat) (aA : GOffice) : Nat → (List GTxn) → Int → Option (List GTxn)
 | 0,_,_ => none
 | m + 1,aC,aB => (cnd (decide (aB < ((aA.Txns.length : Nat) : Int))) (bnd (idx aA.Txns aB) fun aD => (bnd (f37 n aD) fun aE => (bnd (app aC [aE]) fun aF => (f11_I23_L0 n aA m aF (IntKind.i64.wrap (aB + 1)))))) (some aC))
theorem f11_I23_L0_ok (n : Nat) (aA : GOffice) : ∀ (m : Nat) (aB : (List GTxn)) (aC : Int) (r : (List GTxn)),f11_I23_L0 n aA m aB aC = some r → maskR [false,false,true] [false,false,true] true 2 5 (evLoopH (headSt (some lv15) true 2 5) (evC PP (evF PP T n) n 2 L23_0) m (f11_I23_L0_S aA aB aC)) = some ((.exit 0),f11_I23_L0_E0 aA r)
 | 0,_,_,_,h => by cases h
 | m + 1,aB,aC,r,h => by
  rw [f11_I23_L0] at h
  rcases cn h with ⟨aG,aD,h⟩ | ⟨aG,aD,h⟩
  rotate_left
  ·obtain rfl:=si h
   exact last_q (some lv15) true (f11_I23_L0_E0 aA aB) (qa 12 aD <| q0) [] [] (by exact (clo rfl (clo (clo_blk (c_GTxn_clean 5)) (clo rfl rfl))))
  obtain ⟨aE,aH,h⟩:=bnd_some h
  have aI:=idxl (H:=(hp73 aA aB)) (f:=false) (c:=c_GTxn) aH (c_GTxn_len _)
  obtain ⟨aN,aJ,h⟩:=bnd_some h
  have aK:=f37_ok n aE _ aJ
  obtain ⟨aF,aL,h⟩:=bnd_some h
  have aM:=app_ms (fl:=2) (H:=(hp74 aA aB aE)) (id:=3) (s:=5) (bytes:=64) (c:=c_GTxn) (l:=aB) aL rfl c_GTxn_len (by omega) (by omega) (by omega)
  exact nx_q (f11_I23_L0_S aA aF (IntKind.i64.wrap (aC + 1))) (qc 20 aM <| qa 18 aK <| qa 13 aI <| qa 12 aD <| q0) [] [none,none] (f11_I23_L0_c _ _ _) (f11_I23_L0_ok n aA m aF (IntKind.i64.wrap (aC + 1)) r h)
abbrev hp75 (a3567 : GOffice) (v3619 : (List GTxn)) : Heap:=[(.blk 2 [[(iv a3567.ID),(.sl false (List.map c_GTxn a3567.Txns))]]),(.blk 2 [[(iv 0),(.lit nilS)]]),(.blk 2 [[(iv a3567.ID),(.sl false (List.map c_GTxn a3567.Txns))]]),(.blk 5 (List.map c_GTxn v3619)),(.blk 2 [[(iv a3567.ID),(.ms 3 v3619.length 0 v3619.length)]]),(.blk 2 [[(iv a3567.ID),(.ms 3 v3619.length 0 v3619.length)]])]
def f11_L0_S (aC : (List GTxn)) (aA : GOffice) (aD : (List GTxn)) (aB : (List GTxn)) (aE : Int) : St:=⟨[U,U,U,U,(.ptr 1 1 0 0),U,(.ptr 5 1 0 0),(.fn 28 [(.ptr 5 1 0 0)]),U,U,U,U,U,U,U,U,U,(.sl false (List.map c_GTxn aC)),(iv ((aC.length : Nat) : Int)),(iv aE),U,U,U,U,U,U,U,U,U,U,U,U],[(.blk 2 [[(iv aA.ID),(.sl false (List.map c_GTxn aA.Txns))]]),(.blk 2 [[(iv 0),(.lit nilS)]]),(.blk 2 [[(iv aA.ID),(.sl false (List.map c_GTxn aA.Txns))]]),(.blk 5 (List.map c_GTxn aB)),(.blk 2 [[(iv aA.ID),(.ms 3 aD.length 0 aD.length)]]),(.blk 2 [[(iv aA.ID),(.ms 3 aB.length 0 aB.length)]])]⟩
theorem f11_L0_c (aA : (List GTxn)) (aB : GOffice) (aC : (List GTxn)) (aD : (List GTxn)) (aE : Int) : cleanQ true 0 6 (f11_L0_S aA aB aC aD aE).heap:=(by exact (clo rfl (clo rfl (clo rfl (clo (clo_blk (c_GTxn_clean 6)) (clo rfl (clo rfl rfl)))))))
def f11_L0_E0 (aO : (List GTxn)) (aA : GOffice) (aC : (List GTxn)) (aD : Int) (aE : Int) (aF : Int) (aG : ByteArray) (aH : (List GEdit)) (aI : Int) (aJ : Int) (aK : Int) (aL : ByteArray) (aM : (List GEdit)) (aB : (List GTxn)) (aN : Int) : St:=⟨[U,U,U,U,(.ptr 1 1 0 0),(iv aN),U,U,U,U,U,U,U,U,U,U,U,U,U,U,U,U,U,U,U,U,U,U,U,U,U,U],[(.blk 2 [[(iv aA.ID),(.sl false (List.map c_GTxn aA.Txns))]]),(.blk 2 [[(iv 0),(.lit nilS)]]),(.blk 2 [[(iv aA.ID),(.sl false (List.map c_GTxn aA.Txns))]]),(.blk 5 (List.map c_GTxn aB)),(.blk 2 [[(iv aA.ID),(.ms 3 aC.length 0 aC.length)]]),(.blk 2 [[(iv aA.ID),(.ms 3 aB.length 0 aB.length)]]),(.blk 5 [[(iv aD),(iv aE),(iv aF),(sv aG),(.sl false (List.map c_GEdit aH))]]),(.blk 5 [[(iv aI),(iv aJ),(iv aK),(sv aL),(.sl false (List.map c_GEdit aM))]])]⟩
def f11_L0_E1 (aD : (List GTxn)) (aA : GOffice) (aC : (List GTxn)) (aB : (List GTxn)) : St:=⟨[U,U,U,U,(.ptr 1 1 0 0),U,(.ptr 5 1 0 0),U,U,U,U,U,U,U,U,U,U,U,U,U,U,U,U,U,U,U,U,U,U,U,U,U],[(.blk 2 [[(iv aA.ID),(.sl false (List.map c_GTxn aA.Txns))]]),(.blk 2 [[(iv 0),(.lit nilS)]]),(.blk 2 [[(iv aA.ID),(.sl false (List.map c_GTxn aA.Txns))]]),(.blk 5 (List.map c_GTxn aB)),(.blk 2 [[(iv aA.ID),(.ms 3 aC.length 0 aC.length)]]),(.blk 2 [[(iv aA.ID),(.ms 3 aB.length 0 aB.length)]])]⟩
abbrev hp76 (a3567 : GOffice) (l3905 : (List GTxn)) (v3619 : (List GTxn)) : Heap:=[(.blk 2 [[(iv a3567.ID),(.sl false (List.map c_GTxn a3567.Txns))]]),(.blk 2 [[(iv 0),(.lit nilS)]]),(.blk 2 [[(iv a3567.ID),(.sl false (List.map c_GTxn a3567.Txns))]]),(.blk 5 (List.map c_GTxn l3905)),(.blk 2 [[(iv a3567.ID),(.ms 3 v3619.length 0 v3619.length)]]),(.blk 2 [[(iv a3567.ID),(.ms 3 l3905.length 0 l3905.length)]])]
abbrev hp77 (a3567 : GOffice) (l3905 : (List GTxn)) (v3619 : (List GTxn)) (x4205 : GTxn) : Heap:=[(.blk 2 [[(iv a3567.ID),(.sl false (List.map c_GTxn a3567.Txns))]]),(.blk 2 [[(iv 0),(.lit nilS)]]),(.blk 2 [[(iv a3567.ID),(.sl false (List.map c_GTxn a3567.Txns))]]),(.blk 5 (List.map c_GTxn l3905)),(.blk 2 [[(iv a3567.ID),(.ms 3 v3619.length 0 v3619.length)]]),(.blk 2 [[(iv a3567.ID),(.ms 3 l3905.length 0 l3905.length)]]),(.blk 5 [(c_GTxn x4205)])]
abbrev hp78 (a3567 : GOffice) (l3905 : (List GTxn)) (v3619 : (List GTxn)) (x4205 : GTxn) : Heap:=[(.blk 2 [[(iv a3567.ID),(.sl false (List.map c_GTxn a3567.Txns))]]),(.blk 2 [[(iv 0),(.lit nilS)]]),(.blk 2 [[(iv a3567.ID),(.sl false (List.map c_GTxn a3567.Txns))]]),(.blk 5 (List.map c_GTxn l3905)),(.blk 2 [[(iv a3567.ID),(.ms 3 v3619.length 0 v3619.length)]]),(.blk 2 [[(iv a3567.ID),(.ms 3 l3905.length 0 l3905.length)]]),(.blk 5 [(c_GTxn x4205)]),(.blk 5 [(c_GTxn x4205)])]
def f11_I48_L0_S (aA : (List GTxn)) (aB : GOffice) (aC : (List GTxn)) (aD : GTxn) (aE : Int) : St:=⟨[(.ms 3 aA.length 0 aA.length),(.fn 47 [(.ptr 7 1 0 0)]),U,U,U,U,U,(iv ((aA.length : Nat) : Int)),(iv aE),U,U,U,U,U,U,U,U,U,U],[(.blk 2 [[(iv aB.ID),(.sl false (List.map c_GTxn aB.Txns))]]),(.blk 2 [[(iv 0),(.lit nilS)]]),(.blk 2 [[(iv aB.ID),(.sl false (List.map c_GTxn aB.Txns))]]),(.blk 5 (List.map c_GTxn aA)),(.blk 2 [[(iv aB.ID),(.ms 3 aC.length 0 aC.length)]]),(.blk 2 [[(iv aB.ID),(.ms 3 aA.length 0 aA.length)]]),(.blk 5 [(c_GTxn aD)]),(.blk 5 [(c_GTxn aD)])]⟩
def f11_I48_L0_E0 (aB : (List GTxn)) (aA : GOffice) (aC : (List GTxn)) (aD : GTxn) (aE : Int) : St:=⟨[U,U,U,U,(iv aE),U,U,U,U,U,U,U,U,U,U,U,U,U,U],[(.blk 2 [[(iv aA.ID),(.sl false (List.map c_GTxn aA.Txns))]]),(.blk 2 [[(iv 0),(.lit nilS)]]),(.blk 2 [[(iv aA.ID),(.sl false (List.map c_GTxn aA.Txns))]]),(.blk 5 (List.map c_GTxn aB)),(.blk 2 [[(iv aA.ID),(.ms 3 aC.length 0 aC.length)]]),(.blk 2 [[(iv aA.ID),(.ms 3 aB.length 0 aB.length)]]),(.blk 5 [(c_GTxn aD)]),(.blk 5 [(c_GTxn aD)])]⟩
def f11_I48_L0_E1 (aB : (List GTxn)) (aA : GOffice) (aC : (List GTxn)) (aD : GTxn) : St:=⟨[U,U,U,U,U,U,U,U,U,U,U,U,U,U,U,U,U,U,U],[(.blk 2 [[(iv aA.ID),(.sl false (List.map c_GTxn aA.Txns))]]),(.blk 2 [[(iv 0),(.lit nilS)]]),(.blk 2 [[(iv aA.ID),(.sl false (List.map c_GTxn aA.Txns))]]),(.blk 5 (List.map c_GTxn aB)),(.blk 2 [[(iv aA.ID),(.ms 3 aC.length 0 aC.length)]]),(.blk 2 [[(iv aA.ID),(.ms 3 aB.length 0 aB.length)]]),(.blk 5 [(c_GTxn aD)]),(.blk 5 [(c_GTxn aD)])]⟩
abbrev hp79 (a3567 : GOffice) (l3905 : (List GTxn)) (v3619 : (List GTxn)) (x4205 : GTxn) (x4270 : GTxn) : Heap:=[(.blk 2 [[(iv a3567.ID),(.sl false (List.map c_GTxn a3567.Txns))]]),(.blk 2 [[(iv 0),(.lit nilS)]]),(.blk 2 [[(iv a3567.ID),(.sl false (List.map c_GTxn a3567.Txns))]]),(.blk 5 (List.map c_GTxn l3905)),(.blk 2 [[(iv a3567.ID),(.ms 3 v3619.length 0 v3619.length)]]),(.blk 2 [[(iv a3567.ID),(.ms 3 l3905.length 0 l3905.length)]]),(.blk 5 [(c_GTxn x4205)]),(.blk 5 [(c_GTxn x4205)]),(.blk 5 [(c_GTxn x4270)])]
def f11_I48_L0 (n : Nat) (aA : (List GTxn)) (aD : GOffice) (aE : (List GTxn)) (aC : GTxn) : Nat → Int → Option (Int ⊕ Unit)
 | 0,_ => none
 | m + 1,aB => (cnd (decide (aB < ((aA.length : Nat) : Int))) (bnd (idxK aA aA.length aB) fun aF => (bnd (prd n) fun aG => (cnd (aF.Office == aC.Office) (cnd (aF.Seq == aC.Seq) (some (Sum.inl aB)) (f11_I48_L0 n aA aD aE aC m (IntKind.i64.wrap (aB + 1)))) (f11_I48_L0 n aA aD aE aC m (IntKind.i64.wrap (aB + 1)))))) (some (Sum.inr ())))
theorem f11_I48_L0_ok (n : Nat) (aB : (List GTxn)) (aC : GOffice) (aD : (List GTxn)) (aE : GTxn) : ∀ (m : Nat) (aF : Int) (r : (Int ⊕ Unit)),f11_I48_L0 n aB aC aD aE m aF = some r → maskR [] lv1 false 0 8 (evLoopH (headSt (some lv8) false 0 8) (evC PP (evF PP T n) n 0 L48_0) m (f11_I48_L0_S aB aC aD aE aF)) = (match r with | .inl r => some (.ret,f11_I48_L0_E0 aB aC aD aE r) | .inr r => some ((.exit 0),f11_I48_L0_E1 aB aC aD aE))
 | 0,_,_,h => by cases h
 | m + 1,aF,r,h => by
  rw [f11_I48_L0] at h
  rcases cn h with ⟨aN,aG,h⟩ | ⟨aN,aG,h⟩
  rotate_left
  ·obtain rfl:=si h
   exact last_q (some lv8) false (f11_I48_L0_E1 aB aC aD aE) (qa 9 aG <| q0) [] [] trivial
  obtain ⟨aA,aM,h⟩:=bnd_some h
  have aI:=idx_ms (H:=(hp78 aC aB aD aE)) (id:=3) (s:=5) (c:=c_GTxn) aM rfl
  have aJ:=ld_ms (P:=PP) (cf:=evF PP T n) (fl:=0) (H:=(hp78 aC aB aD aE)) (id:=3) (c:=c_GTxn) (off:=0) (n:=5) (agg:=true) (v:=(.agg [(iv aA.Office),(iv aA.Seq),(iv aA.Time),(sv aA.Source),(.sl false (List.map c_GEdit aA.Edits))])) aM rfl (by simp [c_GTxn_len]) rfl
  obtain ⟨aX,aO,h⟩:=bnd_some h
  have aK:=prd_eq aO
  rcases cn h with ⟨aP,aH,h⟩ | ⟨aP,aH,h⟩
  rotate_left
  ·have aQ : evF PP T n 8 47 [(.agg [(iv aA.Office),(iv aA.Seq),(iv aA.Time),(sv aA.Source),(.sl false (List.map c_GEdit aA.Edits))]),(.ptr 7 1 0 0)] (hp78 aC aB aD aE) = some (bf,(hp79 aC aB aD aE aA)):=by
    rw [aK]; exact evF_q F47 (qa 8 aH <| q0) [] []
   have aR : callA (evF PP T n) 0 true 47 [(.agg [(iv aA.Office),(iv aA.Seq),(iv aA.Time),(sv aA.Source),(.sl false (List.map c_GEdit aA.Edits))]),(.ptr 7 1 0 0)] (hp78 aC aB aD aE) = some (bf,(hp78 aC aB aD aE)):=callA_np rfl rfl aQ rfl
   exact nx_q (f11_I48_L0_S aB aC aD aE (IntKind.i64.wrap (aF + 1))) (qb 16 aR <| qb 15 aJ <| qa 14 aI <| qa 9 aG <| q0) [] [] trivial (f11_I48_L0_ok n aB aC aD aE m (IntKind.i64.wrap (aF + 1)) r h)
  rcases cn h with ⟨aS,aL,h⟩ | ⟨aS,aL,h⟩
  ·have aT : evF PP T n 8 47 [(.agg [(iv aA.Office),(iv aA.Seq),(iv aA.Time),(sv aA.Source),(.sl false (List.map c_GEdit aA.Edits))]),(.ptr 7 1 0 0)] (hp78 aC aB aD aE) = some (bt,(hp79 aC aB aD aE aA)):=by
    rw [aK]; exact evF_q F47 (qa 14 aL <| qa 8 aH <| q0) [] []
   have aU : callA (evF PP T n) 0 true 47 [(.agg [(iv aA.Office),(iv aA.Seq),(iv aA.Time),(sv aA.Source),(.sl false (List.map c_GEdit aA.Edits))]),(.ptr 7 1 0 0)] (hp78 aC aB aD aE) = some (bt,(hp78 aC aB aD aE)):=callA_np rfl rfl aT rfl
   obtain rfl:=si h
   exact last_q (some lv8) false (f11_I48_L0_E0 aB aC aD aE aF) (qb 16 aU <| qb 15 aJ <| qa 14 aI <| qa 9 aG <| q0) [] [] trivial
  have aV : evF PP T n 8 47 [(.agg [(iv aA.Office),(iv aA.Seq),(iv aA.Time),(sv aA.Source),(.sl false (List.map c_GEdit aA.Edits))]),(.ptr 7 1 0 0)] (hp78 aC aB aD aE) = some (bf,(hp79 aC aB aD aE aA)):=by
   rw [aK]; exact evF_q F47 (qa 14 aL <| qa 8 aH <| q0) [] []
  have aW : callA (evF PP T n) 0 true 47 [(.agg [(iv aA.Office),(iv aA.Seq),(iv aA.Time),(sv aA.Source),(.sl false (List.map c_GEdit aA.Edits))]),(.ptr 7 1 0 0)] (hp78 aC aB aD aE) = some (bf,(hp78 aC aB aD aE)):=callA_np rfl rfl aV rfl
  exact nx_q (f11_I48_L0_S aB aC aD aE (IntKind.i64.wrap (aF + 1))) (qb 16 aW <| qb 15 aJ <| qa 14 aI <| qa 9 aG <| q0) [] [] trivial (f11_I48_L0_ok n aB aC aD aE m (IntKind.i64.wrap (aF + 1)) r h)
abbrev hp80 (a3567 : GOffice) (l3905 : (List GTxn)) (v3619 : (List GTxn)) (x4205 : GTxn) : Heap:=[(.blk 2 [[(iv a3567.ID),(.sl false (List.map c_GTxn a3567.Txns))]]),(.blk 2 [[(iv 0),(.lit nilS)]]),(.blk 2 [[(iv a3567.ID),(.sl false (List.map c_GTxn a3567.Txns))]]),(.blk 5 (List.map c_GTxn l3905)),(.blk 2 [[(iv a3567.ID),(.ms 3 v3619.length 0 v3619.length)]]),(.blk 2 [[(iv a3567.ID),(.ms 3 l3905.length 0 l3905.length)]]),(.blk 5 [(c_GTxn x4205)]),(.blk 5 [(c_GTxn x4205)]),(.blk 5 [(c_GTxn x4205)])]
def f11_I42_L0_S (aA : (List GTxn)) (aB : GOffice) (aD : (List GTxn)) (aC : GTxn) (aE : Int) (aF : Int) : St:=⟨[(.ms 3 aA.length 0 aA.length),U,(.fn 39 []),U,(.ptr 9 1 0 0),U,U,U,(iv ((aA.length : Nat) : Int)),(iv aF),(iv aE),U,U,U,U,U,U,U,U,U,U,U,U,U,U,U,U,U,U,U,U,U,U,U,U,U,U,U,U,U,U,U,U,U,U,U,U,U,U],[(.blk 2 [[(iv aB.ID),(.sl false (List.map c_GTxn aB.Txns))]]),(.blk 2 [[(iv 0),(.lit nilS)]]),(.blk 2 [[(iv aB.ID),(.sl false (List.map c_GTxn aB.Txns))]]),(.blk 5 (List.map c_GTxn aA)),(.blk 2 [[(iv aB.ID),(.ms 3 aD.length 0 aD.length)]]),(.blk 2 [[(iv aB.ID),(.ms 3 aA.length 0 aA.length)]]),(.blk 5 [(c_GTxn aC)]),(.blk 5 [(c_GTxn aC)]),(.blk 5 [(c_GTxn aC)]),(.blk 5 [(c_GTxn aC)])]⟩
def f11_I42_L0_E0 (aA : (List GTxn)) (aB : GOffice) (aD : (List GTxn)) (aC : GTxn) (aE : Int) : St:=⟨[(.ms 3 aA.length 0 aA.length),U,(.fn 39 []),U,(.ptr 9 1 0 0),U,U,U,(iv ((aA.length : Nat) : Int)),(iv aE),U,U,U,U,U,U,U,U,U,U,U,U,U,U,U,U,U,U,U,U,U,U,U,U,U,U,U,U,U,U,U,U,U,U,U,U,U,U,U],[(.blk 2 [[(iv aB.ID),(.sl false (List.map c_GTxn aB.Txns))]]),(.blk 2 [[(iv 0),(.lit nilS)]]),(.blk 2 [[(iv aB.ID),(.sl false (List.map c_GTxn aB.Txns))]]),(.blk 5 (List.map c_GTxn aA)),(.blk 2 [[(iv aB.ID),(.ms 3 aD.length 0 aD.length)]]),(.blk 2 [[(iv aB.ID),(.ms 3 aA.length 0 aA.length)]]),(.blk 5 [(c_GTxn aC)]),(.blk 5 [(c_GTxn aC)]),(.blk 5 [(c_GTxn aC)]),(.blk 5 [(c_GTxn aC)])]⟩
abbrev hp81 (a3567 : GOffice) (l3905 : (List GTxn)) (v3619 : (List GTxn)) (x4205 : GTxn) : Heap:=[(.blk 2 [[(iv a3567.ID),(.sl false (List.map c_GTxn a3567.Txns))]]),(.blk 2 [[(iv 0),(.lit nilS)]]),(.blk 2 [[(iv a3567.ID),(.sl false (List.map c_GTxn a3567.Txns))]]),(.blk 5 (List.map c_GTxn l3905)),(.blk 2 [[(iv a3567.ID),(.ms 3 v3619.length 0 v3619.length)]]),(.blk 2 [[(iv a3567.ID),(.ms 3 l3905.length 0 l3905.length)]]),(.blk 5 [(c_GTxn x4205)]),(.blk 5 [(c_GTxn x4205)]),(.blk 5 [(c_GTxn x4205)]),(.blk 5 [(c_GTxn x4205)])]
def f11_I42_L0 (n : Nat) (aC : (List GTxn)) (aE : GOffice) (aF : (List GTxn)) (aD : GTxn) : Nat → Int → Int → Option Int
 | 0,_,_ => none
 | m + 1,aB,aA => (cnd (decide (aA < aB)) (bnd (idxK aC aC.length (IntKind.i64.wrap (Int.fdiv (IntKind.u64.wrap (IntKind.i64.wrap (aA + aB))) 2))) fun aG => (bnd (f39 n aG aD) fun aH => (cnd (decide (aH < 0)) (f11_I42_L0 n aC aE aF aD m aB (IntKind.i64.wrap ((IntKind.i64.wrap (Int.fdiv (IntKind.u64.wrap (IntKind.i64.wrap (aA + aB))) 2)) + 1))) (f11_I42_L0 n aC aE aF aD m (IntKind.i64.wrap (Int.fdiv (IntKind.u64.wrap (IntKind.i64.wrap (aA + aB))) 2)) aA)))) (some aA))
theorem f11_I42_L0_ok (n : Nat) (aB : (List GTxn)) (aC : GOffice) (aD : (List GTxn)) (aA : GTxn) : ∀ (m : Nat) (aF : Int) (aE : Int) (r : Int),f11_I42_L0 n aB aC aD aA m aF aE = some r → maskR lv17 lv18 false 0 10 (evLoopH (headSt (some lv16) false 0 10) (evC PP (evF PP T n) n 0 L42_0) m (f11_I42_L0_S aB aC aD aA aF aE)) = some ((.exit 0),f11_I42_L0_E0 aB aC aD aA r)
 | 0,_,_,_,h => by cases h
 | m + 1,aF,aE,r,h => by
  rw [f11_I42_L0] at h
  rcases cn h with ⟨aO,aH,h⟩ | ⟨aO,aH,h⟩
  rotate_left
  ·obtain rfl:=si h
   exact last_q (some lv16) false (f11_I42_L0_E0 aB aC aD aA aE) (qa 17 aH <| q0) [] [] trivial
  have aJ:=shr1_ok (P:=PP) (cf:=evF PP T n) (fl:=0) (H:=(hp81 aC aB aD aA)) (t:=111) (a:=(IntKind.u64.wrap (IntKind.i64.wrap (aE + aF))))
  obtain ⟨aG,aK,h⟩:=bnd_some h
  have aL:=idx_ms (H:=(hp81 aC aB aD aA)) (id:=3) (s:=5) (c:=c_GTxn) aK rfl
  have aM:=ld_ms (P:=PP) (cf:=evF PP T n) (fl:=0) (H:=(hp81 aC aB aD aA)) (id:=3) (c:=c_GTxn) (off:=0) (n:=5) (agg:=true) (v:=(.agg [(iv aG.Office),(iv aG.Seq),(iv aG.Time),(sv aG.Source),(.sl false (List.map c_GEdit aG.Edits))])) aK rfl (by simp [c_GTxn_len]) rfl
  obtain ⟨aS,aP,h⟩:=bnd_some h
  have aQ:=f39_ok n aG aA _ aP
  have aN:=callA_pl (fl:=0) (H:=(hp81 aC aB aD aA)) rfl rfl aQ
  rcases cn h with ⟨aR,aI,h⟩ | ⟨aR,aI,h⟩
  rotate_left
  ·exact nx_q (f11_I42_L0_S aB aC aD aA (IntKind.i64.wrap (Int.fdiv (IntKind.u64.wrap (IntKind.i64.wrap (aE + aF))) 2)) aE) (qa 31 aI <| qb 30 aN <| qb 28 aM <| qa 27 aL <| qb 22 aJ <| qa 17 aH <| q0) [] [] trivial (f11_I42_L0_ok n aB aC aD aA m (IntKind.i64.wrap (Int.fdiv (IntKind.u64.wrap (IntKind.i64.wrap (aE + aF))) 2)) aE r h)
  exact nx_q (f11_I42_L0_S aB aC aD aA aF (IntKind.i64.wrap ((IntKind.i64.wrap (Int.fdiv (IntKind.u64.wrap (IntKind.i64.wrap (aE + aF))) 2)) + 1))) (qa 31 aI <| qb 30 aN <| qb 28 aM <| qa 27 aL <| qb 22 aJ <| qa 17 aH <| q0) [] [] trivial (f11_I42_L0_ok n aB aC aD aA m aF (IntKind.i64.wrap ((IntKind.i64.wrap (Int.fdiv (IntKind.u64.wrap (IntKind.i64.wrap (aE + aF))) 2)) + 1)) r h)
abbrev hp82 (a3567 : GOffice) (l3905 : (List GTxn)) (v3619 : (List GTxn)) (x4205 : GTxn) (v4386 : GTxn) : Heap:=[(.blk 2 [[(iv a3567.ID),(.sl false (List.map c_GTxn a3567.Txns))]]),(.blk 2 [[(iv 0),(.lit nilS)]]),(.blk 2 [[(iv a3567.ID),(.sl false (List.map c_GTxn a3567.Txns))]]),(.blk 5 (List.map c_GTxn l3905)),(.blk 2 [[(iv a3567.ID),(.ms 3 v3619.length 0 v3619.length)]]),(.blk 2 [[(iv a3567.ID),(.ms 3 l3905.length 0 l3905.length)]]),(.blk 5 [(c_GTxn x4205)]),(.blk 5 [(c_GTxn x4205)]),(.blk 5 [(c_GTxn x4205)]),(.blk 5 [(c_GTxn x4205)]),(.blk 5 [(c_GTxn v4386)])]
abbrev hp83 (a3567 : GOffice) (l4392 : (List GTxn)) (v3619 : (List GTxn)) (l3905 : (List GTxn)) (x4205 : GTxn) (v4386 : GTxn) : Heap:=[(.blk 2 [[(iv a3567.ID),(.sl false (List.map c_GTxn a3567.Txns))]]),(.blk 2 [[(iv 0),(.lit nilS)]]),(.blk 2 [[(iv a3567.ID),(.sl false (List.map c_GTxn a3567.Txns))]]),(.blk 5 (List.map c_GTxn l4392)),(.blk 2 [[(iv a3567.ID),(.ms 3 v3619.length 0 v3619.length)]]),(.blk 2 [[(iv a3567.ID),(.ms 3 l3905.length 0 l3905.length)]]),(.blk 5 [(c_GTxn x4205)]),(.blk 5 [(c_GTxn x4205)]),(.blk 5 [(c_GTxn x4205)]),(.blk 5 [(c_GTxn x4205)]),(.blk 5 [(c_GTxn v4386)])]
def f11_L0 (n : Nat) (aE : (List GTxn)) (aC : GOffice) (aD : (List GTxn)) : Nat → (List GTxn) → Int → Option ((Int × Int × Int × ByteArray × (List GEdit) × Int × Int × Int × ByteArray × (List GEdit) × (List GTxn) × Int) ⊕ (List GTxn))
 | 0,_,_ => none
 | m + 1,aB,aF => (cnd (decide (aF < ((aE.length : Nat) : Int))) (bnd (idx aE aF) fun aA => (bnd (prd n) fun aI => (bnd (f22 aI aA) fun aN => (cnd (aN != 0) (some (Sum.inl (aA.Office,aA.Seq,aA.Time,aA.Source,aA.Edits,aA.Office,aA.Seq,aA.Time,aA.Source,aA.Edits,aB,aN))) (bnd (prd aI) fun aO => (bnd2 (f11_I48_L0 aO aB aC aD aA aO 0) (fun aP => (cnd (decide (aP ≥ 0)) (bnd (idxK aB aB.length aP) fun aQ => (bnd (f49 aI aQ aA) fun aR => (cnd (aR) (f11_L0 n aE aC aD m aB (IntKind.i64.wrap (aF + 1))) (some (Sum.inl (aA.Office,aA.Seq,aA.Time,aA.Source,aA.Edits,aA.Office,aA.Seq,aA.Time,aA.Source,aA.Edits,aB,16)))))) (cnd (decide (((aB.length : Nat) : Int) ≥ 256)) (some (Sum.inl (aA.Office,aA.Seq,aA.Time,aA.Source,aA.Edits,aA.Office,aA.Seq,aA.Time,aA.Source,aA.Edits,aB,3))) (bnd (prd aI) fun aG => (bnd (prd aG) fun aL => (bnd (f11_I42_L0 aL aB aC aD aA aL ((aB.length : Nat) : Int) 0) fun aJ => (cnd (decide (aJ < ((aB.length : Nat) : Int))) (bnd (idxK aB aB.length aJ) fun aS => (bnd (f39 aL aS aA) fun aT => (cnd (aT == 0) (bnd (f37 aG aA) fun aU => (bnd (prd aG) fun ai => bnd (insO aB aJ aU) fun aV => (f11_L0 n aE aC aD m aV (IntKind.i64.wrap (aF + 1))))) (bnd (f37 aG aA) fun aW => (bnd (prd aG) fun aj => bnd (insO aB aJ aW) fun aX => (f11_L0 n aE aC aD m aX (IntKind.i64.wrap (aF + 1)))))))) (bnd (f37 aG aA) fun aY => (bnd (prd aG) fun ak => bnd (insO aB aJ aY) fun aZ => (f11_L0 n aE aC aD m aZ (IntKind.i64.wrap (aF + 1)))))))))))) (fun al => (cnd (decide (((aB.length : Nat) : Int) ≥ 256)) (some (Sum.inl (aA.Office,aA.Seq,aA.Time,aA.Source,aA.Edits,aA.Office,aA.Seq,aA.Time,aA.Source,aA.Edits,aB,3))) (bnd (prd aI) fun aH => (bnd (prd aH) fun aM => (bnd (f11_I42_L0 aM aB aC aD aA aM ((aB.length : Nat) : Int) 0) fun aK => (cnd (decide (aK < ((aB.length : Nat) : Int))) (bnd (idxK aB aB.length aK) fun aa => (bnd (f39 aM aa aA) fun ab => (cnd (ab == 0) (bnd (f37 aH aA) fun ac => (bnd (prd aH) fun am => bnd (insO aB aK ac) fun ad => (f11_L0 n aE aC aD m ad (IntKind.i64.wrap (aF + 1))))) (bnd (f37 aH aA) fun ae => (bnd (prd aH) fun an => bnd (insO aB aK ae) fun af => (f11_L0 n aE aC aD m af (IntKind.i64.wrap (aF + 1)))))))) (bnd (f37 aH aA) fun ag => (bnd (prd aH) fun ao => bnd (insO aB aK ag) fun ah => (f11_L0 n aE aC aD m ah (IntKind.i64.wrap (aF + 1))))))))))))))))) (some (Sum.inr aB)))
end Go.Proofs.YtkdnaejhpcibnaaGreatDoor.Av
namespace Go.Proofs.YtkdnaejhpcibnaaGreatDoor.Av
open Go
theorem f11_L0_ok (n : Nat) (aE : (List GTxn)) (aC : GOffice) (aD : (List GTxn)) : ∀ (m : Nat) (aB : (List GTxn)) (aF : Int) (r : ((Int × Int × Int × ByteArray × (List GEdit) × Int × Int × Int × ByteArray × (List GEdit) × (List GTxn) × Int) ⊕ (List GTxn))),f11_L0 n aE aC aD m aB aF = some r → maskR lv26 lv27 true 0 6 (evLoopH (headSt (some lv25) true 0 6) (evC PP (evF PP T n) n 0 L11_0) m (f11_L0_S aE aC aD aB aF)) = (match r with | .inl r => some (.ret,f11_L0_E0 aE aC aD r.1 r.2.1 r.2.2.1 r.2.2.2.1 r.2.2.2.2.1 r.2.2.2.2.2.1 r.2.2.2.2.2.2.1 r.2.2.2.2.2.2.2.1 r.2.2.2.2.2.2.2.2.1 r.2.2.2.2.2.2.2.2.2.1 r.2.2.2.2.2.2.2.2.2.2.1 r.2.2.2.2.2.2.2.2.2.2.2) | .inr r => some ((.exit 0),f11_L0_E1 aE aC aD r))
 | 0,_,_,_,h => by cases h
 | m + 1,aB,aF,r,h => by
  rw [f11_L0] at h
  rcases cn h with ⟨bU,aG,h⟩ | ⟨bU,aG,h⟩
  rotate_left
  ·obtain rfl:=si h
   exact last_q (some lv25) true (f11_L0_E1 aE aC aD aB) (qa 20 aG <| q0) [] [] (by exact (clo rfl (clo rfl (clo rfl (clo (clo_blk (c_GTxn_clean 6)) (clo rfl (clo rfl rfl)))))))
  obtain ⟨aA,bV,h⟩:=bnd_some h
  have aK:=idxl (H:=(hp76 aC aB aD)) (f:=false) (c:=c_GTxn) bV (c_GTxn_len _)
  obtain ⟨aI,bW,h⟩:=bnd_some h
  have aL:=prd_eq bW
  obtain ⟨bE,bX,h⟩:=bnd_some h
  have aM:=f22_ok aI aA _ bX
  rcases cn h with ⟨bY,aH,h⟩ | ⟨bY,aH,h⟩
  ·have bZ : evF PP T n 0 28 [(.agg [(iv aA.Office),(iv aA.Seq),(iv aA.Time),(sv aA.Source),(.sl false (List.map c_GEdit aA.Edits))]),(.ptr 5 1 0 0)] (hp77 aC aB aD aA) = some ((iv bE),(hp78 aC aB aD aA)):=by
    rw [aL]; exact evF_q F28 (qa 9 aH <| qa 7 aM <| q0) [] []
   obtain rfl:=si h
   exact last_q (some lv25) true (f11_L0_E0 aE aC aD aA.Office aA.Seq aA.Time aA.Source aA.Edits aA.Office aA.Seq aA.Time aA.Source aA.Edits aB bE) (qa 27 aH <| qc 25 bZ <| qa 21 aK <| qa 20 aG <| q0) [] [none,none] trivial
  obtain ⟨aj,ba,h⟩:=bnd_some h
  have bF:=prd_eq ba
  have bG : cleanQ false 0 8 [(.blk 2 [[(iv aC.ID),(.sl false (List.map c_GTxn aC.Txns))]]),(.blk 2 [[(iv 0),(.lit nilS)]]),(.blk 2 [[(iv aC.ID),(.sl false (List.map c_GTxn aC.Txns))]]),(.blk 5 (List.map c_GTxn aB)),(.blk 2 [[(iv aC.ID),(.ms 3 aD.length 0 aD.length)]]),(.blk 2 [[(iv aC.ID),(.ms 3 aB.length 0 aB.length)]]),(.blk 5 [(c_GTxn aA)]),(.blk 5 [(c_GTxn aA)])]:=trivial
  rcases bnd2_some h with ⟨bH,ap,h⟩ | ⟨dH,ap,h⟩
  rotate_left
  ·have aq:=f11_I48_L0_ok aj aB aC aD aA aj 0 _ ap
   have ak : evF PP T aI 0 48 [(.ms 3 aB.length 0 aB.length),(.fn 47 [(.ptr 7 1 0 0)])] (hp78 aC aB aD aA) = some ((iv (-1)),(hp78 aC aB aD aA)):=by
    rw [bF]; exact evF_q F48 (qp aq <| qp bG <| q0) [((.exit 0),f11_I48_L0_E1 aB aC aD aA)] []
   rcases cn h with ⟨bb,ab,h⟩ | ⟨bb,ab,h⟩
   ·have bc : evF PP T n 0 28 [(.agg [(iv aA.Office),(iv aA.Seq),(iv aA.Time),(sv aA.Source),(.sl false (List.map c_GEdit aA.Edits))]),(.ptr 5 1 0 0)] (hp77 aC aB aD aA) = some ((iv 3),(hp78 aC aB aD aA)):=by
     rw [aL]; exact evF_q F28 (qa 34 ab <| qb 14 ak <| qa 9 aH <| qa 7 aM <| q0) [] []
    obtain rfl:=si h
    exact last_q (some lv25) true (f11_L0_E0 aE aC aD aA.Office aA.Seq aA.Time aA.Source aA.Edits aA.Office aA.Seq aA.Time aA.Source aA.Edits aB 3) (qc 25 bc <| qa 21 aK <| qa 20 aG <| q0) [] [none,none] trivial
   obtain ⟨aN,bd,h⟩:=bnd_some h
   have ar:=prd_eq bd
   obtain ⟨al,be,h⟩:=bnd_some h
   have au:=prd_eq be
   have av : cleanQ false 0 10 [(.blk 2 [[(iv aC.ID),(.sl false (List.map c_GTxn aC.Txns))]]),(.blk 2 [[(iv 0),(.lit nilS)]]),(.blk 2 [[(iv aC.ID),(.sl false (List.map c_GTxn aC.Txns))]]),(.blk 5 (List.map c_GTxn aB)),(.blk 2 [[(iv aC.ID),(.ms 3 aD.length 0 aD.length)]]),(.blk 2 [[(iv aC.ID),(.ms 3 aB.length 0 aB.length)]]),(.blk 5 [(c_GTxn aA)]),(.blk 5 [(c_GTxn aA)]),(.blk 5 [(c_GTxn aA)]),(.blk 5 [(c_GTxn aA)])]:=trivial
   obtain ⟨aO,bg,h⟩:=bnd_some h
   have aw:=f11_I42_L0_ok al aB aC aD aA al ((aB.length : Nat) : Int) 0 _ bg
   rcases cn h with ⟨bh,am,h⟩ | ⟨bh,am,h⟩
   rotate_left
   ·have bi : evF PP T aN 0 42 [(.ms 3 aB.length 0 aB.length),(.agg [(iv aA.Office),(iv aA.Seq),(iv aA.Time),(sv aA.Source),(.sl false (List.map c_GEdit aA.Edits))]),(.fn 39 [])] (hp80 aC aB aD aA) = some ((.tup [(iv aO),bf]),(hp81 aC aB aD aA)):=by
     rw [au]; exact evF_q F42 (qa 38 am <| qp aw <| qp av <| q0) [((.exit 0),f11_I42_L0_E0 aB aC aD aA aO)] []
    obtain ⟨ac,bj,h⟩:=bnd_some h
    have bk:=f37_ok aN aA _ bj
    obtain ⟨dI,bl,h⟩:=bnd_some h
    have bm:=prd_eq bl
    obtain ⟨aR,bn,h⟩:=bnd_some h
    have bo : evF PP T aN 0 43 [(.ms 3 aB.length 0 aB.length),(iv aO),(.ms 10 1 0 1)] (hp82 aC aB aD aA ac) = some ((.ms 3 aR.length 0 aR.length),(hp83 aC aR aD aB aA ac)):=(by rw [bm]; exact ins_told (id:=3) (id2:=10) (l:=aB) (x:=ac) (by omega) (by decide) rfl rfl bn)
    have bp : evF PP T aI 0 24 [(.ptr 5 1 0 0),(.agg [(iv aA.Office),(iv aA.Seq),(iv aA.Time),(sv aA.Source),(.sl false (List.map c_GEdit aA.Edits))])] (hp78 aC aB aD aA) = some ((.tup []),(hp82 aC aR aD aA ac)):=by
     rw [ar]; exact evF_q F24 (qc 24 bo <| qa 22 bk <| qc 12 bi <| q0) [] [none]
    have bq : evF PP T n 0 28 [(.agg [(iv aA.Office),(iv aA.Seq),(iv aA.Time),(sv aA.Source),(.sl false (List.map c_GEdit aA.Edits))]),(.ptr 5 1 0 0)] (hp77 aC aB aD aA) = some ((iv 0),(hp82 aC aR aD aA ac)):=by
     rw [aL]; exact evF_q F28 (qc 36 bp <| qa 34 ab <| qb 14 ak <| qa 9 aH <| qa 7 aM <| q0) [] []
    exact nx_q (f11_L0_S aE aC aD aR (IntKind.i64.wrap (aF + 1))) (qc 25 bq <| qa 21 aK <| qa 20 aG <| q0) [] [none] (f11_L0_c _ _ _ _ _) (f11_L0_ok n aE aC aD m aR (IntKind.i64.wrap (aF + 1)) r h)
   obtain ⟨aY,bI,h⟩:=bnd_some h
   have bJ:=idx_ms (H:=(hp81 aC aB aD aA)) (id:=3) (s:=5) (c:=c_GTxn) bI rfl
   have bK:=ld_ms (P:=PP) (cf:=evF PP T al) (fl:=0) (H:=(hp81 aC aB aD aA)) (id:=3) (c:=c_GTxn) (off:=0) (n:=5) (agg:=true) (v:=(.agg [(iv aY.Office),(iv aY.Seq),(iv aY.Time),(sv aY.Source),(.sl false (List.map c_GEdit aY.Edits))])) bI rfl (by simp [c_GTxn_len]) rfl
   obtain ⟨dJ,br,h⟩:=bnd_some h
   have bs:=f39_ok al aY aA _ br
   have bL:=callA_pl (fl:=0) (H:=(hp81 aC aB aD aA)) rfl rfl bs
   rcases cn h with ⟨bu,ax,h⟩ | ⟨bu,ax,h⟩
   ·have bw : evF PP T aN 0 42 [(.ms 3 aB.length 0 aB.length),(.agg [(iv aA.Office),(iv aA.Seq),(iv aA.Time),(sv aA.Source),(.sl false (List.map c_GEdit aA.Edits))]),(.fn 39 [])] (hp80 aC aB aD aA) = some ((.tup [(iv aO),bt]),(hp81 aC aB aD aA)):=by
     rw [au]; exact evF_q F42 (qa 47 ax <| qb 46 bL <| qb 44 bK <| qa 43 bJ <| qa 38 am <| qp aw <| qp av <| q0) [((.exit 0),f11_I42_L0_E0 aB aC aD aA aO)] []
    obtain ⟨ad,bx,h⟩:=bnd_some h
    have bz:=f37_ok aN aA _ bx
    obtain ⟨dK,cA,h⟩:=bnd_some h
    have cB:=prd_eq cA
    obtain ⟨aS,cC,h⟩:=bnd_some h
    have cD : evF PP T aN 0 43 [(.ms 3 aB.length 0 aB.length),(iv aO),(.ms 10 1 0 1)] (hp82 aC aB aD aA ad) = some ((.ms 3 aS.length 0 aS.length),(hp83 aC aS aD aB aA ad)):=(by rw [cB]; exact ins_told (id:=3) (id2:=10) (l:=aB) (x:=ad) (by omega) (by decide) rfl rfl cC)
    have cE : evF PP T aI 0 24 [(.ptr 5 1 0 0),(.agg [(iv aA.Office),(iv aA.Seq),(iv aA.Time),(sv aA.Source),(.sl false (List.map c_GEdit aA.Edits))])] (hp78 aC aB aD aA) = some ((.tup []),(hp82 aC aS aD aA ad)):=by
     rw [ar]; exact evF_q F24 (qc 24 cD <| qa 22 bz <| qc 12 bw <| q0) [] [none]
    have cF : evF PP T n 0 28 [(.agg [(iv aA.Office),(iv aA.Seq),(iv aA.Time),(sv aA.Source),(.sl false (List.map c_GEdit aA.Edits))]),(.ptr 5 1 0 0)] (hp77 aC aB aD aA) = some ((iv 0),(hp82 aC aS aD aA ad)):=by
     rw [aL]; exact evF_q F28 (qc 36 cE <| qa 34 ab <| qb 14 ak <| qa 9 aH <| qa 7 aM <| q0) [] []
    exact nx_q (f11_L0_S aE aC aD aS (IntKind.i64.wrap (aF + 1))) (qc 25 cF <| qa 21 aK <| qa 20 aG <| q0) [] [none] (f11_L0_c _ _ _ _ _) (f11_L0_ok n aE aC aD m aS (IntKind.i64.wrap (aF + 1)) r h)
   have cG : evF PP T aN 0 42 [(.ms 3 aB.length 0 aB.length),(.agg [(iv aA.Office),(iv aA.Seq),(iv aA.Time),(sv aA.Source),(.sl false (List.map c_GEdit aA.Edits))]),(.fn 39 [])] (hp80 aC aB aD aA) = some ((.tup [(iv aO),bf]),(hp81 aC aB aD aA)):=by
    rw [au]; exact evF_q F42 (qa 47 ax <| qb 46 bL <| qb 44 bK <| qa 43 bJ <| qa 38 am <| qp aw <| qp av <| q0) [((.exit 0),f11_I42_L0_E0 aB aC aD aA aO)] []
   obtain ⟨ae,cH,h⟩:=bnd_some h
   have cI:=f37_ok aN aA _ cH
   obtain ⟨dL,cJ,h⟩:=bnd_some h
   have cK:=prd_eq cJ
   obtain ⟨aT,cL,h⟩:=bnd_some h
   have cM : evF PP T aN 0 43 [(.ms 3 aB.length 0 aB.length),(iv aO),(.ms 10 1 0 1)] (hp82 aC aB aD aA ae) = some ((.ms 3 aT.length 0 aT.length),(hp83 aC aT aD aB aA ae)):=(by rw [cK]; exact ins_told (id:=3) (id2:=10) (l:=aB) (x:=ae) (by omega) (by decide) rfl rfl cL)
   have cN : evF PP T aI 0 24 [(.ptr 5 1 0 0),(.agg [(iv aA.Office),(iv aA.Seq),(iv aA.Time),(sv aA.Source),(.sl false (List.map c_GEdit aA.Edits))])] (hp78 aC aB aD aA) = some ((.tup []),(hp82 aC aT aD aA ae)):=by
    rw [ar]; exact evF_q F24 (qc 24 cM <| qa 22 cI <| qc 12 cG <| q0) [] [none]
   have cO : evF PP T n 0 28 [(.agg [(iv aA.Office),(iv aA.Seq),(iv aA.Time),(sv aA.Source),(.sl false (List.map c_GEdit aA.Edits))]),(.ptr 5 1 0 0)] (hp77 aC aB aD aA) = some ((iv 0),(hp82 aC aT aD aA ae)):=by
    rw [aL]; exact evF_q F28 (qc 36 cN <| qa 34 ab <| qb 14 ak <| qa 9 aH <| qa 7 aM <| q0) [] []
   exact nx_q (f11_L0_S aE aC aD aT (IntKind.i64.wrap (aF + 1))) (qc 25 cO <| qa 21 aK <| qa 20 aG <| q0) [] [none] (f11_L0_c _ _ _ _ _) (f11_L0_ok n aE aC aD m aT (IntKind.i64.wrap (aF + 1)) r h)
  have aq:=f11_I48_L0_ok aj aB aC aD aA aj 0 _ ap
  have aZ : evF PP T aI 0 48 [(.ms 3 aB.length 0 aB.length),(.fn 47 [(.ptr 7 1 0 0)])] (hp78 aC aB aD aA) = some ((iv bH),(hp78 aC aB aD aA)):=by
   rw [bF]; exact evF_q F48 (qp aq <| qp bG <| q0) [(.ret,f11_I48_L0_E0 aB aC aD aA bH)] []
  rcases cn h with ⟨cP,aJ,h⟩ | ⟨cP,aJ,h⟩
  ·obtain ⟨aU,bM,h⟩:=bnd_some h
   have bN:=idx_ms (H:=(hp78 aC aB aD aA)) (id:=3) (s:=5) (c:=c_GTxn) bM rfl
   have bO:=ld_ms (P:=PP) (cf:=evF PP T aI) (fl:=0) (H:=(hp78 aC aB aD aA)) (id:=3) (c:=c_GTxn) (off:=0) (n:=5) (agg:=true) (v:=(.agg [(iv aU.Office),(iv aU.Seq),(iv aU.Time),(sv aU.Source),(.sl false (List.map c_GEdit aU.Edits))])) bM rfl (by simp [c_GTxn_len]) rfl
   obtain ⟨dM,bP,h⟩:=bnd_some h
   rcases cn h with ⟨ay,cQ,h⟩ | ⟨ay,cQ,h⟩
   ·have cR:=by have q:=f49_ok aI aU aA _ bP; rw [ay] at q; exact q
    have cS : evF PP T n 0 28 [(.agg [(iv aA.Office),(iv aA.Seq),(iv aA.Time),(sv aA.Source),(.sl false (List.map c_GEdit aA.Edits))]),(.ptr 5 1 0 0)] (hp77 aC aB aD aA) = some ((iv 0),(hp78 aC aB aD aA)):=by
     rw [aL]; exact evF_q F28 (qa 25 cR <| qb 23 bO <| qa 22 bN <| qa 17 aJ <| qb 14 aZ <| qa 9 aH <| qa 7 aM <| q0) [] []
    exact nx_q (f11_L0_S aE aC aD aB (IntKind.i64.wrap (aF + 1))) (qc 25 cS <| qa 21 aK <| qa 20 aG <| q0) [] [none] (f11_L0_c _ _ _ _ _) (f11_L0_ok n aE aC aD m aB (IntKind.i64.wrap (aF + 1)) r h)
   have cT:=by have q:=f49_ok aI aU aA _ bP; rw [ay] at q; exact q
   have cU : evF PP T n 0 28 [(.agg [(iv aA.Office),(iv aA.Seq),(iv aA.Time),(sv aA.Source),(.sl false (List.map c_GEdit aA.Edits))]),(.ptr 5 1 0 0)] (hp77 aC aB aD aA) = some ((iv 16),(hp78 aC aB aD aA)):=by
    rw [aL]; exact evF_q F28 (qa 29 aJ <| qa 25 cT <| qb 23 bO <| qa 22 bN <| qa 17 aJ <| qb 14 aZ <| qa 9 aH <| qa 7 aM <| q0) [] []
   obtain rfl:=si h
   exact last_q (some lv25) true (f11_L0_E0 aE aC aD aA.Office aA.Seq aA.Time aA.Source aA.Edits aA.Office aA.Seq aA.Time aA.Source aA.Edits aB 16) (qc 25 cU <| qa 21 aK <| qa 20 aG <| q0) [] [none,none] trivial
  rcases cn h with ⟨cV,af,h⟩ | ⟨cV,af,h⟩
  ·have cW : evF PP T n 0 28 [(.agg [(iv aA.Office),(iv aA.Seq),(iv aA.Time),(sv aA.Source),(.sl false (List.map c_GEdit aA.Edits))]),(.ptr 5 1 0 0)] (hp77 aC aB aD aA) = some ((iv 3),(hp78 aC aB aD aA)):=by
    rw [aL]; exact evF_q F28 (qa 34 af <| qa 29 aJ <| qa 17 aJ <| qb 14 aZ <| qa 9 aH <| qa 7 aM <| q0) [] []
   obtain rfl:=si h
   exact last_q (some lv25) true (f11_L0_E0 aE aC aD aA.Office aA.Seq aA.Time aA.Source aA.Edits aA.Office aA.Seq aA.Time aA.Source aA.Edits aB 3) (qc 25 cW <| qa 21 aK <| qa 20 aG <| q0) [] [none,none] trivial
  obtain ⟨aP,cX,h⟩:=bnd_some h
  have az:=prd_eq cX
  obtain ⟨an,cY,h⟩:=bnd_some h
  have bA:=prd_eq cY
  have bB : cleanQ false 0 10 [(.blk 2 [[(iv aC.ID),(.sl false (List.map c_GTxn aC.Txns))]]),(.blk 2 [[(iv 0),(.lit nilS)]]),(.blk 2 [[(iv aC.ID),(.sl false (List.map c_GTxn aC.Txns))]]),(.blk 5 (List.map c_GTxn aB)),(.blk 2 [[(iv aC.ID),(.ms 3 aD.length 0 aD.length)]]),(.blk 2 [[(iv aC.ID),(.ms 3 aB.length 0 aB.length)]]),(.blk 5 [(c_GTxn aA)]),(.blk 5 [(c_GTxn aA)]),(.blk 5 [(c_GTxn aA)]),(.blk 5 [(c_GTxn aA)])]:=trivial
  obtain ⟨aQ,cZ,h⟩:=bnd_some h
  have bC:=f11_I42_L0_ok an aB aC aD aA an ((aB.length : Nat) : Int) 0 _ cZ
  rcases cn h with ⟨ca,ao,h⟩ | ⟨ca,ao,h⟩
  rotate_left
  ·have cb : evF PP T aP 0 42 [(.ms 3 aB.length 0 aB.length),(.agg [(iv aA.Office),(iv aA.Seq),(iv aA.Time),(sv aA.Source),(.sl false (List.map c_GEdit aA.Edits))]),(.fn 39 [])] (hp80 aC aB aD aA) = some ((.tup [(iv aQ),bf]),(hp81 aC aB aD aA)):=by
    rw [bA]; exact evF_q F42 (qa 38 ao <| qp bC <| qp bB <| q0) [((.exit 0),f11_I42_L0_E0 aB aC aD aA aQ)] []
   obtain ⟨ag,cc,h⟩:=bnd_some h
   have cd:=f37_ok aP aA _ cc
   obtain ⟨dN,ce,h⟩:=bnd_some h
   have cg:=prd_eq ce
   obtain ⟨aV,ch,h⟩:=bnd_some h
   have ci : evF PP T aP 0 43 [(.ms 3 aB.length 0 aB.length),(iv aQ),(.ms 10 1 0 1)] (hp82 aC aB aD aA ag) = some ((.ms 3 aV.length 0 aV.length),(hp83 aC aV aD aB aA ag)):=(by rw [cg]; exact ins_told (id:=3) (id2:=10) (l:=aB) (x:=ag) (by omega) (by decide) rfl rfl ch)
   have cj : evF PP T aI 0 24 [(.ptr 5 1 0 0),(.agg [(iv aA.Office),(iv aA.Seq),(iv aA.Time),(sv aA.Source),(.sl false (List.map c_GEdit aA.Edits))])] (hp78 aC aB aD aA) = some ((.tup []),(hp82 aC aV aD aA ag)):=by
    rw [az]; exact evF_q F24 (qc 24 ci <| qa 22 cd <| qc 12 cb <| q0) [] [none]
   have ck : evF PP T n 0 28 [(.agg [(iv aA.Office),(iv aA.Seq),(iv aA.Time),(sv aA.Source),(.sl false (List.map c_GEdit aA.Edits))]),(.ptr 5 1 0 0)] (hp77 aC aB aD aA) = some ((iv 0),(hp82 aC aV aD aA ag)):=by
    rw [aL]; exact evF_q F28 (qc 36 cj <| qa 34 af <| qa 29 aJ <| qa 17 aJ <| qb 14 aZ <| qa 9 aH <| qa 7 aM <| q0) [] []
   exact nx_q (f11_L0_S aE aC aD aV (IntKind.i64.wrap (aF + 1))) (qc 25 ck <| qa 21 aK <| qa 20 aG <| q0) [] [none] (f11_L0_c _ _ _ _ _) (f11_L0_ok n aE aC aD m aV (IntKind.i64.wrap (aF + 1)) r h)
  obtain ⟨aa,bQ,h⟩:=bnd_some h
  have bR:=idx_ms (H:=(hp81 aC aB aD aA)) (id:=3) (s:=5) (c:=c_GTxn) bQ rfl
  have bS:=ld_ms (P:=PP) (cf:=evF PP T an) (fl:=0) (H:=(hp81 aC aB aD aA)) (id:=3) (c:=c_GTxn) (off:=0) (n:=5) (agg:=true) (v:=(.agg [(iv aa.Office),(iv aa.Seq),(iv aa.Time),(sv aa.Source),(.sl false (List.map c_GEdit aa.Edits))])) bQ rfl (by simp [c_GTxn_len]) rfl
  obtain ⟨dO,cl,h⟩:=bnd_some h
  have cm:=f39_ok an aa aA _ cl
  have bT:=callA_pl (fl:=0) (H:=(hp81 aC aB aD aA)) rfl rfl cm
  rcases cn h with ⟨co,bD,h⟩ | ⟨co,bD,h⟩
  ·have cp : evF PP T aP 0 42 [(.ms 3 aB.length 0 aB.length),(.agg [(iv aA.Office),(iv aA.Seq),(iv aA.Time),(sv aA.Source),(.sl false (List.map c_GEdit aA.Edits))]),(.fn 39 [])] (hp80 aC aB aD aA) = some ((.tup [(iv aQ),bt]),(hp81 aC aB aD aA)):=by
    rw [bA]; exact evF_q F42 (qa 47 bD <| qb 46 bT <| qb 44 bS <| qa 43 bR <| qa 38 ao <| qp bC <| qp bB <| q0) [((.exit 0),f11_I42_L0_E0 aB aC aD aA aQ)] []
   obtain ⟨ah,cq,h⟩:=bnd_some h
   have cr:=f37_ok aP aA _ cq
   obtain ⟨dP,cs,h⟩:=bnd_some h
   have ct:=prd_eq cs
   obtain ⟨aW,cu,h⟩:=bnd_some h
   have cv : evF PP T aP 0 43 [(.ms 3 aB.length 0 aB.length),(iv aQ),(.ms 10 1 0 1)] (hp82 aC aB aD aA ah) = some ((.ms 3 aW.length 0 aW.length),(hp83 aC aW aD aB aA ah)):=(by rw [ct]; exact ins_told (id:=3) (id2:=10) (l:=aB) (x:=ah) (by omega) (by decide) rfl rfl cu)
   have cw : evF PP T aI 0 24 [(.ptr 5 1 0 0),(.agg [(iv aA.Office),(iv aA.Seq),(iv aA.Time),(sv aA.Source),(.sl false (List.map c_GEdit aA.Edits))])] (hp78 aC aB aD aA) = some ((.tup []),(hp82 aC aW aD aA ah)):=by
    rw [az]; exact evF_q F24 (qc 24 cv <| qa 22 cr <| qc 12 cp <| q0) [] [none]
   have cx : evF PP T n 0 28 [(.agg [(iv aA.Office),(iv aA.Seq),(iv aA.Time),(sv aA.Source),(.sl false (List.map c_GEdit aA.Edits))]),(.ptr 5 1 0 0)] (hp77 aC aB aD aA) = some ((iv 0),(hp82 aC aW aD aA ah)):=by
    rw [aL]; exact evF_q F28 (qc 36 cw <| qa 34 af <| qa 29 aJ <| qa 17 aJ <| qb 14 aZ <| qa 9 aH <| qa 7 aM <| q0) [] []
   exact nx_q (f11_L0_S aE aC aD aW (IntKind.i64.wrap (aF + 1))) (qc 25 cx <| qa 21 aK <| qa 20 aG <| q0) [] [none] (f11_L0_c _ _ _ _ _) (f11_L0_ok n aE aC aD m aW (IntKind.i64.wrap (aF + 1)) r h)
  have cy : evF PP T aP 0 42 [(.ms 3 aB.length 0 aB.length),(.agg [(iv aA.Office),(iv aA.Seq),(iv aA.Time),(sv aA.Source),(.sl false (List.map c_GEdit aA.Edits))]),(.fn 39 [])] (hp80 aC aB aD aA) = some ((.tup [(iv aQ),bf]),(hp81 aC aB aD aA)):=by
   rw [bA]; exact evF_q F42 (qa 47 bD <| qb 46 bT <| qb 44 bS <| qa 43 bR <| qa 38 ao <| qp bC <| qp bB <| q0) [((.exit 0),f11_I42_L0_E0 aB aC aD aA aQ)] []
  obtain ⟨ai,cz,h⟩:=bnd_some h
  have dA:=f37_ok aP aA _ cz
  obtain ⟨dQ,dB,h⟩:=bnd_some h
  have dC:=prd_eq dB
  obtain ⟨aX,dD,h⟩:=bnd_some h
  have dE : evF PP T aP 0 43 [(.ms 3 aB.length 0 aB.length),(iv aQ),(.ms 10 1 0 1)] (hp82 aC aB aD aA ai) = some ((.ms 3 aX.length 0 aX.length),(hp83 aC aX aD aB aA ai)):=(by rw [dC]; exact ins_told (id:=3) (id2:=10) (l:=aB) (x:=ai) (by omega) (by decide) rfl rfl dD)
  have dF : evF PP T aI 0 24 [(.ptr 5 1 0 0),(.agg [(iv aA.Office),(iv aA.Seq),(iv aA.Time),(sv aA.Source),(.sl false (List.map c_GEdit aA.Edits))])] (hp78 aC aB aD aA) = some ((.tup []),(hp82 aC aX aD aA ai)):=by
   rw [az]; exact evF_q F24 (qc 24 dE <| qa 22 dA <| qc 12 cy <| q0) [] [none]
  have dG : evF PP T n 0 28 [(.agg [(iv aA.Office),(iv aA.Seq),(iv aA.Time),(sv aA.Source),(.sl false (List.map c_GEdit aA.Edits))]),(.ptr 5 1 0 0)] (hp77 aC aB aD aA) = some ((iv 0),(hp82 aC aX aD aA ai)):=by
   rw [aL]; exact evF_q F28 (qc 36 dF <| qa 34 af <| qa 29 aJ <| qa 17 aJ <| qb 14 aZ <| qa 9 aH <| qa 7 aM <| q0) [] []
  exact nx_q (f11_L0_S aE aC aD aX (IntKind.i64.wrap (aF + 1))) (qc 25 dG <| qa 21 aK <| qa 20 aG <| q0) [] [none] (f11_L0_c _ _ _ _ _) (f11_L0_ok n aE aC aD m aX (IntKind.i64.wrap (aF + 1)) r h)
abbrev hp84 (a3567 : GOffice) (v4527 : (List GTxn)) (v3619 : (List GTxn)) : Heap:=[(.blk 2 [[(iv a3567.ID),(.sl false (List.map c_GTxn a3567.Txns))]]),(.blk 2 [[(iv a3567.ID),(.ms 3 v4527.length 0 v4527.length)]]),(.blk 2 [[(iv a3567.ID),(.sl false (List.map c_GTxn a3567.Txns))]]),(.blk 5 (List.map c_GTxn v4527)),(.blk 2 [[(iv a3567.ID),(.ms 3 v3619.length 0 v3619.length)]]),(.blk 2 [[(iv a3567.ID),(.ms 3 v4527.length 0 v4527.length)]])]
def f11 : Nat → GOffice → (List GTxn) → Option (GOffice × Int)
 | 0,_,_ => none
 | n + 1,aA,aD => (bnd (f21 n aA) fun aE => (cnd (aE) (bnd (prd n) fun aB => (bnd (f11_I23_L0 aB aA aB [] 0) fun aC => (bnd2 (f11_L0 n aD aA aC n aC 0) (fun aF => (some ((GOffice.mk 0 []),aF.2.2.2.2.2.2.2.2.2.2.2))) (fun aG => (some ((GOffice.mk aA.ID aG),0)))))) (some ((GOffice.mk 0 []),19))))
theorem f11_ok (n : Nat) (aA : GOffice) (aE : (List GTxn)) (r : (GOffice × Int)) (h : f11 n aA aE = some r) : pv PP T n 11 [(.agg (c_GOffice aA)),(.sl false (List.map c_GTxn aE))] = some (.tup [(.agg (c_GOffice r.1)),(iv r.2)]):=by
 cases n with
 | zero => cases h
 | succ n =>
  rw [f11] at h
  obtain ⟨aW,aJ,h⟩:=bnd_some h
  rcases cn h with ⟨aF,aO,h⟩ | ⟨aF,aO,h⟩
  rotate_left
  ·have aP:=by have q:=f21_ok n aA _ aJ; rw [aF] at q; exact q
   obtain rfl:=si h
   exact pv_q F11 (qa 11 aP <| q0) [] [none]
  have aK:=by have q:=f21_ok n aA _ aJ; rw [aF] at q; exact q
  obtain ⟨aG,aQ,h⟩:=bnd_some h
  have aR:=prd_eq aQ
  have aS:=len_sl (P:=PP) (cf:=evF PP T aG) (fl:=2) (H:=(hp72 aA)) (f:=false) (c:=c_GTxn) (l:=aA.Txns)
  have aT : cleanQ true 2 5 [(.blk 2 [[(iv aA.ID),(.sl false (List.map c_GTxn aA.Txns))]]),(.blk 2 [[(iv 0),(.lit nilS)]]),(.blk 2 [[(iv aA.ID),(.sl false (List.map c_GTxn aA.Txns))]]),(.blk 5 (List.map c_GTxn [])),(.blk 2 [[(iv aA.ID),(.ms 3 0 0 0)]])]:=(by exact (clo rfl (clo (clo_blk (c_GTxn_clean 5)) (clo rfl rfl))))
  obtain ⟨aB,aU,h⟩:=bnd_some h
  have aV:=f11_I23_L0_ok aG aA aG [] 0 _ aU
  have aL : evF PP T n 2 23 [(.agg [(iv aA.ID),(.sl false (List.map c_GTxn aA.Txns))])] (hp30 aA) = some ((.agg [(iv aA.ID),(.ms 3 aB.length 0 aB.length)]),(hp73 aA aB)):=by
   rw [aR]; exact evF_q F23 (qp aV <| qp aT <| qb 10 aS <| q0) [((.exit 0),f11_I23_L0_E0 aA aB)] [none,none]
  have aM:=len_sl (P:=PP) (cf:=evF PP T n) (fl:=0) (H:=(hp75 aA aB)) (f:=false) (c:=c_GTxn) (l:=aE)
  have aN : cleanQ true 0 6 [(.blk 2 [[(iv aA.ID),(.sl false (List.map c_GTxn aA.Txns))]]),(.blk 2 [[(iv 0),(.lit nilS)]]),(.blk 2 [[(iv aA.ID),(.sl false (List.map c_GTxn aA.Txns))]]),(.blk 5 (List.map c_GTxn aB)),(.blk 2 [[(iv aA.ID),(.ms 3 aB.length 0 aB.length)]]),(.blk 2 [[(iv aA.ID),(.ms 3 aB.length 0 aB.length)]])]:=(by exact (clo rfl (clo rfl (clo rfl (clo (clo_blk (c_GTxn_clean 6)) (clo rfl (clo rfl rfl)))))))
  rcases bnd2_some h with ⟨aC,aH,h⟩ | ⟨aD,aH,h⟩
  ·have aI:=f11_L0_ok n aE aA aB n aB 0 _ aH
   obtain rfl:=si h
   exact pv_q F11 (qp aI <| qp aN <| qb 18 aM <| qc 15 aL <| qa 11 aK <| q0) [(.ret,f11_L0_E0 aE aA aB aC.1 aC.2.1 aC.2.2.1 aC.2.2.2.1 aC.2.2.2.2.1 aC.2.2.2.2.2.1 aC.2.2.2.2.2.2.1 aC.2.2.2.2.2.2.2.1 aC.2.2.2.2.2.2.2.2.1 aC.2.2.2.2.2.2.2.2.2.1 aC.2.2.2.2.2.2.2.2.2.2.1 aC.2.2.2.2.2.2.2.2.2.2.2)] [none]
  have aI:=f11_L0_ok n aE aA aB n aB 0 _ aH
  obtain rfl:=si h
  refine pv_evF (evF_q F11 (qp aI <| qp aN <| qb 18 aM <| qc 15 aL <| qa 11 aK <| q0) [((.exit 0),f11_L0_E1 aE aA aB aD)] [none,none] (r:=(.tup [(.agg [(iv aA.ID),(.ms 3 aD.length 0 aD.length)]),(iv 0)])) (H':=(hp84 aA aD aB))) ?_
  show (AV.tup [(AV.agg [(seal1 (hp84 aA aD aB) 0 (iv aA.ID)),(seal1 (hp84 aA aD aB) 0 (.ms 3 aD.length 0 aD.length))]),(seal1 (hp84 aA aD aB) 0 (iv 0))]) = _
  rw [seal1_ms (H:=(hp84 aA aD aB)) (id:=3) (s:=5) (c:=c_GTxn) (l:=aD) rfl (c_GTxn_seal _ _ _)]
  first | done | rfl
def f93 : Nat → ByteArray → Option Int
 | 0,_ => none
 | n + 1,aA => (cnd (((aA.size : Nat) : Int) == 1) (bnd (sat aA 0) fun aB => (some (IntKind.i64.wrap aB))) (cnd (((aA.size : Nat) : Int) == 2) (bnd (sat aA 0) fun aC => (bnd (sat aA 1) fun aD => (some (IntKind.i64.wrap ((IntKind.i64.wrap ((Int.tmod (IntKind.i64.wrap aC) 32) * 64)) + (Int.tmod (IntKind.i64.wrap aD) 64)))))) (bnd (sat aA 0) fun aE => (bnd (sat aA 1) fun aF => (bnd (sat aA 2) fun aG => (some (IntKind.i64.wrap ((IntKind.i64.wrap ((IntKind.i64.wrap ((Int.tmod (IntKind.i64.wrap aE) 16) * 4096)) + (IntKind.i64.wrap ((Int.tmod (IntKind.i64.wrap aF) 64) * 64)))) + (Int.tmod (IntKind.i64.wrap aG) 64)))))))))
def f119 : Nat → Int → Option Bool
 | 0,_ => none
 | n + 1,aA => (cnd (decide (aA ≥ 48)) (cnd (decide (aA ≤ 57)) (some true) (some false)) (some false))
def f94 : Nat → Int → Option Int
 | 0,_ => none
 | n + 1,aA => (cnd (aA == 32) (some 0) (cnd (aA == 39) (some 0) (cnd (aA == 40) (some 0) (cnd (aA == 41) (some 0) (cnd (aA == 45) (some 0) (cnd (aA == 46) (some 0) (bnd (f119 n aA) fun aB => (cnd (aB) (some 0) (cnd (decide (aA ≥ 65)) (cnd (decide (aA ≤ 90)) (some 1) (cnd (decide (aA ≥ 97)) (cnd (decide (aA ≤ 122)) (some 1) (cnd (decide (aA ≥ 192)) (cnd (decide (aA ≤ 591)) (cnd (aA != 215) (cnd (aA != 247) (some 1) (some (-1))) (some (-1))) (cnd (decide (aA ≥ 880)) (cnd (decide (aA ≤ 1023)) (some 2) (cnd (decide (aA ≤ 1279)) (some 3) (cnd (decide (aA ≥ 1488)) (cnd (decide (aA ≤ 1514)) (some 4) (cnd (decide (aA ≥ 19968)) (cnd (decide (aA ≤ 40959)) (some 5) (some (-1))) (some (-1)))) (some (-1))))) (some (-1)))) (some (-1)))) (some (-1)))) (some (-1)))))))))))
def f95 : Nat → Int → Option ByteArray
 | 0,_ => none
 | n + 1,aA => (cnd (decide (aA < 128)) (some (strOfB [(IntKind.u8.wrap aA)])) (cnd (decide (aA < 2048)) (some (strOfB [(IntKind.u8.wrap (IntKind.i64.wrap (192 + (IntKind.i64.wrap (Int.tdiv aA 64))))),(IntKind.u8.wrap (IntKind.i64.wrap (128 + (Int.tmod aA 64))))])) (some (strOfB [(IntKind.u8.wrap (IntKind.i64.wrap (224 + (IntKind.i64.wrap (Int.tdiv aA 4096))))),(IntKind.u8.wrap (IntKind.i64.wrap (128 + (Int.tmod (IntKind.i64.wrap (Int.tdiv aA 64)) 64)))),(IntKind.u8.wrap (IntKind.i64.wrap (128 + (Int.tmod aA 64))))]))))
def f70_L1 (n : Nat) (aC : ByteArray) (aA : Int) : Nat → (List Int) → Int → Int → Option ((List Int) × Int)
 | 0,_,_,_ => none
 | m + 1,aD,aE,aB => (cnd (decide (aB ≤ 3)) (cnd (decide ((IntKind.i64.wrap (aA + aB)) ≤ ((aC.size : Nat) : Int))) (cnd (aE == 0) (bnd (cutS aC aA (IntKind.i64.wrap (aA + aB))) fun aG => (bnd (f93 n aG) fun aF => (bnd (f94 n aF) fun aH => (cnd (decide (aH ≥ 0)) (bnd (f95 n aF) fun aI => (bnd (cutS aC aA (IntKind.i64.wrap (aA + aB))) fun aJ => (cnd (decide (aI = aJ)) (bnd (app aD [aF]) fun aK => (f70_L1 n aC aA m aK aB (IntKind.i64.wrap (aB + 1)))) (f70_L1 n aC aA m aD aE (IntKind.i64.wrap (aB + 1)))))) (f70_L1 n aC aA m aD aE (IntKind.i64.wrap (aB + 1))))))) (some (aD,aE))) (some (aD,aE))) (some (aD,aE)))
def f70_L0 (n : Nat) (aB : ByteArray) : Nat → (List Int) → Int → Option ((List Int) ⊕ (List Int))
 | 0,_,_ => none
 | m + 1,aD,aC => (cnd (decide (aC < ((aB.size : Nat) : Int))) (bnd (f70_L1 n aB aC n aD 0 1) fun aA => (cnd (aA.2 == 0) (some (Sum.inl aA.1)) (f70_L0 n aB m aA.1 (IntKind.i64.wrap (aC + aA.2))))) (some (Sum.inr aD)))
def f70 : Nat → ByteArray → Option ((List Int) × Int)
 | 0,_ => none
 | n + 1,aA => (bnd2 (f70_L0 n aA n [] 0) (fun aC => (some ([],4))) (fun aB => (some (aB,0))))
def f71_L0 (n : Nat) (aA : (List Int)) : Nat → Int → Option (Unit ⊕ Unit)
 | 0,_ => none
 | m + 1,aB => (cnd (decide (aB < ((aA.length : Nat) : Int))) (bnd (idx aA aB) fun aC => (cnd (aC == 32) (bnd (idx aA (IntKind.i64.wrap (aB - 1))) fun aD => (cnd (aD == 32) (some (Sum.inl ())) (f71_L0 n aA m (IntKind.i64.wrap (aB + 1))))) (f71_L0 n aA m (IntKind.i64.wrap (aB + 1))))) (some (Sum.inr ())))
def f71 : Nat → (List Int) → Option Bool
 | 0,_ => none
 | n + 1,aA => (bnd (idx aA 0) fun aB => (cnd (aB == 32) (some true) (bnd (idx aA (IntKind.i64.wrap (((aA.length : Nat) : Int) - 1))) fun aC => (cnd (aC == 32) (some true) (bnd2 (f71_L0 n aA n 1) (fun aD => (some true)) (fun aE => (some false)))))))
def f72_L0 (n : Nat) (aA : (List Int)) : Nat → Int → Option (Unit ⊕ Unit)
 | 0,_ => none
 | m + 1,aB => (cnd (decide (aB < ((aA.length : Nat) : Int))) (bnd (idx aA aB) fun aC => (bnd (f94 n aC) fun aD => (cnd (aD != 0) (some (Sum.inl ())) (f72_L0 n aA m (IntKind.i64.wrap (aB + 1)))))) (some (Sum.inr ())))
def f72 : Nat → (List Int) → Option Bool
 | 0,_ => none
 | n + 1,aA => (bnd2 (f72_L0 n aA n 0) (fun aB => (some false)) (fun aC => (some true)))
def f45 : Nat → ByteArray → Option Int
 | 0,_ => none
 | n + 1,aB => (cnd (decide (aB = (⟨#[]⟩ : ByteArray))) (some 14) (cnd (decide (((aB.size : Nat) : Int) > 40)) (some 3) (bnd (f70 n aB) fun aA => (cnd (aA.2 != 0) (some aA.2) (cnd (((aA.1.length : Nat) : Int) == 0) (some 14) (bnd (f71 n aA.1) fun aC => (cnd (aC) (some 14) (bnd (f72 n aA.1) fun aD => (cnd (aD) (some 14) (some 0))))))))))
def f73 : Nat → Int → Option Int
 | 0,_ => none
 | n + 1,aA => (cnd (aA == 1) (some 1) (cnd (aA == 2) (some 1) (cnd (aA == 8) (some 1) (cnd (aA == 3) (some 2) (cnd (aA == 4) (some 2) (cnd (aA == 5) (some 3) (cnd (aA == 6) (some 3) (cnd (aA == 7) (some 3) (some 0)))))))))
def f74 : Nat → Int → Option ByteArray
 | 0,_ => none
 | n + 1,aA => (cnd (aA == 1) (some ⟨#[116]⟩) (cnd (aA == 3) (some ⟨#[116]⟩) (cnd (aA == 4) (some ⟨#[97,98,99,118]⟩) (cnd (aA == 6) (some ⟨#[118]⟩) (cnd (aA == 7) (some ⟨#[97,98,110,112]⟩) (cnd (aA == 9) (some ⟨#[110]⟩) (cnd (aA == 10) (some ⟨#[98]⟩) (cnd (aA == 11) (some ⟨#[112]⟩) (cnd (aA == 12) (some ⟨#[97]⟩) (some ⟨#[]⟩))))))))))
def f75_0 : Nat → GEdit → Option Bool
 | 0,_ => none
 | n + 1,aA => (bnd (prdk 1 n) fun aB => (cnd (decide (aA.At = (GPoint.mk 0 0))) (cnd (aA.A != 0) (some false) (cnd (aA.B != 0) (some false) (cnd (aA.C != 0) (some false) (cnd (((aA.Via.length : Nat) : Int) == 0) (cnd (decide (aA.Name = (⟨#[]⟩ : ByteArray))) (cnd (((aA.Parts.length : Nat) : Int) == 0) (some true) (some false)) (some false)) (some false))))) (some false)))
def f75_1 : Nat → GEdit → Option Bool
 | 0,_ => none
 | n + 1,aA => (bnd (prdk 2 n) fun aB => (cnd (aA.A != 0) (some false) (cnd (aA.B != 0) (some false) (cnd (aA.C != 0) (some false) (cnd (((aA.Via.length : Nat) : Int) == 0) (cnd (decide (aA.Name = (⟨#[]⟩ : ByteArray))) (cnd (((aA.Parts.length : Nat) : Int) == 0) (some true) (some false)) (some false)) (some false))))))
def f75_2 : Nat → GEdit → Option Bool
 | 0,_ => none
 | n + 1,aA => (bnd (prdk 5 n) fun aB => (cnd (decide (aA.At = (GPoint.mk 0 0))) (cnd (decide (aA.Name = (⟨#[]⟩ : ByteArray))) (cnd (((aA.Parts.length : Nat) : Int) == 0) (some true) (some false)) (some false)) (some false)))
def f75_3 : Nat → GEdit → Option Bool
 | 0,_ => none
 | n + 1,aA => (bnd (prdk 2 n) fun aB => (cnd (decide (aA.At = (GPoint.mk 0 0))) (cnd (aA.A != 0) (some false) (cnd (aA.B != 0) (some false) (cnd (aA.C != 0) (some false) (cnd (decide (aA.Name = (⟨#[]⟩ : ByteArray))) (cnd (((aA.Parts.length : Nat) : Int) == 0) (some true) (some false)) (some false))))) (some false)))
def f75_4 : Nat → GEdit → Option Bool
 | 0,_ => none
 | n + 1,aA => (bnd (prdk 5 n) fun aB => (cnd (decide (aA.At = (GPoint.mk 0 0))) (cnd (aA.C != 0) (some false) (cnd (((aA.Via.length : Nat) : Int) == 0) (some true) (some false))) (some false)))
def f75_5 : Nat → GEdit → Option Bool
 | 0,_ => none
 | n + 1,aA => (bnd (prdk 2 n) fun aB => (cnd (decide (aA.At = (GPoint.mk 0 0))) (cnd (aA.A != 0) (some false) (cnd (aA.B != 0) (some false) (cnd (aA.C != 0) (some false) (cnd (((aA.Via.length : Nat) : Int) == 0) (cnd (((aA.Parts.length : Nat) : Int) == 0) (some true) (some false)) (some false))))) (some false)))
def f75_6 : Nat → GEdit → Option Bool
 | 0,_ => none
 | n + 1,aA => (bnd (prdk 2 n) fun aB => (cnd (decide (aA.At = (GPoint.mk 0 0))) (cnd (aA.A != 0) (some false) (cnd (aA.C != 0) (some false) (cnd (((aA.Via.length : Nat) : Int) == 0) (cnd (decide (aA.Name = (⟨#[]⟩ : ByteArray))) (cnd (((aA.Parts.length : Nat) : Int) == 0) (some true) (some false)) (some false)) (some false)))) (some false)))
def f75_7 : Nat → GEdit → Option Bool
 | 0,_ => none
 | n + 1,aA => (bnd (prdk 2 n) fun aB => (cnd (decide (aA.At = (GPoint.mk 0 0))) (cnd (aA.A != 0) (some false) (cnd (aA.B != 0) (some false) (cnd (aA.C != 0) (some false) (cnd (((aA.Via.length : Nat) : Int) == 0) (cnd (decide (aA.Name = (⟨#[]⟩ : ByteArray))) (some true) (some false)) (some false))))) (some false)))
def f75_8 : Nat → GEdit → Option Bool
 | 0,_ => none
 | n + 1,aA => (bnd (prdk 2 n) fun aB => (cnd (decide (aA.At = (GPoint.mk 0 0))) (cnd (aA.B != 0) (some false) (cnd (aA.C != 0) (some false) (cnd (((aA.Via.length : Nat) : Int) == 0) (cnd (decide (aA.Name = (⟨#[]⟩ : ByteArray))) (cnd (((aA.Parts.length : Nat) : Int) == 0) (some true) (some false)) (some false)) (some false)))) (some false)))
def f75 (n : Nat) (x : GEdit) (s : ByteArray) : Option Bool:=if s = ⟨#[]⟩ then f75_0 n x else if s = ⟨#[116]⟩ then f75_1 n x else if s = ⟨#[97,98,99,118]⟩ then f75_2 n x else if s = ⟨#[118]⟩ then f75_3 n x else if s = ⟨#[97,98,110,112]⟩ then f75_4 n x else if s = ⟨#[110]⟩ then f75_5 n x else if s = ⟨#[98]⟩ then f75_6 n x else if s = ⟨#[112]⟩ then f75_7 n x else if s = ⟨#[97]⟩ then f75_8 n x else none
def f96 : Nat → Int → Option Bool
 | 0,_ => none
 | n + 1,aA => (cnd (decide (aA ≥ 1)) (cnd (decide (aA ≤ 1073741824)) (some true) (some false)) (some false))
def f97 : Nat → GPoint → Option Bool
 | 0,_ => none
 | n + 1,aA => (cnd (decide (aA.X ≥ (-1048576))) (cnd (decide (aA.X ≤ 1048576)) (cnd (decide (aA.Y ≥ (-1048576))) (cnd (decide (aA.Y ≤ 1048576)) (some true) (some false)) (some false)) (some false)) (some false))
def f76_L0 (n : Nat) (aA : GEdit) : Nat → Int → Option (Unit ⊕ Unit)
 | 0,_ => none
 | m + 1,aB => (cnd (decide (aB < ((aA.Via.length : Nat) : Int))) (bnd (idx aA.Via aB) fun aC => (bnd (f97 n aC) fun aD => (cnd (aD) (f76_L0 n aA m (IntKind.i64.wrap (aB + 1))) (some (Sum.inl ()))))) (some (Sum.inr ())))
def f76_L1 (n : Nat) (aA : GEdit) : Nat → Int → Option (Unit ⊕ Unit)
 | 0,_ => none
 | m + 1,aB => (cnd (decide (aB < ((aA.Parts.length : Nat) : Int))) (bnd (idx aA.Parts aB) fun aC => (bnd (f96 n aC) fun aD => (cnd (aD) (f76_L1 n aA m (IntKind.i64.wrap (aB + 1))) (some (Sum.inl ()))))) (some (Sum.inr ())))
def f76 : Nat → GEdit → Option Bool
 | 0,_ => none
 | n + 1,aA => (bnd (f96 n aA.ID) fun aB => (cnd (aB) (cnd (aA.Kind == 4) (bnd (f96 n aA.A) fun aC => (cnd (aC) (bnd (f96 n aA.B) fun aD => (cnd (aD) (cnd (decide (aA.C < (-1073741824))) (some false) (cnd (decide (aA.C > 1073741824)) (some false) (bnd2 (f76_L0 n aA n 0) (fun aK => (some false)) (fun aL => (bnd2 (f76_L1 n aA n 0) (fun aM => (some false)) (fun aN => (bnd (f97 n aA.At) fun aE => (cnd (aE) (some true) (some false))))))))) (some false))) (some false))) (cnd (aA.Kind == 12) (bnd (f96 n aA.A) fun aF => (cnd (aF) (cnd (decide (aA.C < (-1073741824))) (some false) (cnd (decide (aA.C > 1073741824)) (some false) (bnd2 (f76_L0 n aA n 0) (fun aO => (some false)) (fun aP => (bnd2 (f76_L1 n aA n 0) (fun aQ => (some false)) (fun aR => (bnd (f97 n aA.At) fun aG => (cnd (aG) (some true) (some false))))))))) (some false))) (cnd (decide (aA.C < (-1073741824))) (some false) (cnd (decide (aA.C > 1073741824)) (some false) (cnd (aA.Kind == 7) (cnd (decide (aA.B < 1)) (some false) (cnd (decide (aA.B > 9)) (some false) (bnd2 (f76_L0 n aA n 0) (fun aS => (some false)) (fun aT => (bnd2 (f76_L1 n aA n 0) (fun aU => (some false)) (fun aV => (bnd (f97 n aA.At) fun aH => (cnd (aH) (some true) (some false))))))))) (cnd (aA.Kind == 10) (cnd (decide (aA.B < 1)) (some false) (cnd (decide (aA.B > 9)) (some false) (bnd2 (f76_L0 n aA n 0) (fun aW => (some false)) (fun aX => (bnd2 (f76_L1 n aA n 0) (fun aY => (some false)) (fun aZ => (bnd (f97 n aA.At) fun aI => (cnd (aI) (some true) (some false))))))))) (bnd2 (f76_L0 n aA n 0) (fun aa => (some false)) (fun ab => (bnd2 (f76_L1 n aA n 0) (fun ac => (some false)) (fun ad => (bnd (f97 n aA.At) fun aJ => (cnd (aJ) (some true) (some false))))))))))))) (some false)))
def f46_L0 (n : Nat) (aA : GEdit) : Nat → Int → Option (Unit ⊕ Unit)
 | 0,_ => none
 | m + 1,aB => (cnd (decide (aB < ((aA.Parts.length : Nat) : Int))) (bnd (idx aA.Parts (IntKind.i64.wrap (aB - 1))) fun aC => (bnd (idx aA.Parts aB) fun aD => (cnd (decide (aC ≥ aD)) (some (Sum.inl ())) (f46_L0 n aA m (IntKind.i64.wrap (aB + 1)))))) (some (Sum.inr ())))
def f46 : Nat → GEdit → Option Int
 | 0,_ => none
 | n + 1,aA => (cnd (decide (aA.Kind < 1)) (some 9) (cnd (decide (aA.Kind > 12)) (some 9) (cnd (aA.Kind == 7) (bnd (f73 n aA.A) fun aB => (cnd (aB == 0) (some 9) (bnd (f74 n aA.Kind) fun aC => (bnd (f75 n aA aC) fun aD => (cnd (aD) (cnd (decide (((aA.Via.length : Nat) : Int) > 64)) (some 3) (cnd (decide (((aA.Parts.length : Nat) : Int) > 64)) (some 3) (bnd (f76 n aA) fun aE => (cnd (aE) (bnd2 (f46_L0 n aA n 1) (fun aK => (some 10)) (fun aL => (cnd (decide (aA.Name = (⟨#[]⟩ : ByteArray))) (some 0) (bnd (f45 n aA.Name) fun aF => (cnd (aF != 0) (some 14) (some 0)))))) (some 2))))) (some 1)))))) (bnd (f74 n aA.Kind) fun aG => (bnd (f75 n aA aG) fun aH => (cnd (aH) (cnd (decide (((aA.Via.length : Nat) : Int) > 64)) (some 3) (cnd (decide (((aA.Parts.length : Nat) : Int) > 64)) (some 3) (bnd (f76 n aA) fun aI => (cnd (aI) (bnd2 (f46_L0 n aA n 1) (fun aM => (some 10)) (fun aN => (cnd (decide (aA.Name = (⟨#[]⟩ : ByteArray))) (some 0) (bnd (f45 n aA.Name) fun aJ => (cnd (aJ != 0) (some 14) (some 0)))))) (some 2))))) (some 1)))))))
def f26_L0 (n : Nat) (aA : GTxn) : Nat → Int → Option (Int ⊕ Unit)
 | 0,_ => none
 | m + 1,aB => (cnd (decide (aB < ((aA.Edits.length : Nat) : Int))) (bnd (idx aA.Edits aB) fun aD => (bnd (f46 n aD) fun aC => (cnd (aC != 0) (some (Sum.inl aC)) (f26_L0 n aA m (IntKind.i64.wrap (aB + 1)))))) (some (Sum.inr ())))
def f26 : Nat → GTxn → Option Int
 | 0,_ => none
 | n + 1,aA => (cnd (decide (aA.Office < 1)) (some 2) (cnd (decide (aA.Office > 8)) (some 2) (cnd (decide (aA.Seq < 1)) (some 2) (cnd (decide (aA.Seq > 1073741824)) (some 2) (cnd (decide (aA.Time < 0)) (some 2) (cnd (decide (aA.Time > 1073741824)) (some 2) (cnd (decide (aA.Source = (⟨#[]⟩ : ByteArray))) (cnd (decide (((aA.Edits.length : Nat) : Int) < 1)) (some 3) (cnd (decide (((aA.Edits.length : Nat) : Int) > 64)) (some 3) (bnd2 (f26_L0 n aA n 0) (fun aC => (some aC)) (fun aE => (some 0))))) (bnd (f45 n aA.Source) fun aB => (cnd (aB != 0) (some aB) (cnd (decide (((aA.Edits.length : Nat) : Int) < 1)) (some 3) (cnd (decide (((aA.Edits.length : Nat) : Int) > 64)) (some 3) (bnd2 (f26_L0 n aA n 0) (fun aD => (some aD)) (fun aF => (some 0))))))))))))))
def f44 : Nat → GTxn → GTxn → Option Bool
 | 0,_,_ => none
 | n + 1,aA,aB => (cnd (aA.Time != aB.Time) (cnd (decide (aA.Time < aB.Time)) (some true) (some false)) (cnd (aA.Office != aB.Office) (cnd (decide (aA.Office < aB.Office)) (some true) (some false)) (cnd (decide (aA.Seq < aB.Seq)) (some true) (some false))))
end Go.Proofs.YtkdnaejhpcibnaaGreatDoor.Av
namespace Go.Proofs.YtkdnaejhpcibnaaGreatDoor.Av
open Go
def f25_L1 (n : Nat) (aA : Int) (aB : GOffice) : Nat → Int → Option (Unit ⊕ Unit)
 | 0,_ => none
 | m + 1,aC => (cnd (decide (aC < aA)) (bnd (idx aB.Txns aC) fun aD => (bnd (idx aB.Txns aA) fun aE => (cnd (aD.Office == aE.Office) (cnd (aD.Seq == aE.Seq) (some (Sum.inl ())) (f25_L1 n aA aB m (IntKind.i64.wrap (aC + 1)))) (f25_L1 n aA aB m (IntKind.i64.wrap (aC + 1)))))) (some (Sum.inr ())))
def f25_L0 (n : Nat) (aB : GOffice) : Nat → Int → Option (Unit ⊕ Unit)
 | 0,_ => none
 | m + 1,aA => (cnd (decide (aA < ((aB.Txns.length : Nat) : Int))) (bnd (idx aB.Txns aA) fun aC => (bnd (f26 n aC) fun aD => (cnd (aD != 0) (some (Sum.inl ())) (cnd (decide (aA > 0)) (bnd (idx aB.Txns (IntKind.i64.wrap (aA - 1))) fun aE => (bnd (f44 n aE aC) fun aF => (cnd (aF) (bnd2 (f25_L1 n aA aB n 0) (fun aG => (some (Sum.inl ()))) (fun aH => (f25_L0 n aB m (IntKind.i64.wrap (aA + 1))))) (some (Sum.inl ()))))) (bnd2 (f25_L1 n aA aB n 0) (fun aI => (some (Sum.inl ()))) (fun aJ => (f25_L0 n aB m (IntKind.i64.wrap (aA + 1))))))))) (some (Sum.inr ())))
def f25 : Nat → GOffice → Option Bool
 | 0,_ => none
 | n + 1,aA => (cnd (decide (aA.ID < 1)) (some false) (cnd (decide (aA.ID > 8)) (some false) (cnd (decide (((aA.Txns.length : Nat) : Int) > 256)) (some false) (bnd2 (f25_L0 n aA n 0) (fun aB => (some false)) (fun aC => (some true))))))
def f27_L0 (n : Nat) (aB : (List GTxn)) (aC : GTxn) : Nat → Int → Option Int
 | 0,_ => none
 | m + 1,aA => (cnd (decide (aA < ((aB.length : Nat) : Int))) (bnd (idx aB aA) fun aD => (bnd (f44 n aD aC) fun aE => (cnd (aE) (f27_L0 n aB aC m (IntKind.i64.wrap (aA + 1))) (some aA)))) (some aA))
def f27 : Nat → (List GTxn) → GTxn → Option (List GTxn)
 | 0,_,_ => none
 | n + 1,aA,aB => (bnd (f27_L0 n aA aB n 0) fun aC => (bnd (cut aA 0 aC) fun aD => (cnd (List.isEmpty aD) (bnd (cut aA aC ((aA.length : Nat) : Int)) fun aE => (bnd (app [aB] aE) fun aF => (some aF))) (bnd (app ([] : (List GTxn)) aD) fun aG => (bnd (app aG [aB]) fun aH => (bnd (cut aA aC ((aA.length : Nat) : Int)) fun aI => (bnd (app aH aI) fun aJ => (some aJ))))))))
def f7_L0 (n : Nat) (aC : Int) (aA : GOffice) (aF : ByteArray) (aG : (List GEdit)) : Nat → Int → Bool → Int → Option (Int × Bool)
 | 0,_,_,_ => none
 | m + 1,aD,aH,aB => (cnd (decide (aB < ((aA.Txns.length : Nat) : Int))) (bnd (idx aA.Txns aB) fun aE => (cnd (aE.Office == aA.ID) (cnd (aH) (f7_L0 n aC aA aF aG m (imax aD aE.Seq) true (IntKind.i64.wrap (aB + 1))) (cnd (decide (aE.Time > aC)) (f7_L0 n aC aA aF aG m (imax aD aE.Seq) true (IntKind.i64.wrap (aB + 1))) (f7_L0 n aC aA aF aG m (imax aD aE.Seq) false (IntKind.i64.wrap (aB + 1))))) (f7_L0 n aC aA aF aG m aD aH (IntKind.i64.wrap (aB + 1))))) (some (aD,aH)))
def f7 : Nat → GOffice → Int → ByteArray → (List GEdit) → Option (GOffice × Int)
 | 0,_,_,_,_ => none
 | n + 1,aA,aB,aC,aD => (bnd (f25 n aA) fun aG => (cnd (aG) (bnd (f7_L0 n aB aA aC aD n 0 false 0) fun aE => (bnd (f26 n (GTxn.mk aA.ID (IntKind.i64.wrap (aE.1 + 1)) aB aC aD)) fun aF => (cnd (aF != 0) (some ((GOffice.mk 0 []),aF)) (cnd (decide (((aA.Txns.length : Nat) : Int) ≥ 256)) (some ((GOffice.mk 0 []),3)) (cnd (aE.2) (some ((GOffice.mk 0 []),10)) (bnd (f27 n aA.Txns (GTxn.mk aA.ID (IntKind.i64.wrap (aE.1 + 1)) aB aC aD)) fun aH => (some ((GOffice.mk aA.ID aH),0)))))))) (some ((GOffice.mk 0 []),19))))
def f9 : Nat → Int → Option (GOffice × Int)
 | 0,_ => none
 | n + 1,aA => (cnd (decide (aA < 1)) (some ((GOffice.mk 0 []),2)) (cnd (decide (aA > 8)) (some ((GOffice.mk 0 []),2)) (some ((GOffice.mk aA []),0))))
def f54_L0_S (aA : (List GPoint)) (aB : (List GPoint)) (aC : Int) : St:=⟨[(.sl false (List.map c_GPoint aA)),(.sl false (List.map c_GPoint aB)),U,U,U,(iv aC),U,U,U,U,U,U,U,U,U,U,U,U,U,U,U,U,U,U,U,U],[]⟩
def f54_L0_E0 (aA : (List GPoint)) (aB : (List GPoint)) : St:=⟨[U,U,U,U,bf,U,U,U,U,U,U,U,U,U,U,U,U,U,U,U,U,U,U,U,U,U],[]⟩
def f54_L0_E1 (aA : (List GPoint)) (aB : (List GPoint)) : St:=⟨[U,U,U,U,U,U,U,U,U,U,U,U,U,U,U,U,U,U,U,U,U,U,U,U,U,U],[]⟩
def f54_L0 (n : Nat) (aB : (List GPoint)) (aC : (List GPoint)) : Nat → Int → Option (Unit ⊕ Unit)
 | 0,_ => none
 | m + 1,aA => (cnd (decide (aA < ((aB.length : Nat) : Int))) (bnd (idx aB aA) fun aD => (bnd (idx aC aA) fun aE => (cnd (decide (aD = aE)) (f54_L0 n aB aC m (IntKind.i64.wrap (aA + 1))) (some (Sum.inl ()))))) (some (Sum.inr ())))
theorem f54_L0_ok (n : Nat) (aA : (List GPoint)) (aB : (List GPoint)) : ∀ (m : Nat) (aC : Int) (r : (Unit ⊕ Unit)),f54_L0 n aA aB m aC = some r → maskR [] lv1 false 0 0 (evLoopH (headSt (some lv38) false 0 0) (evC PP (evF PP T n) n 0 L54_0) m (f54_L0_S aA aB aC)) = (match r with | .inl r => some (.ret,f54_L0_E0 aA aB) | .inr r => some ((.exit 0),f54_L0_E1 aA aB))
 | 0,_,_,h => by cases h
 | m + 1,aC,r,h => by
  rw [f54_L0] at h
  have aE:=len_sl (P:=PP) (cf:=evF PP T n) (fl:=0) (H:=[]) (f:=false) (c:=c_GPoint) (l:=aA)
  rcases cn h with ⟨aK,aD,h⟩ | ⟨aK,aD,h⟩
  rotate_left
  ·obtain rfl:=si h
   exact last_q (some lv38) false (f54_L0_E1 aA aB) (qa 14 aD <| qb 13 aE <| q0) [] [] trivial
  obtain ⟨aG,aL,h⟩:=bnd_some h
  have aH:=idxl (H:=[]) (f:=false) (c:=c_GPoint) aL (c_GPoint_len _)
  obtain ⟨aI,aM,h⟩:=bnd_some h
  have aJ:=idxl (H:=[]) (f:=false) (c:=c_GPoint) aM (c_GPoint_len _)
  rcases cn h with ⟨aF,aN,h⟩ | ⟨aF,aN,h⟩
  rotate_left
  ·have aO:=c_GPoint_neq (cf:=evF PP T n) (fl:=0) (H:=[]) (a:=aG) (b:=aI) aF
   obtain rfl:=si h
   exact last_q (some lv38) false (f54_L0_E0 aA aB) (qb 25 aO <| qa 23 aJ <| qa 19 aH <| qa 14 aD <| qb 13 aE <| q0) [] [] trivial
  have aP:=c_GPoint_neq (cf:=evF PP T n) (fl:=0) (H:=[]) (a:=aG) (b:=aI) aF
  exact nx_q (f54_L0_S aA aB (IntKind.i64.wrap (aC + 1))) (qb 25 aP <| qa 23 aJ <| qa 19 aH <| qa 14 aD <| qb 13 aE <| q0) [] [] trivial (f54_L0_ok n aA aB m (IntKind.i64.wrap (aC + 1)) r h)
def f54 : Nat → (List GPoint) → (List GPoint) → Option Bool
 | 0,_,_ => none
 | n + 1,aA,aB => (cnd (((aA.length : Nat) : Int) != ((aB.length : Nat) : Int)) (some false) (bnd2 (f54_L0 n aA aB n 0) (fun aC => (some false)) (fun aD => (some true))))
theorem f54_ok (n : Nat) (aA : (List GPoint)) (aB : (List GPoint)) (r : Bool) (h : f54 n aA aB = some r) : pv PP T n 54 [(.sl false (List.map c_GPoint aA)),(.sl false (List.map c_GPoint aB))] = some (bv r):=by
 cases n with
 | zero => cases h
 | succ n =>
  rw [f54] at h
  have aD:=len_sl (P:=PP) (cf:=evF PP T n) (fl:=0) (H:=[]) (f:=false) (c:=c_GPoint) (l:=aA)
  have aE:=len_sl (P:=PP) (cf:=evF PP T n) (fl:=0) (H:=[]) (f:=false) (c:=c_GPoint) (l:=aB)
  rcases cn h with ⟨aI,aC,h⟩ | ⟨aI,aC,h⟩
  ·obtain rfl:=si h
   exact pv_q F54 (qa 10 aC <| qb 9 aE <| qb 7 aD <| q0) [] []
  have aH : cleanQ false 0 0 []:=trivial
  rcases bnd2_some h with ⟨aJ,aF,h⟩ | ⟨aK,aF,h⟩
  ·have aG:=f54_L0_ok n aA aB n 0 _ aF
   obtain rfl:=si h
   exact pv_q F54 (qp aG <| qp aH <| qa 10 aC <| qb 9 aE <| qb 7 aD <| q0) [(.ret,f54_L0_E0 aA aB)] []
  have aG:=f54_L0_ok n aA aB n 0 _ aF
  obtain rfl:=si h
  exact pv_q F54 (qp aG <| qp aH <| qa 10 aC <| qb 9 aE <| qb 7 aD <| q0) [((.exit 0),f54_L0_E1 aA aB)] []
def f55_L0_S (aA : (List Int)) (aB : (List Int)) (aC : Int) : St:=⟨[(.sl false (List.map c_i64 aA)),(.sl false (List.map c_i64 aB)),U,U,U,(iv aC),U,U,U,U,U,U,U,U,U,U,U,U,U,U,U,U,U,U,U,U],[]⟩
def f55_L0_E0 (aA : (List Int)) (aB : (List Int)) : St:=⟨[U,U,U,U,bf,U,U,U,U,U,U,U,U,U,U,U,U,U,U,U,U,U,U,U,U,U],[]⟩
def f55_L0_E1 (aA : (List Int)) (aB : (List Int)) : St:=⟨[U,U,U,U,U,U,U,U,U,U,U,U,U,U,U,U,U,U,U,U,U,U,U,U,U,U],[]⟩
def f55_L0 (n : Nat) (aB : (List Int)) (aC : (List Int)) : Nat → Int → Option (Unit ⊕ Unit)
 | 0,_ => none
 | m + 1,aA => (cnd (decide (aA < ((aB.length : Nat) : Int))) (bnd (idx aB aA) fun aD => (bnd (idx aC aA) fun aE => (cnd (aD != aE) (some (Sum.inl ())) (f55_L0 n aB aC m (IntKind.i64.wrap (aA + 1)))))) (some (Sum.inr ())))
theorem f55_L0_ok (n : Nat) (aA : (List Int)) (aB : (List Int)) : ∀ (m : Nat) (aC : Int) (r : (Unit ⊕ Unit)),f55_L0 n aA aB m aC = some r → maskR [] lv1 false 0 0 (evLoopH (headSt (some lv38) false 0 0) (evC PP (evF PP T n) n 0 L55_0) m (f55_L0_S aA aB aC)) = (match r with | .inl r => some (.ret,f55_L0_E0 aA aB) | .inr r => some ((.exit 0),f55_L0_E1 aA aB))
 | 0,_,_,h => by cases h
 | m + 1,aC,r,h => by
  rw [f55_L0] at h
  have aE:=len_sl (P:=PP) (cf:=evF PP T n) (fl:=0) (H:=[]) (f:=false) (c:=c_i64) (l:=aA)
  rcases cn h with ⟨aI,aD,h⟩ | ⟨aI,aD,h⟩
  rotate_left
  ·obtain rfl:=si h
   exact last_q (some lv38) false (f55_L0_E1 aA aB) (qa 14 aD <| qb 13 aE <| q0) [] [] trivial
  obtain ⟨aM,aJ,h⟩:=bnd_some h
  have aG:=idxl (H:=[]) (f:=false) (c:=c_i64) aJ (c_i64_len _)
  obtain ⟨aN,aK,h⟩:=bnd_some h
  have aH:=idxl (H:=[]) (f:=false) (c:=c_i64) aK (c_i64_len _)
  rcases cn h with ⟨aL,aF,h⟩ | ⟨aL,aF,h⟩
  ·obtain rfl:=si h
   exact last_q (some lv38) false (f55_L0_E0 aA aB) (qa 25 aF <| qa 23 aH <| qa 19 aG <| qa 14 aD <| qb 13 aE <| q0) [] [] trivial
  exact nx_q (f55_L0_S aA aB (IntKind.i64.wrap (aC + 1))) (qa 25 aF <| qa 23 aH <| qa 19 aG <| qa 14 aD <| qb 13 aE <| q0) [] [] trivial (f55_L0_ok n aA aB m (IntKind.i64.wrap (aC + 1)) r h)
def f55 : Nat → (List Int) → (List Int) → Option Bool
 | 0,_,_ => none
 | n + 1,aA,aB => (cnd (((aA.length : Nat) : Int) != ((aB.length : Nat) : Int)) (some false) (bnd2 (f55_L0 n aA aB n 0) (fun aC => (some false)) (fun aD => (some true))))
theorem f55_ok (n : Nat) (aA : (List Int)) (aB : (List Int)) (r : Bool) (h : f55 n aA aB = some r) : pv PP T n 55 [(.sl false (List.map c_i64 aA)),(.sl false (List.map c_i64 aB))] = some (bv r):=by
 cases n with
 | zero => cases h
 | succ n =>
  rw [f55] at h
  have aD:=len_sl (P:=PP) (cf:=evF PP T n) (fl:=0) (H:=[]) (f:=false) (c:=c_i64) (l:=aA)
  have aE:=len_sl (P:=PP) (cf:=evF PP T n) (fl:=0) (H:=[]) (f:=false) (c:=c_i64) (l:=aB)
  rcases cn h with ⟨aI,aC,h⟩ | ⟨aI,aC,h⟩
  ·obtain rfl:=si h
   exact pv_q F55 (qa 10 aC <| qb 9 aE <| qb 7 aD <| q0) [] []
  have aH : cleanQ false 0 0 []:=trivial
  rcases bnd2_some h with ⟨aJ,aF,h⟩ | ⟨aK,aF,h⟩
  ·have aG:=f55_L0_ok n aA aB n 0 _ aF
   obtain rfl:=si h
   exact pv_q F55 (qp aG <| qp aH <| qa 10 aC <| qb 9 aE <| qb 7 aD <| q0) [(.ret,f55_L0_E0 aA aB)] []
  have aG:=f55_L0_ok n aA aB n 0 _ aF
  obtain rfl:=si h
  exact pv_q F55 (qp aG <| qp aH <| qa 10 aC <| qb 9 aE <| qb 7 aD <| q0) [((.exit 0),f55_L0_E1 aA aB)] []
def f34 : Nat → GEdit → GEdit → Option Bool
 | 0,_,_ => none
 | n + 1,aA,aB => (cnd (aA.Kind == aB.Kind) (cnd (aA.ID == aB.ID) (cnd (aA.A == aB.A) (cnd (aA.B == aB.B) (cnd (aA.C == aB.C) (cnd (decide (aA.At = aB.At)) (bnd (f54 n aA.Via aB.Via) fun aC => (cnd (aC) (cnd (decide (aA.Name = aB.Name)) (bnd (f55 n aA.Parts aB.Parts) fun aD => (cnd (aD) (some true) (some false))) (some false)) (some false))) (some false)) (some false)) (some false)) (some false)) (some false)) (some false))
theorem f34_ok (n : Nat) (aA : GEdit) (aB : GEdit) (r : Bool) (h : f34 n aA aB = some r) : pv PP T n 34 [(.agg (c_GEdit aA)),(.agg (c_GEdit aB))] = some (bv r):=by
 cases n with
 | zero => cases h
 | succ n =>
  rw [f34] at h
  rcases cn h with ⟨aQ,aC,h⟩ | ⟨aQ,aC,h⟩
  rotate_left
  ·obtain rfl:=si h
   exact pv_q F34 (qa 9 aC <| q0) [] []
  rcases cn h with ⟨aR,aD,h⟩ | ⟨aR,aD,h⟩
  rotate_left
  ·obtain rfl:=si h
   exact pv_q F34 (qa 15 aD <| qa 9 aC <| q0) [] []
  rcases cn h with ⟨aS,aE,h⟩ | ⟨aS,aE,h⟩
  rotate_left
  ·obtain rfl:=si h
   exact pv_q F34 (qa 22 aE <| qa 15 aD <| qa 9 aC <| q0) [] []
  rcases cn h with ⟨aT,aF,h⟩ | ⟨aT,aF,h⟩
  rotate_left
  ·obtain rfl:=si h
   exact pv_q F34 (qa 29 aF <| qa 22 aE <| qa 15 aD <| qa 9 aC <| q0) [] []
  rcases cn h with ⟨aU,aG,h⟩ | ⟨aU,aG,h⟩
  rotate_left
  ·obtain rfl:=si h
   exact pv_q F34 (qa 36 aG <| qa 29 aF <| qa 22 aE <| qa 15 aD <| qa 9 aC <| q0) [] []
  rcases cn h with ⟨aI,aV,h⟩ | ⟨aI,aV,h⟩
  rotate_left
  ·have aW:=c_GPoint_eql (cf:=evF PP T n) (fl:=0) (H:=(hp0 aA aB)) (a:=aA.At) (b:=aB.At) aI
   obtain rfl:=si h
   exact pv_q F34 (qb 43 aW <| qa 36 aG <| qa 29 aF <| qa 22 aE <| qa 15 aD <| qa 9 aC <| q0) [] []
  have aH:=c_GPoint_eql (cf:=evF PP T n) (fl:=0) (H:=(hp0 aA aB)) (a:=aA.At) (b:=aB.At) aI
  obtain ⟨ae,aN,h⟩:=bnd_some h
  rcases cn h with ⟨aJ,aX,h⟩ | ⟨aJ,aX,h⟩
  rotate_left
  ·have aY:=by have q:=f54_ok n aA.Via aB.Via _ aN; rw [aJ] at q; exact q
   obtain rfl:=si h
   exact pv_q F34 (qa 50 aY <| qb 43 aH <| qa 36 aG <| qa 29 aF <| qa 22 aE <| qa 15 aD <| qa 9 aC <| q0) [] []
  have aK:=by have q:=f54_ok n aA.Via aB.Via _ aN; rw [aJ] at q; exact q
  rcases cn h with ⟨aL,aZ,h⟩ | ⟨aL,aZ,h⟩
  rotate_left
  ·have aa:=c_str_eql (P:=PP) (cf:=evF PP T n) (fl:=0) (H:=(hp0 aA aB)) (t:=9) aL
   obtain rfl:=si h
   exact pv_q F34 (qb 57 aa <| qa 50 aK <| qb 43 aH <| qa 36 aG <| qa 29 aF <| qa 22 aE <| qa 15 aD <| qa 9 aC <| q0) [] []
  have aO:=c_str_eql (P:=PP) (cf:=evF PP T n) (fl:=0) (H:=(hp0 aA aB)) (t:=9) aL
  obtain ⟨af,aP,h⟩:=bnd_some h
  rcases cn h with ⟨aM,ab,h⟩ | ⟨aM,ab,h⟩
  ·have ac:=by have q:=f55_ok n aA.Parts aB.Parts _ aP; rw [aM] at q; exact q
   obtain rfl:=si h
   exact pv_q F34 (qa 64 ac <| qb 57 aO <| qa 50 aK <| qb 43 aH <| qa 36 aG <| qa 29 aF <| qa 22 aE <| qa 15 aD <| qa 9 aC <| q0) [] []
  have ad:=by have q:=f55_ok n aA.Parts aB.Parts _ aP; rw [aM] at q; exact q
  obtain rfl:=si h
  exact pv_q F34 (qa 64 ad <| qb 57 aO <| qa 50 aK <| qb 43 aH <| qa 36 aG <| qa 29 aF <| qa 22 aE <| qa 15 aD <| qa 9 aC <| q0) [] []
def f17_L0_S (aA : GTxn) (aB : GTxn) (aC : Int) : St:=⟨[U,U,(.ptr 0 1 0 0),(.ptr 1 1 0 0),U,(iv aC),U,U,U,U,U,U,U,U,U,U,U,U,U,U,U,U,U,U,U,U,U,U,U,U,U,U,U,U,U,U,U,U,U,U,U,U,U,U,U,U,U,U,U,U,U,U,U,U,U,U,U,U,U,U],[(.blk 5 [(c_GTxn aA)]),(.blk 5 [(c_GTxn aB)])]⟩
def f17_L0_E0 (aA : GTxn) (aB : GTxn) : St:=⟨[U,U,U,U,bf,U,U,U,U,U,U,U,U,U,U,U,U,U,U,U,U,U,U,U,U,U,U,U,U,U,U,U,U,U,U,U,U,U,U,U,U,U,U,U,U,U,U,U,U,U,U,U,U,U,U,U,U,U,U,U],[(.blk 5 [(c_GTxn aA)]),(.blk 5 [(c_GTxn aB)])]⟩
def f17_L0_E1 (aA : GTxn) (aB : GTxn) : St:=⟨[U,U,U,U,U,U,U,U,U,U,U,U,U,U,U,U,U,U,U,U,U,U,U,U,U,U,U,U,U,U,U,U,U,U,U,U,U,U,U,U,U,U,U,U,U,U,U,U,U,U,U,U,U,U,U,U,U,U,U,U],[(.blk 5 [(c_GTxn aA)]),(.blk 5 [(c_GTxn aB)])]⟩
def f17_L0 (n : Nat) (aB : GTxn) (aC : GTxn) : Nat → Int → Option (Unit ⊕ Unit)
 | 0,_ => none
 | m + 1,aA => (cnd (decide (aA < ((aB.Edits.length : Nat) : Int))) (bnd (idx aB.Edits aA) fun aD => (bnd (idx aC.Edits aA) fun aE => (bnd (f34 n aD aE) fun aF => (cnd (aF) (f17_L0 n aB aC m (IntKind.i64.wrap (aA + 1))) (some (Sum.inl ())))))) (some (Sum.inr ())))
theorem f17_L0_ok (n : Nat) (aA : GTxn) (aB : GTxn) : ∀ (m : Nat) (aC : Int) (r : (Unit ⊕ Unit)),f17_L0 n aA aB m aC = some r → maskR [] lv1 false 0 2 (evLoopH (headSt (some lv39) false 0 2) (evC PP (evF PP T n) n 0 L17_0) m (f17_L0_S aA aB aC)) = (match r with | .inl r => some (.ret,f17_L0_E0 aA aB) | .inr r => some ((.exit 0),f17_L0_E1 aA aB))
 | 0,_,_,h => by cases h
 | m + 1,aC,r,h => by
  rw [f17_L0] at h
  have aE:=len_sl (P:=PP) (cf:=evF PP T n) (fl:=0) (H:=(hp1 aA aB)) (f:=false) (c:=c_GEdit) (l:=aA.Edits)
  rcases cn h with ⟨aL,aD,h⟩ | ⟨aL,aD,h⟩
  rotate_left
  ·obtain rfl:=si h
   exact last_q (some lv39) false (f17_L0_E1 aA aB) (qa 45 aD <| qb 44 aE <| q0) [] [] trivial
  obtain ⟨aG,aM,h⟩:=bnd_some h
  have aH:=idxl (H:=(hp1 aA aB)) (f:=false) (c:=c_GEdit) aM (c_GEdit_len _)
  obtain ⟨aI,aN,h⟩:=bnd_some h
  have aJ:=idxl (H:=(hp1 aA aB)) (f:=false) (c:=c_GEdit) aN (c_GEdit_len _)
  obtain ⟨aR,aK,h⟩:=bnd_some h
  rcases cn h with ⟨aF,aO,h⟩ | ⟨aF,aO,h⟩
  rotate_left
  ·have aP:=by have q:=f34_ok n aG aI _ aK; rw [aF] at q; exact q
   obtain rfl:=si h
   exact last_q (some lv39) false (f17_L0_E0 aA aB) (qa 58 aP <| qa 56 aJ <| qa 51 aH <| qa 45 aD <| qb 44 aE <| q0) [] [] trivial
  have aQ:=by have q:=f34_ok n aG aI _ aK; rw [aF] at q; exact q
  exact nx_q (f17_L0_S aA aB (IntKind.i64.wrap (aC + 1))) (qa 58 aQ <| qa 56 aJ <| qa 51 aH <| qa 45 aD <| qb 44 aE <| q0) [] [] trivial (f17_L0_ok n aA aB m (IntKind.i64.wrap (aC + 1)) r h)
def f17 : Nat → GTxn → GTxn → Option Bool
 | 0,_,_ => none
 | n + 1,aA,aB => (cnd (aA.Office != aB.Office) (some false) (cnd (aA.Seq != aB.Seq) (some false) (cnd (aA.Time != aB.Time) (some false) (cnd (decide (aA.Source = aB.Source)) (cnd (((aA.Edits.length : Nat) : Int) != ((aB.Edits.length : Nat) : Int)) (some false) (bnd2 (f17_L0 n aA aB n 0) (fun aC => (some false)) (fun aD => (some true)))) (some false)))))
theorem f17_ok (n : Nat) (aA : GTxn) (aB : GTxn) (r : Bool) (h : f17 n aA aB = some r) : pv PP T n 17 [(.agg (c_GTxn aA)),(.agg (c_GTxn aB))] = some (bv r):=by
 cases n with
 | zero => cases h
 | succ n =>
  rw [f17] at h
  rcases cn h with ⟨aN,aC,h⟩ | ⟨aN,aC,h⟩
  ·obtain rfl:=si h
   exact pv_q F17 (qa 10 aC <| q0) [] []
  rcases cn h with ⟨aO,aD,h⟩ | ⟨aO,aD,h⟩
  ·obtain rfl:=si h
   exact pv_q F17 (qa 16 aD <| qa 10 aC <| q0) [] []
  rcases cn h with ⟨aP,aE,h⟩ | ⟨aP,aE,h⟩
  ·obtain rfl:=si h
   exact pv_q F17 (qa 23 aE <| qa 16 aD <| qa 10 aC <| q0) [] []
  rcases cn h with ⟨aG,aQ,h⟩ | ⟨aG,aQ,h⟩
  rotate_left
  ·have aR:=c_str_neq (P:=PP) (cf:=evF PP T n) (fl:=0) (H:=(hp1 aA aB)) (t:=9) aG
   obtain rfl:=si h
   exact pv_q F17 (qb 30 aR <| qa 23 aE <| qa 16 aD <| qa 10 aC <| q0) [] []
  have aH:=c_str_neq (P:=PP) (cf:=evF PP T n) (fl:=0) (H:=(hp1 aA aB)) (t:=9) aG
  have aI:=len_sl (P:=PP) (cf:=evF PP T n) (fl:=0) (H:=(hp1 aA aB)) (f:=false) (c:=c_GEdit) (l:=aA.Edits)
  have aJ:=len_sl (P:=PP) (cf:=evF PP T n) (fl:=0) (H:=(hp1 aA aB)) (f:=false) (c:=c_GEdit) (l:=aB.Edits)
  rcases cn h with ⟨aS,aF,h⟩ | ⟨aS,aF,h⟩
  ·obtain rfl:=si h
   exact pv_q F17 (qa 39 aF <| qb 38 aJ <| qb 35 aI <| qb 30 aH <| qa 23 aE <| qa 16 aD <| qa 10 aC <| q0) [] []
  have aM : cleanQ false 0 2 [(.blk 5 [(c_GTxn aA)]),(.blk 5 [(c_GTxn aB)])]:=trivial
  rcases bnd2_some h with ⟨aT,aK,h⟩ | ⟨aU,aK,h⟩
  ·have aL:=f17_L0_ok n aA aB n 0 _ aK
   obtain rfl:=si h
   exact pv_q F17 (qp aL <| qp aM <| qa 39 aF <| qb 38 aJ <| qb 35 aI <| qb 30 aH <| qa 23 aE <| qa 16 aD <| qa 10 aC <| q0) [(.ret,f17_L0_E0 aA aB)] []
  have aL:=f17_L0_ok n aA aB n 0 _ aK
  obtain rfl:=si h
  exact pv_q F17 (qp aL <| qp aM <| qa 39 aF <| qb 38 aJ <| qb 35 aI <| qb 30 aH <| qa 23 aE <| qa 16 aD <| qa 10 aC <| q0) [((.exit 0),f17_L0_E1 aA aB)] []
def f15_L0_S (aA : (List GTxn)) (aB : (List GTxn)) (aC : Int) : St:=⟨[(.sl false (List.map c_GTxn aA)),(.sl false (List.map c_GTxn aB)),U,U,U,(iv aC),U,U,U,U,U,U,U,U,U,U,U,U,U,U,U,U,U,U,U,U,U],[]⟩
def f15_L0_E0 (aA : (List GTxn)) (aB : (List GTxn)) : St:=⟨[U,U,U,U,bf,U,U,U,U,U,U,U,U,U,U,U,U,U,U,U,U,U,U,U,U,U,U],[]⟩
def f15_L0_E1 (aA : (List GTxn)) (aB : (List GTxn)) : St:=⟨[U,U,U,U,U,U,U,U,U,U,U,U,U,U,U,U,U,U,U,U,U,U,U,U,U,U,U],[]⟩
def f15_L0 (n : Nat) (aB : (List GTxn)) (aC : (List GTxn)) : Nat → Int → Option (Unit ⊕ Unit)
 | 0,_ => none
 | m + 1,aA => (cnd (decide (aA < ((aB.length : Nat) : Int))) (bnd (idx aB aA) fun aD => (bnd (idx aC aA) fun aE => (bnd (f17 n aD aE) fun aF => (cnd (aF) (f15_L0 n aB aC m (IntKind.i64.wrap (aA + 1))) (some (Sum.inl ())))))) (some (Sum.inr ())))
theorem f15_L0_ok (n : Nat) (aA : (List GTxn)) (aB : (List GTxn)) : ∀ (m : Nat) (aC : Int) (r : (Unit ⊕ Unit)),f15_L0 n aA aB m aC = some r → maskR [] lv1 false 0 0 (evLoopH (headSt (some lv38) false 0 0) (evC PP (evF PP T n) n 0 L15_0) m (f15_L0_S aA aB aC)) = (match r with | .inl r => some (.ret,f15_L0_E0 aA aB) | .inr r => some ((.exit 0),f15_L0_E1 aA aB))
 | 0,_,_,h => by cases h
 | m + 1,aC,r,h => by
  rw [f15_L0] at h
  have aE:=len_sl (P:=PP) (cf:=evF PP T n) (fl:=0) (H:=[]) (f:=false) (c:=c_GTxn) (l:=aA)
  rcases cn h with ⟨aL,aD,h⟩ | ⟨aL,aD,h⟩
  rotate_left
  ·obtain rfl:=si h
   exact last_q (some lv38) false (f15_L0_E1 aA aB) (qa 14 aD <| qb 13 aE <| q0) [] [] trivial
  obtain ⟨aG,aM,h⟩:=bnd_some h
  have aH:=idxl (H:=[]) (f:=false) (c:=c_GTxn) aM (c_GTxn_len _)
  obtain ⟨aI,aN,h⟩:=bnd_some h
  have aJ:=idxl (H:=[]) (f:=false) (c:=c_GTxn) aN (c_GTxn_len _)
  obtain ⟨aR,aK,h⟩:=bnd_some h
  rcases cn h with ⟨aF,aO,h⟩ | ⟨aF,aO,h⟩
  rotate_left
  ·have aP:=by have q:=f17_ok n aG aI _ aK; rw [aF] at q; exact q
   obtain rfl:=si h
   exact last_q (some lv38) false (f15_L0_E0 aA aB) (qa 25 aP <| qa 23 aJ <| qa 19 aH <| qa 14 aD <| qb 13 aE <| q0) [] [] trivial
  have aQ:=by have q:=f17_ok n aG aI _ aK; rw [aF] at q; exact q
  exact nx_q (f15_L0_S aA aB (IntKind.i64.wrap (aC + 1))) (qa 25 aQ <| qa 23 aJ <| qa 19 aH <| qa 14 aD <| qb 13 aE <| q0) [] [] trivial (f15_L0_ok n aA aB m (IntKind.i64.wrap (aC + 1)) r h)
def f15 : Nat → (List GTxn) → (List GTxn) → Option Bool
 | 0,_,_ => none
 | n + 1,aA,aB => (cnd (((aA.length : Nat) : Int) != ((aB.length : Nat) : Int)) (some false) (bnd2 (f15_L0 n aA aB n 0) (fun aC => (some false)) (fun aD => (some true))))
theorem f15_ok (n : Nat) (aA : (List GTxn)) (aB : (List GTxn)) (r : Bool) (h : f15 n aA aB = some r) : pv PP T n 15 [(.sl false (List.map c_GTxn aA)),(.sl false (List.map c_GTxn aB))] = some (bv r):=by
 cases n with
 | zero => cases h
 | succ n =>
  rw [f15] at h
  have aD:=len_sl (P:=PP) (cf:=evF PP T n) (fl:=0) (H:=[]) (f:=false) (c:=c_GTxn) (l:=aA)
  have aE:=len_sl (P:=PP) (cf:=evF PP T n) (fl:=0) (H:=[]) (f:=false) (c:=c_GTxn) (l:=aB)
  rcases cn h with ⟨aI,aC,h⟩ | ⟨aI,aC,h⟩
  ·obtain rfl:=si h
   exact pv_q F15 (qa 10 aC <| qb 9 aE <| qb 7 aD <| q0) [] []
  have aH : cleanQ false 0 0 []:=trivial
  rcases bnd2_some h with ⟨aJ,aF,h⟩ | ⟨aK,aF,h⟩
  ·have aG:=f15_L0_ok n aA aB n 0 _ aF
   obtain rfl:=si h
   exact pv_q F15 (qp aG <| qp aH <| qa 10 aC <| qb 9 aE <| qb 7 aD <| q0) [(.ret,f15_L0_E0 aA aB)] []
  have aG:=f15_L0_ok n aA aB n 0 _ aF
  obtain rfl:=si h
  exact pv_q F15 (qp aG <| qp aH <| qa 10 aC <| qb 9 aE <| qb 7 aD <| q0) [((.exit 0),f15_L0_E1 aA aB)] []
def f10 : Nat → GOffice → GOffice → Option Bool
 | 0,_,_ => none
 | n + 1,aA,aB => (cnd (aA.ID == aB.ID) (bnd (f15 n aA.Txns aB.Txns) fun aC => (cnd (aC) (some true) (some false))) (some false))
end Go.Proofs.YtkdnaejhpcibnaaGreatDoor.Av
