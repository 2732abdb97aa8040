/- A part of the proof of TxnChecksCardSaid: an evaluator of the program, proved sound, and what it says. -/
import Derived.Test.YtmflphfmefakfaaGreatDoorVtTl2
import Derived.Test.YtmflphfmefakfaaGreatDoorVtM0
set_option linter.all false
namespace Go.Proofs.YtmflphfmefakfaaGreatDoor.Av
open Go
set_option linter.unusedVariables false
set_option linter.unusedSimpArgs false
def f1 (n : Nat) : Option Bool := if 10000 ≤ n then some true else none
theorem f1_ok (n : Nat) (r : Bool) (h : f1 n = some r) : pv PP T n 1 [] = some (.lit (.bool r)) := by
 unfold f1 at h
 split at h
 ·rename_i hn; cases h; exact pv_mono hn awake_pv1
 ·cases h
def f0_L0_S (a3571 : GTxn) (i3624 : Int) : St := ⟨[U, (.ptr 0 1 0 0), U, (iv i3624), U, U, U, U, U, U, U, U, U, U, U, U, U, U, U, U, U, U, U, U, U, U, U, U, U, U, U, U, U, U, U, U, U, U, U, U, U, U, U, U, U, U, U, U, U, U, U, U, U], [(.blk 5 [(c_GTxn a3571)])]⟩
def f0_L0_E0 (a3571 : GTxn) (i3659 : Int) (i3660 : Int) (i3661 : Int) (i3662 : Int) (i3663 : Int) (i3664 : Int) (i3665 : Int) (l3666 : (List GPoint)) (s3667 : ByteArray) (l3668 : (List Int)) (b3669 : Bool) : St := ⟨[U, U, (bv b3669), U, U, U, U, U, U, U, U, U, U, U, U, U, U, U, U, U, U, U, U, U, U, U, U, U, U, U, U, U, U, U, U, U, U, U, U, U, U, U, U, U, U, U, U, U, U, U, U, U, U], [(.blk 5 [(c_GTxn a3571)]), (.blk 10 [[(iv i3659), (iv i3660), (iv i3661), (iv i3662), (iv i3663), (iv i3664), (iv i3665), (.sl false (List.map c_GPoint l3666)), (sv s3667), (.sl false (List.map c_i64 l3668))]])]⟩
def f0_L0_E1 (a3571 : GTxn) : St := ⟨[U, (.ptr 0 1 0 0), U, U, U, U, U, U, U, U, U, U, U, U, U, U, U, U, U, U, U, U, U, U, U, U, U, U, U, U, U, U, U, U, U, U, U, U, U, U, U, U, U, U, U, U, U, U, U, U, U, U, U], [(.blk 5 [(c_GTxn a3571)])]⟩
abbrev hp14 (a3571 : GTxn) (x3673 : GEdit) : Heap := [(.blk 5 [(c_GTxn a3571)]), (.blk 10 [(c_GEdit x3673)])]
def f0_L0 (n : Nat) (a3571 : GTxn) : Nat → Int → Option ((Int × Int × Int × Int × Int × Int × Int × (List GPoint) × ByteArray × (List Int) × Bool) ⊕ Unit)
 | 0, _ => none
 | m + 1, i3624 => (cnd (decide (i3624 < ((a3571.Edits.length : Nat) : Int))) (bnd (idx a3571.Edits i3624) fun x3673 => (cnd (decide (((x3673.Via.length : Nat) : Int) > 100)) (bnd (f1 n ) fun v3679 => (cnd (v3679) (some (Sum.inl (x3673.Kind, x3673.ID, x3673.A, x3673.B, x3673.C, x3673.At.X, x3673.At.Y, x3673.Via, x3673.Name, x3673.Parts, true))) (some (Sum.inl (x3673.Kind, x3673.ID, x3673.A, x3673.B, x3673.C, x3673.At.X, x3673.At.Y, x3673.Via, x3673.Name, x3673.Parts, false))))) (cnd (decide (((x3673.Parts.length : Nat) : Int) > 100)) (bnd (f1 n ) fun v3688 => (cnd (v3688) (some (Sum.inl (x3673.Kind, x3673.ID, x3673.A, x3673.B, x3673.C, x3673.At.X, x3673.At.Y, x3673.Via, x3673.Name, x3673.Parts, true))) (some (Sum.inl (x3673.Kind, x3673.ID, x3673.A, x3673.B, x3673.C, x3673.At.X, x3673.At.Y, x3673.Via, x3673.Name, x3673.Parts, false))))) (cnd (decide (((x3673.Name.size : Nat) : Int) > 1000)) (bnd (f1 n ) fun v3697 => (cnd (v3697) (some (Sum.inl (x3673.Kind, x3673.ID, x3673.A, x3673.B, x3673.C, x3673.At.X, x3673.At.Y, x3673.Via, x3673.Name, x3673.Parts, true))) (some (Sum.inl (x3673.Kind, x3673.ID, x3673.A, x3673.B, x3673.C, x3673.At.X, x3673.At.Y, x3673.Via, x3673.Name, x3673.Parts, false))))) (f0_L0 n a3571 m (IntKind.i64.wrap (i3624 + 1))))))) (some (Sum.inr ())))
theorem f0_L0_ok (n : Nat) (a3571 : GTxn) : ∀ (m : Nat) (i3624 : Int) (r : ((Int × Int × Int × Int × Int × Int × Int × (List GPoint) × ByteArray × (List Int) × Bool) ⊕ Unit)), f0_L0 n a3571 m i3624 = some r → maskR [false, true] [false, false, true] true 0 1 (evLoopH (headSt (some [false, true, false, true]) true 0 1) (evC PP (evF PP T n) n 0 L0_0) m (f0_L0_S a3571 i3624)) = (match r with | .inl r => some (.ret, f0_L0_E0 a3571 r.1 r.2.1 r.2.2.1 r.2.2.2.1 r.2.2.2.2.1 r.2.2.2.2.2.1 r.2.2.2.2.2.2.1 r.2.2.2.2.2.2.2.1 r.2.2.2.2.2.2.2.2.1 r.2.2.2.2.2.2.2.2.2.1 r.2.2.2.2.2.2.2.2.2.2) | .inr r => some ((.exit 0), f0_L0_E1 a3571))
 | 0, _, _, h => by cases h
 | m + 1, i3624, r, h => by
  rw [f0_L0] at h
  have g3670 := len_sl (P := PP) (cf := evF PP T n) (fl := 0) (H := [(.blk 5 [(c_GTxn a3571)])]) (f := false) (c := c_GEdit) (l := a3571.Edits)
  rcases cnd_or h with ⟨h3671, h⟩ | ⟨h3671, h⟩
  rotate_left
  ·have g3703 := bool_eq h3671
   obtain rfl := si h
   exact last_z (live := some [false, true, false, true]) (tr' := true) (st' := f0_L0_E1 a3571) ⟨[(19, (iv ((a3571.Edits.length : Nat) : Int)), none), ff 20], []⟩ [] [] rfl (W2 g3703 g3670 Z0) (by kernel_rfl) (by first | rfl | simp [cleanX, cleanQ, cleanObj, clean1, clean2, f0_L0_E1])
  have g3672 := bool_eq h3671
  obtain ⟨x3673, e3674, h⟩ := bnd_some h
  have g3675 := idxl (H := [(.blk 5 [(c_GTxn a3571)])]) (f := false) (c := c_GEdit) e3674 (c_GEdit_len _)
  have g3676 := len_sl (P := PP) (cf := evF PP T n) (fl := 0) (H := (hp14 a3571 x3673)) (f := false) (c := c_GPoint) (l := x3673.Via)
  rcases cnd_or h with ⟨h3677, h⟩ | ⟨h3677, h⟩
  ·have g3678 := bool_eq h3677
   obtain ⟨v3679, e3680, h⟩ := bnd_some h
   rcases cnd_or h with ⟨h3681, h⟩ | ⟨h3681, h⟩
   ·have g3682 := by have q := f1_ok n  _ e3680; rw [h3681] at q; exact q
    obtain rfl := si h
    exact last_z (live := some [false, true, false, true]) (tr' := true) (st' := f0_L0_E0 a3571 x3673.Kind x3673.ID x3673.A x3673.B x3673.C x3673.At.X x3673.At.Y x3673.Via x3673.Name x3673.Parts true) ⟨[(19, (iv ((a3571.Edits.length : Nat) : Int)), none), tt 20, (26, (.rptr [(iv x3673.Kind), (iv x3673.ID), (iv x3673.A), (iv x3673.B), (iv x3673.C), (iv x3673.At.X), (iv x3673.At.Y), (.sl false (List.map c_GPoint x3673.Via)), (sv x3673.Name), (.sl false (List.map c_i64 x3673.Parts))]), none), (30, (iv ((x3673.Via.length : Nat) : Int)), none), tt 31, tt 44], []⟩ [] [none] rfl (W4 g3682 g3678 g3676 g3675 <| W2 g3672 g3670 Z0) (by kernel_rfl) trivial
   have g3683 := by have q := f1_ok n  _ e3680; rw [h3681] at q; exact q
   obtain rfl := si h
   exact last_z (live := some [false, true, false, true]) (tr' := true) (st' := f0_L0_E0 a3571 x3673.Kind x3673.ID x3673.A x3673.B x3673.C x3673.At.X x3673.At.Y x3673.Via x3673.Name x3673.Parts false) ⟨[(19, (iv ((a3571.Edits.length : Nat) : Int)), none), tt 20, (26, (.rptr [(iv x3673.Kind), (iv x3673.ID), (iv x3673.A), (iv x3673.B), (iv x3673.C), (iv x3673.At.X), (iv x3673.At.Y), (.sl false (List.map c_GPoint x3673.Via)), (sv x3673.Name), (.sl false (List.map c_i64 x3673.Parts))]), none), (30, (iv ((x3673.Via.length : Nat) : Int)), none), tt 31, ff 44], []⟩ [] [none] rfl (W4 g3683 g3678 g3676 g3675 <| W2 g3672 g3670 Z0) (by kernel_rfl) trivial
  have g3684 := bool_eq h3677
  have g3685 := len_sl (P := PP) (cf := evF PP T n) (fl := 0) (H := (hp14 a3571 x3673)) (f := false) (c := c_i64) (l := x3673.Parts)
  rcases cnd_or h with ⟨h3686, h⟩ | ⟨h3686, h⟩
  ·have g3687 := bool_eq h3686
   obtain ⟨v3688, e3689, h⟩ := bnd_some h
   rcases cnd_or h with ⟨h3690, h⟩ | ⟨h3690, h⟩
   ·have g3691 := by have q := f1_ok n  _ e3689; rw [h3690] at q; exact q
    obtain rfl := si h
    exact last_z (live := some [false, true, false, true]) (tr' := true) (st' := f0_L0_E0 a3571 x3673.Kind x3673.ID x3673.A x3673.B x3673.C x3673.At.X x3673.At.Y x3673.Via x3673.Name x3673.Parts true) ⟨[(19, (iv ((a3571.Edits.length : Nat) : Int)), none), tt 20, (26, (.rptr [(iv x3673.Kind), (iv x3673.ID), (iv x3673.A), (iv x3673.B), (iv x3673.C), (iv x3673.At.X), (iv x3673.At.Y), (.sl false (List.map c_GPoint x3673.Via)), (sv x3673.Name), (.sl false (List.map c_i64 x3673.Parts))]), none), (30, (iv ((x3673.Via.length : Nat) : Int)), none), ff 31, (35, (iv ((x3673.Parts.length : Nat) : Int)), none), tt 36, tt 44], []⟩ [] [none] rfl (W8 g3691 g3687 g3685 g3684 g3676 g3675 g3672 g3670 Z0) (by kernel_rfl) trivial
   have g3692 := by have q := f1_ok n  _ e3689; rw [h3690] at q; exact q
   obtain rfl := si h
   exact last_z (live := some [false, true, false, true]) (tr' := true) (st' := f0_L0_E0 a3571 x3673.Kind x3673.ID x3673.A x3673.B x3673.C x3673.At.X x3673.At.Y x3673.Via x3673.Name x3673.Parts false) ⟨[(19, (iv ((a3571.Edits.length : Nat) : Int)), none), tt 20, (26, (.rptr [(iv x3673.Kind), (iv x3673.ID), (iv x3673.A), (iv x3673.B), (iv x3673.C), (iv x3673.At.X), (iv x3673.At.Y), (.sl false (List.map c_GPoint x3673.Via)), (sv x3673.Name), (.sl false (List.map c_i64 x3673.Parts))]), none), (30, (iv ((x3673.Via.length : Nat) : Int)), none), ff 31, (35, (iv ((x3673.Parts.length : Nat) : Int)), none), tt 36, ff 44], []⟩ [] [none] rfl (W8 g3692 g3687 g3685 g3684 g3676 g3675 g3672 g3670 Z0) (by kernel_rfl) trivial
  have g3693 := bool_eq h3686
  have g3694 := lenStr_9 (cf := evF PP T n) (fl := 0) (H := (hp14 a3571 x3673)) x3673.Name
  rcases cnd_or h with ⟨h3695, h⟩ | ⟨h3695, h⟩
  rotate_left
  ·have g3702 := bool_eq h3695
   exact (congrArg (maskR [false, true] [false, false, true] true 0 1) (next_z (live := some [false, true, false, true]) (tr := true) (st' := f0_L0_S a3571 (IntKind.i64.wrap (i3624 + 1))) ⟨[(19, (iv ((a3571.Edits.length : Nat) : Int)), none), tt 20, (26, (.rptr [(iv x3673.Kind), (iv x3673.ID), (iv x3673.A), (iv x3673.B), (iv x3673.C), (iv x3673.At.X), (iv x3673.At.Y), (.sl false (List.map c_GPoint x3673.Via)), (sv x3673.Name), (.sl false (List.map c_i64 x3673.Parts))]), none), (30, (iv ((x3673.Via.length : Nat) : Int)), none), ff 31, (35, (iv ((x3673.Parts.length : Nat) : Int)), none), ff 36, (41, (iv ((x3673.Name.size : Nat) : Int)), none), ff 42], []⟩ [] [none] rfl (W8 g3702 g3694 g3693 g3685 g3684 g3676 g3675 g3672 <| Z g3670 Z0) (by kernel_rfl) (by first | rfl | simp [cleanX, cleanQ, cleanObj, clean1, clean2, f0_L0_S]) rfl)).trans (f0_L0_ok n a3571 m (IntKind.i64.wrap (i3624 + 1)) r h)
  have g3696 := bool_eq h3695
  obtain ⟨v3697, e3698, h⟩ := bnd_some h
  rcases cnd_or h with ⟨h3699, h⟩ | ⟨h3699, h⟩
  ·have g3700 := by have q := f1_ok n  _ e3698; rw [h3699] at q; exact q
   obtain rfl := si h
   exact last_z (live := some [false, true, false, true]) (tr' := true) (st' := f0_L0_E0 a3571 x3673.Kind x3673.ID x3673.A x3673.B x3673.C x3673.At.X x3673.At.Y x3673.Via x3673.Name x3673.Parts true) ⟨[(19, (iv ((a3571.Edits.length : Nat) : Int)), none), tt 20, (26, (.rptr [(iv x3673.Kind), (iv x3673.ID), (iv x3673.A), (iv x3673.B), (iv x3673.C), (iv x3673.At.X), (iv x3673.At.Y), (.sl false (List.map c_GPoint x3673.Via)), (sv x3673.Name), (.sl false (List.map c_i64 x3673.Parts))]), none), (30, (iv ((x3673.Via.length : Nat) : Int)), none), ff 31, (35, (iv ((x3673.Parts.length : Nat) : Int)), none), ff 36, (41, (iv ((x3673.Name.size : Nat) : Int)), none), tt 42, tt 44], []⟩ [] [none] rfl (W8 g3700 g3696 g3694 g3693 g3685 g3684 g3676 g3675 <| W2 g3672 g3670 Z0) (by kernel_rfl) trivial
  have g3701 := by have q := f1_ok n  _ e3698; rw [h3699] at q; exact q
  obtain rfl := si h
  exact last_z (live := some [false, true, false, true]) (tr' := true) (st' := f0_L0_E0 a3571 x3673.Kind x3673.ID x3673.A x3673.B x3673.C x3673.At.X x3673.At.Y x3673.Via x3673.Name x3673.Parts false) ⟨[(19, (iv ((a3571.Edits.length : Nat) : Int)), none), tt 20, (26, (.rptr [(iv x3673.Kind), (iv x3673.ID), (iv x3673.A), (iv x3673.B), (iv x3673.C), (iv x3673.At.X), (iv x3673.At.Y), (.sl false (List.map c_GPoint x3673.Via)), (sv x3673.Name), (.sl false (List.map c_i64 x3673.Parts))]), none), (30, (iv ((x3673.Via.length : Nat) : Int)), none), ff 31, (35, (iv ((x3673.Parts.length : Nat) : Int)), none), ff 36, (41, (iv ((x3673.Name.size : Nat) : Int)), none), tt 42, ff 44], []⟩ [] [none] rfl (W8 g3701 g3696 g3694 g3693 g3685 g3684 g3676 g3675 <| W2 g3672 g3670 Z0) (by kernel_rfl) trivial
def f0 : Nat → GTxn → Option Bool
 | 0, _ => none
 | n + 1, a3571 => (cnd (decide (((a3571.Edits.length : Nat) : Int) > 100)) (bnd (f1 n ) fun v3575 => (cnd (v3575) (some true) (some false))) (cnd (decide (((a3571.Source.size : Nat) : Int) > 1000)) (bnd (f1 n ) fun v3584 => (cnd (v3584) (some true) (some false))) (bnd2 (f0_L0 n a3571 n 0) (fun v3707 => (some v3707.2.2.2.2.2.2.2.2.2.2)) (fun v3708 => (bnd (f1 n ) fun v3709 => (cnd (v3709) (bnd (f2 n a3571) fun v3713 => (bnd (f3 n a3571) fun v3716 => (cnd (v3713 == v3716) (some true) (some false)))) (some false)))))))
theorem f0_ok (n : Nat) (a3571 : GTxn) (r : Bool) (h : f0 n a3571 = some r) : pv PP T n 0 [(.agg (c_GTxn a3571))] = some (bv r) := by
 cases n with
 | zero => cases h
 | succ n =>
  rw [f0] at h
  have g3572 := len_sl (P := PP) (cf := evF PP T n) (fl := 0) (H := [(.blk 5 [(c_GTxn a3571)])]) (f := false) (c := c_GEdit) (l := a3571.Edits)
  rcases cnd_or h with ⟨h3573, h⟩ | ⟨h3573, h⟩
  ·have g3574 := bool_eq h3573
   obtain ⟨v3575, e3576, h⟩ := bnd_some h
   rcases cnd_or h with ⟨h3577, h⟩ | ⟨h3577, h⟩
   ·have g3578 := by have q := f1_ok n  _ e3576; rw [h3577] at q; exact q
    obtain rfl := si h
    exact pz F0 ⟨[(7, (iv ((a3571.Edits.length : Nat) : Int)), none), tt 8, tt 15], []⟩ (W2 g3578 g3574 <| Z g3572 Z0)
   have g3579 := by have q := f1_ok n  _ e3576; rw [h3577] at q; exact q
   obtain rfl := si h
   exact pz F0 ⟨[(7, (iv ((a3571.Edits.length : Nat) : Int)), none), tt 8, ff 15], []⟩ (W2 g3579 g3574 <| Z g3572 Z0)
  have g3580 := bool_eq h3573
  have g3581 := lenStr_9 (cf := evF PP T n) (fl := 0) (H := [(.blk 5 [(c_GTxn a3571)])]) a3571.Source
  rcases cnd_or h with ⟨h3582, h⟩ | ⟨h3582, h⟩
  ·have g3583 := bool_eq h3582
   obtain ⟨v3584, e3585, h⟩ := bnd_some h
   rcases cnd_or h with ⟨h3586, h⟩ | ⟨h3586, h⟩
   ·have g3587 := by have q := f1_ok n  _ e3585; rw [h3586] at q; exact q
    obtain rfl := si h
    exact pz F0 ⟨[(7, (iv ((a3571.Edits.length : Nat) : Int)), none), ff 8, (12, (iv ((a3571.Source.size : Nat) : Int)), none), tt 13, tt 15], []⟩ (W4 g3587 g3583 g3581 g3580 <| Z g3572 Z0)
   have g3588 := by have q := f1_ok n  _ e3585; rw [h3586] at q; exact q
   obtain rfl := si h
   exact pz F0 ⟨[(7, (iv ((a3571.Edits.length : Nat) : Int)), none), ff 8, (12, (iv ((a3571.Source.size : Nat) : Int)), none), tt 13, ff 15], []⟩ (W4 g3588 g3583 g3581 g3580 <| Z g3572 Z0)
  have g3589 := bool_eq h3582
  have g3704 : cleanQ true 0 1 [(.blk 5 [(c_GTxn a3571)])] := (by first | rfl | simp [cleanX, cleanQ, cleanObj, clean1, clean2])
  rcases bnd2_some h with ⟨v3707, e3705, h⟩ | ⟨v3708, e3705, h⟩
  ·have g3706 := f0_L0_ok n a3571 n 0 _ e3705
   obtain rfl := si h
   exact pv_z (F := F0) ⟨[(7, (iv ((a3571.Edits.length : Nat) : Int)), none), ff 8, (12, (iv ((a3571.Source.size : Nat) : Int)), none), ff 13], []⟩ [(.ret, f0_L0_E0 a3571 v3707.1 v3707.2.1 v3707.2.2.1 v3707.2.2.2.1 v3707.2.2.2.2.1 v3707.2.2.2.2.2.1 v3707.2.2.2.2.2.2.1 v3707.2.2.2.2.2.2.2.1 v3707.2.2.2.2.2.2.2.2.1 v3707.2.2.2.2.2.2.2.2.2.1 v3707.2.2.2.2.2.2.2.2.2.2)] [] rfl (W4 g3706 g3704 g3589 g3581 <| W2 g3580 g3572 Z0) (by kernel_rfl)
  have g3706 := f0_L0_ok n a3571 n 0 _ e3705
  obtain ⟨v3709, e3710, h⟩ := bnd_some h
  rcases cnd_or h with ⟨h3711, h⟩ | ⟨h3711, h⟩
  rotate_left
  ·have g3722 := by have q := f1_ok n  _ e3710; rw [h3711] at q; exact q
   obtain rfl := si h
   exact pv_z (F := F0) ⟨[(7, (iv ((a3571.Edits.length : Nat) : Int)), none), ff 8, (12, (iv ((a3571.Source.size : Nat) : Int)), none), ff 13, ff 45], []⟩ [((.exit 0), f0_L0_E1 a3571)] [] rfl (W4 g3722 g3706 g3704 g3589 <| W2 g3581 g3580 <| Z g3572 Z0) (by kernel_rfl)
  have g3712 := by have q := f1_ok n  _ e3710; rw [h3711] at q; exact q
  obtain ⟨v3713, e3714, h⟩ := bnd_some h
  have g3715 := f2_ok n a3571 _ e3714
  obtain ⟨v3716, e3717, h⟩ := bnd_some h
  have g3718 := f3_ok n a3571 _ e3717
  rcases cnd_or h with ⟨h3719, h⟩ | ⟨h3719, h⟩
  ·have g3720 := bool_eq h3719
   obtain rfl := si h
   exact pv_z (F := F0) ⟨[(7, (iv ((a3571.Edits.length : Nat) : Int)), none), ff 8, (12, (iv ((a3571.Source.size : Nat) : Int)), none), ff 13, tt 45, (48, (iv v3713), none), (50, (iv v3716), none), tt 51], []⟩ [((.exit 0), f0_L0_E1 a3571)] [] rfl (W8 g3720 g3718 g3715 g3712 g3706 g3704 g3589 g3581 <| W2 g3580 g3572 Z0) (by kernel_rfl)
  have g3721 := bool_eq h3719
  obtain rfl := si h
  exact pv_z (F := F0) ⟨[(7, (iv ((a3571.Edits.length : Nat) : Int)), none), ff 8, (12, (iv ((a3571.Source.size : Nat) : Int)), none), ff 13, tt 45, (48, (iv v3713), none), (50, (iv v3716), none), ff 51], []⟩ [((.exit 0), f0_L0_E1 a3571)] [] rfl (W8 g3721 g3718 g3715 g3712 g3706 g3704 g3589 g3581 <| W2 g3580 g3572 Z0) (by kernel_rfl)
end Go.Proofs.YtmflphfmefakfaaGreatDoor.Av
