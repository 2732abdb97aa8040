/- A part of the proof of EditChecksCardSaid. -/
import Derived.Test.YtmflphfmefakfaaGreatDoorVeTl2
import Derived.Test.YtmflphfmefakfaaGreatDoorVeM14
set_option linter.all false
namespace Go.Proofs.YtmflphfmefakfaaGreatDoor.Av
open Go
set_option linter.unusedVariables false
set_option linter.unusedSimpArgs false
def f3 (n : Nat) : Option Bool := if 10000 ≤ n then some true else none
theorem f3_ok (n : Nat) (r : Bool) (h : f3 n = some r) : pv PP T n 3 [] = some (.lit (.bool r)) := by
 unfold f3 at h
 split at h
 ·rename_i hn; cases h; exact pv_mono hn awake_pv3
 ·cases h
def f0 : Nat → GEdit → Option Bool
 | 0, _ => none
 | n + 1, a3308 => (bnd (f1 n a3308) fun v3309 => (bnd (f2 n a3308) fun v3312 => (cnd (v3309 == v3312) (bnd (f3 n ) fun v3317 => (cnd (v3317) (some true) (some false))) (some false))))
theorem f0_ok (n : Nat) (a3308 : GEdit) (r : Bool) (h : f0 n a3308 = some r) : pv PP T n 0 [(.agg (c_GEdit a3308))] = some (bv r) := by
 cases n with
 | zero => cases h
 | succ n =>
  rw [f0] at h
  obtain ⟨v3309, e3310, h⟩ := bnd_some h
  have g3311 := f1_ok n a3308 _ e3310
  obtain ⟨v3312, e3313, h⟩ := bnd_some h
  have g3314 := f2_ok n a3308 _ e3313
  rcases cnd_or h with ⟨h3315, h⟩ | ⟨h3315, h⟩
  rotate_left
  ·have g3322 := bool_eq h3315
   cases h
   exact pz F0 ⟨[(4, (iv v3309), none), (6, (iv v3312), none), ff 7], []⟩ (W2 g3322 g3314 <| Z g3311 Z0)
  have g3316 := bool_eq h3315
  obtain ⟨v3317, e3318, h⟩ := bnd_some h
  rcases cnd_or h with ⟨h3319, h⟩ | ⟨h3319, h⟩
  ·have g3320 := by have q := f3_ok n  _ e3318; rw [h3319] at q; exact q
   cases h
   exact pz F0 ⟨[(4, (iv v3309), none), (6, (iv v3312), none), tt 7, tt 9], []⟩ (W4 g3320 g3316 g3314 g3311 Z0)
  have g3321 := by have q := f3_ok n  _ e3318; rw [h3319] at q; exact q
  cases h
  exact pz F0 ⟨[(4, (iv v3309), none), (6, (iv v3312), none), tt 7, ff 9], []⟩ (W4 g3321 g3316 g3314 g3311 Z0)
end Go.Proofs.YtmflphfmefakfaaGreatDoor.Av
