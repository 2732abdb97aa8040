/- A part of the proof of ChangesetCompactsCardSaid: an evaluator of the program, proved sound, and what it says. -/
import Derived.Test.YtanonfpdkoijnaaGreatDoorAvTl0
namespace Go.Proofs.YtanonfpdkoijnaaGreatDoor.Av
open Go
set_option linter.unusedVariables false
set_option linter.unusedSimpArgs false
theorem f16_ok (n : Nat) (a677 : GEdit) (a678 : GEdit) (r : Bool) (h : f16 n a677 a678 = some r) : pv PP T n 16 [(.agg (c_GEdit a677)), (.agg (c_GEdit a678))] = some (.lit (.bool r)) := by
  cases n with
  | zero => cases h
  | succ n =>
    rw [f16] at h
    rcases Bool.eq_false_or_eq_true (a677.ID != a678.ID) with h679 | h679
    · replace h := (cnd_t h679).trans h
      have g680 := bool_eq h679
      have hr := Option.some.inj h
      subst hr
      exact pv_o (F := F16) ⟨[(9, (.lit (.bool true)), none)], []⟩ [] [] rfl (ps := [PropOf g680]) (by kernel_rfl) ⟨g680, trivial⟩
    · replace h := (cnd_f h679).trans h
      have g681 := bool_eq h679
      rcases Bool.eq_false_or_eq_true (a677.Kind == 3) with h682 | h682
      · replace h := (cnd_t h682).trans h
        have g683 := bool_eq h682
        rcases Bool.eq_false_or_eq_true (a678.Kind == a677.Kind) with h684 | h684
        · replace h := (cnd_t h684).trans h
          have g685 := bool_eq h684
          have hr := Option.some.inj h
          subst hr
          exact pv_o (F := F16) ⟨[(9, (.lit (.bool false)), none), (13, (.lit (.bool true)), none), (18, (.lit (.bool true)), none)], []⟩ [] [] rfl (ps := [PropOf g685, PropOf g683, PropOf g681]) (by kernel_rfl) ⟨g685, g683, g681, trivial⟩
        · replace h := (cnd_f h684).trans h
          have g686 := bool_eq h684
          rcases Bool.eq_false_or_eq_true (a678.Kind == 2) with h687 | h687
          · replace h := (cnd_t h687).trans h
            have g688 := bool_eq h687
            have hr := Option.some.inj h
            subst hr
            exact pv_o (F := F16) ⟨[(9, (.lit (.bool false)), none), (13, (.lit (.bool true)), none), (18, (.lit (.bool false)), none), (22, (.lit (.bool true)), none)], []⟩ [] [] rfl (ps := [PropOf g688, PropOf g686, PropOf g683, PropOf g681]) (by kernel_rfl) ⟨g688, g686, g683, g681, trivial⟩
          · replace h := (cnd_f h687).trans h
            have g689 := bool_eq h687
            have hr := Option.some.inj h
            subst hr
            exact pv_o (F := F16) ⟨[(9, (.lit (.bool false)), none), (13, (.lit (.bool true)), none), (18, (.lit (.bool false)), none), (22, (.lit (.bool false)), none)], []⟩ [] [] rfl (ps := [PropOf g689, PropOf g686, PropOf g683, PropOf g681]) (by kernel_rfl) ⟨g689, g686, g683, g681, trivial⟩
      · replace h := (cnd_f h682).trans h
        have g690 := bool_eq h682
        rcases Bool.eq_false_or_eq_true (a677.Kind == 6) with h691 | h691
        · replace h := (cnd_t h691).trans h
          have g692 := bool_eq h691
          rcases Bool.eq_false_or_eq_true (a678.Kind == a677.Kind) with h693 | h693
          · replace h := (cnd_t h693).trans h
            have g694 := bool_eq h693
            have hr := Option.some.inj h
            subst hr
            exact pv_o (F := F16) ⟨[(9, (.lit (.bool false)), none), (13, (.lit (.bool false)), none), (25, (.lit (.bool true)), none), (30, (.lit (.bool true)), none)], []⟩ [] [] rfl (ps := [PropOf g694, PropOf g692, PropOf g690, PropOf g681]) (by kernel_rfl) ⟨g694, g692, g690, g681, trivial⟩
          · replace h := (cnd_f h693).trans h
            have g695 := bool_eq h693
            rcases Bool.eq_false_or_eq_true (a678.Kind == 5) with h696 | h696
            · replace h := (cnd_t h696).trans h
              have g697 := bool_eq h696
              have hr := Option.some.inj h
              subst hr
              exact pv_o (F := F16) ⟨[(9, (.lit (.bool false)), none), (13, (.lit (.bool false)), none), (25, (.lit (.bool true)), none), (30, (.lit (.bool false)), none), (34, (.lit (.bool true)), none)], []⟩ [] [] rfl (ps := [PropOf g697, PropOf g695, PropOf g692, PropOf g690, PropOf g681]) (by kernel_rfl) ⟨g697, g695, g692, g690, g681, trivial⟩
            · replace h := (cnd_f h696).trans h
              have g698 := bool_eq h696
              have hr := Option.some.inj h
              subst hr
              exact pv_o (F := F16) ⟨[(9, (.lit (.bool false)), none), (13, (.lit (.bool false)), none), (25, (.lit (.bool true)), none), (30, (.lit (.bool false)), none), (34, (.lit (.bool false)), none)], []⟩ [] [] rfl (ps := [PropOf g698, PropOf g695, PropOf g692, PropOf g690, PropOf g681]) (by kernel_rfl) ⟨g698, g695, g692, g690, g681, trivial⟩
        · replace h := (cnd_f h691).trans h
          have g699 := bool_eq h691
          rcases Bool.eq_false_or_eq_true (a677.Kind == 9) with h700 | h700
          · replace h := (cnd_t h700).trans h
            have g701 := bool_eq h700
            rcases Bool.eq_false_or_eq_true (a678.Kind == a677.Kind) with h702 | h702
            · replace h := (cnd_t h702).trans h
              have g703 := bool_eq h702
              have hr := Option.some.inj h
              subst hr
              exact pv_o (F := F16) ⟨[(9, (.lit (.bool false)), none), (13, (.lit (.bool false)), none), (25, (.lit (.bool false)), none), (37, (.lit (.bool true)), none), (44, (.lit (.bool true)), none)], []⟩ [] [] rfl (ps := [PropOf g703, PropOf g701, PropOf g699, PropOf g690, PropOf g681]) (by kernel_rfl) ⟨g703, g701, g699, g690, g681, trivial⟩
            · replace h := (cnd_f h702).trans h
              have g704 := bool_eq h702
              rcases Bool.eq_false_or_eq_true (a678.Kind == 8) with h705 | h705
              · replace h := (cnd_t h705).trans h
                have g706 := bool_eq h705
                have hr := Option.some.inj h
                subst hr
                exact pv_o (F := F16) ⟨[(9, (.lit (.bool false)), none), (13, (.lit (.bool false)), none), (25, (.lit (.bool false)), none), (37, (.lit (.bool true)), none), (44, (.lit (.bool false)), none), (48, (.lit (.bool true)), none)], []⟩ [] [] rfl (ps := [PropOf g706, PropOf g704, PropOf g701, PropOf g699, PropOf g690, PropOf g681]) (by kernel_rfl) ⟨g706, g704, g701, g699, g690, g681, trivial⟩
              · replace h := (cnd_f h705).trans h
                have g707 := bool_eq h705
                have hr := Option.some.inj h
                subst hr
                exact pv_o (F := F16) ⟨[(9, (.lit (.bool false)), none), (13, (.lit (.bool false)), none), (25, (.lit (.bool false)), none), (37, (.lit (.bool true)), none), (44, (.lit (.bool false)), none), (48, (.lit (.bool false)), none)], []⟩ [] [] rfl (ps := [PropOf g707, PropOf g704, PropOf g701, PropOf g699, PropOf g690, PropOf g681]) (by kernel_rfl) ⟨g707, g704, g701, g699, g690, g681, trivial⟩
          · replace h := (cnd_f h700).trans h
            have g708 := bool_eq h700
            rcases Bool.eq_false_or_eq_true (a677.Kind == 10) with h709 | h709
            · replace h := (cnd_t h709).trans h
              have g710 := bool_eq h709
              rcases Bool.eq_false_or_eq_true (a678.Kind == a677.Kind) with h711 | h711
              · replace h := (cnd_t h711).trans h
                have g712 := bool_eq h711
                have hr := Option.some.inj h
                subst hr
                exact pv_o (F := F16) ⟨[(9, (.lit (.bool false)), none), (13, (.lit (.bool false)), none), (25, (.lit (.bool false)), none), (37, (.lit (.bool false)), none), (38, (.lit (.bool true)), none), (44, (.lit (.bool true)), none)], []⟩ [] [] rfl (ps := [PropOf g712, PropOf g710, PropOf g708, PropOf g699, PropOf g690, PropOf g681]) (by kernel_rfl) ⟨g712, g710, g708, g699, g690, g681, trivial⟩
              · replace h := (cnd_f h711).trans h
                have g713 := bool_eq h711
                rcases Bool.eq_false_or_eq_true (a678.Kind == 8) with h714 | h714
                · replace h := (cnd_t h714).trans h
                  have g715 := bool_eq h714
                  have hr := Option.some.inj h
                  subst hr
                  exact pv_o (F := F16) ⟨[(9, (.lit (.bool false)), none), (13, (.lit (.bool false)), none), (25, (.lit (.bool false)), none), (37, (.lit (.bool false)), none), (38, (.lit (.bool true)), none), (44, (.lit (.bool false)), none), (48, (.lit (.bool true)), none)], []⟩ [] [] rfl (ps := [PropOf g715, PropOf g713, PropOf g710, PropOf g708, PropOf g699, PropOf g690, PropOf g681]) (by kernel_rfl) ⟨g715, g713, g710, g708, g699, g690, g681, trivial⟩
                · replace h := (cnd_f h714).trans h
                  have g716 := bool_eq h714
                  have hr := Option.some.inj h
                  subst hr
                  exact pv_o (F := F16) ⟨[(9, (.lit (.bool false)), none), (13, (.lit (.bool false)), none), (25, (.lit (.bool false)), none), (37, (.lit (.bool false)), none), (38, (.lit (.bool true)), none), (44, (.lit (.bool false)), none), (48, (.lit (.bool false)), none)], []⟩ [] [] rfl (ps := [PropOf g716, PropOf g713, PropOf g710, PropOf g708, PropOf g699, PropOf g690, PropOf g681]) (by kernel_rfl) ⟨g716, g713, g710, g708, g699, g690, g681, trivial⟩
            · replace h := (cnd_f h709).trans h
              have g717 := bool_eq h709
              rcases Bool.eq_false_or_eq_true (a677.Kind == 11) with h718 | h718
              · replace h := (cnd_t h718).trans h
                have g719 := bool_eq h718
                rcases Bool.eq_false_or_eq_true (a678.Kind == a677.Kind) with h720 | h720
                · replace h := (cnd_t h720).trans h
                  have g721 := bool_eq h720
                  have hr := Option.some.inj h
                  subst hr
                  exact pv_o (F := F16) ⟨[(9, (.lit (.bool false)), none), (13, (.lit (.bool false)), none), (25, (.lit (.bool false)), none), (37, (.lit (.bool false)), none), (38, (.lit (.bool false)), none), (39, (.lit (.bool true)), none), (44, (.lit (.bool true)), none)], []⟩ [] [] rfl (ps := [PropOf g721, PropOf g719, PropOf g717, PropOf g708, PropOf g699, PropOf g690, PropOf g681]) (by kernel_rfl) ⟨g721, g719, g717, g708, g699, g690, g681, trivial⟩
                · replace h := (cnd_f h720).trans h
                  have g722 := bool_eq h720
                  rcases Bool.eq_false_or_eq_true (a678.Kind == 8) with h723 | h723
                  · replace h := (cnd_t h723).trans h
                    have g724 := bool_eq h723
                    have hr := Option.some.inj h
                    subst hr
                    exact pv_o (F := F16) ⟨[(9, (.lit (.bool false)), none), (13, (.lit (.bool false)), none), (25, (.lit (.bool false)), none), (37, (.lit (.bool false)), none), (38, (.lit (.bool false)), none), (39, (.lit (.bool true)), none), (44, (.lit (.bool false)), none), (48, (.lit (.bool true)), none)], []⟩ [] [] rfl (ps := [PropOf g724, PropOf g722, PropOf g719, PropOf g717, PropOf g708, PropOf g699, PropOf g690, PropOf g681]) (by kernel_rfl) ⟨g724, g722, g719, g717, g708, g699, g690, g681, trivial⟩
                  · replace h := (cnd_f h723).trans h
                    have g725 := bool_eq h723
                    have hr := Option.some.inj h
                    subst hr
                    exact pv_o (F := F16) ⟨[(9, (.lit (.bool false)), none), (13, (.lit (.bool false)), none), (25, (.lit (.bool false)), none), (37, (.lit (.bool false)), none), (38, (.lit (.bool false)), none), (39, (.lit (.bool true)), none), (44, (.lit (.bool false)), none), (48, (.lit (.bool false)), none)], []⟩ [] [] rfl (ps := [PropOf g725, PropOf g722, PropOf g719, PropOf g717, PropOf g708, PropOf g699, PropOf g690, PropOf g681]) (by kernel_rfl) ⟨g725, g722, g719, g717, g708, g699, g690, g681, trivial⟩
              · replace h := (cnd_f h718).trans h
                have g726 := bool_eq h718
                have hr := Option.some.inj h
                subst hr
                exact pv_o (F := F16) ⟨[(9, (.lit (.bool false)), none), (13, (.lit (.bool false)), none), (25, (.lit (.bool false)), none), (37, (.lit (.bool false)), none), (38, (.lit (.bool false)), none), (39, (.lit (.bool false)), none)], []⟩ [] [] rfl (ps := [PropOf g726, PropOf g717, PropOf g708, PropOf g699, PropOf g690, PropOf g681]) (by kernel_rfl) ⟨g726, g717, g708, g699, g690, g681, trivial⟩
def f17 : Nat → GEdit → GEdit → Option Bool
  | 0, _, _ => none
  | n + 1, a727, a728 => (cnd (a727.Kind == 12) (cnd (a728.Kind == 12) (cnd (a727.A == a728.ID) (cnd (a728.A == a727.ID) (some true) (some false)) (some false)) (cnd (a727.ID == a728.ID) (cnd (a727.Kind == 1) (cnd (a728.Kind == 2) (some true) (cnd (a727.Kind == 7) (cnd (a728.Kind == 8) (some true) (cnd (a727.Kind == 4) (cnd (a727.C == 0) (cnd (a728.Kind == 5) (some true) (some false)) (some false)) (some false))) (cnd (a727.Kind == 4) (cnd (a727.C == 0) (cnd (a728.Kind == 5) (some true) (some false)) (some false)) (some false)))) (cnd (a727.Kind == 7) (cnd (a728.Kind == 8) (some true) (cnd (a727.Kind == 4) (cnd (a727.C == 0) (cnd (a728.Kind == 5) (some true) (some false)) (some false)) (some false))) (cnd (a727.Kind == 4) (cnd (a727.C == 0) (cnd (a728.Kind == 5) (some true) (some false)) (some false)) (some false)))) (some false))) (cnd (a727.ID == a728.ID) (cnd (a727.Kind == 1) (cnd (a728.Kind == 2) (some true) (cnd (a727.Kind == 7) (cnd (a728.Kind == 8) (some true) (cnd (a727.Kind == 4) (cnd (a727.C == 0) (cnd (a728.Kind == 5) (some true) (some false)) (some false)) (some false))) (cnd (a727.Kind == 4) (cnd (a727.C == 0) (cnd (a728.Kind == 5) (some true) (some false)) (some false)) (some false)))) (cnd (a727.Kind == 7) (cnd (a728.Kind == 8) (some true) (cnd (a727.Kind == 4) (cnd (a727.C == 0) (cnd (a728.Kind == 5) (some true) (some false)) (some false)) (some false))) (cnd (a727.Kind == 4) (cnd (a727.C == 0) (cnd (a728.Kind == 5) (some true) (some false)) (some false)) (some false)))) (some false)))
theorem f17_ok (n : Nat) (a727 : GEdit) (a728 : GEdit) (r : Bool) (h : f17 n a727 a728 = some r) : pv PP T n 17 [(.agg (c_GEdit a727)), (.agg (c_GEdit a728))] = some (.lit (.bool r)) := by
  cases n with
  | zero => cases h
  | succ n =>
    rw [f17] at h
    rcases Bool.eq_false_or_eq_true (a727.Kind == 12) with h729 | h729
    · replace h := (cnd_t h729).trans h
      have g730 := bool_eq h729
      rcases Bool.eq_false_or_eq_true (a728.Kind == 12) with h731 | h731
      · replace h := (cnd_t h731).trans h
        have g732 := bool_eq h731
        rcases Bool.eq_false_or_eq_true (a727.A == a728.ID) with h733 | h733
        · replace h := (cnd_t h733).trans h
          have g734 := bool_eq h733
          rcases Bool.eq_false_or_eq_true (a728.A == a727.ID) with h735 | h735
          · replace h := (cnd_t h735).trans h
            have g736 := bool_eq h735
            have hr := Option.some.inj h
            subst hr
            exact pv_o (F := F17) ⟨[(7, (.lit (.bool true)), none), (11, (.lit (.bool true)), none), (17, (.lit (.bool true)), none), (23, (.lit (.bool true)), none)], []⟩ [] [] rfl (ps := [PropOf g736, PropOf g734, PropOf g732, PropOf g730]) (by kernel_rfl) ⟨g736, g734, g732, g730, trivial⟩
          · replace h := (cnd_f h735).trans h
            have g737 := bool_eq h735
            have hr := Option.some.inj h
            subst hr
            exact pv_o (F := F17) ⟨[(7, (.lit (.bool true)), none), (11, (.lit (.bool true)), none), (17, (.lit (.bool true)), none), (23, (.lit (.bool false)), none)], []⟩ [] [] rfl (ps := [PropOf g737, PropOf g734, PropOf g732, PropOf g730]) (by kernel_rfl) ⟨g737, g734, g732, g730, trivial⟩
        · replace h := (cnd_f h733).trans h
          have g738 := bool_eq h733
          have hr := Option.some.inj h
          subst hr
          exact pv_o (F := F17) ⟨[(7, (.lit (.bool true)), none), (11, (.lit (.bool true)), none), (17, (.lit (.bool false)), none)], []⟩ [] [] rfl (ps := [PropOf g738, PropOf g732, PropOf g730]) (by kernel_rfl) ⟨g738, g732, g730, trivial⟩
      · replace h := (cnd_f h731).trans h
        have g739 := bool_eq h731
        rcases Bool.eq_false_or_eq_true (a727.ID == a728.ID) with h740 | h740
        · replace h := (cnd_t h740).trans h
          have g741 := bool_eq h740
          rcases Bool.eq_false_or_eq_true (a727.Kind == 1) with h742 | h742
          · replace h := (cnd_t h742).trans h
            have g743 := bool_eq h742
            rcases Bool.eq_false_or_eq_true (a728.Kind == 2) with h744 | h744
            · replace h := (cnd_t h744).trans h
              have g745 := bool_eq h744
              have hr := Option.some.inj h
              subst hr
              exact pv_o (F := F17) ⟨[(7, (.lit (.bool true)), none), (11, (.lit (.bool false)), none), (29, (.lit (.bool true)), none), (33, (.lit (.bool true)), none), (37, (.lit (.bool true)), none)], []⟩ [] [] rfl (ps := [PropOf g745, PropOf g743, PropOf g741, PropOf g739, PropOf g730]) (by kernel_rfl) ⟨g745, g743, g741, g739, g730, trivial⟩
            · replace h := (cnd_f h744).trans h
              have g746 := bool_eq h744
              rcases Bool.eq_false_or_eq_true (a727.Kind == 7) with h747 | h747
              · replace h := (cnd_t h747).trans h
                have g748 := bool_eq h747
                rcases Bool.eq_false_or_eq_true (a728.Kind == 8) with h749 | h749
                · replace h := (cnd_t h749).trans h
                  have g750 := bool_eq h749
                  have hr := Option.some.inj h
                  subst hr
                  exact pv_o (F := F17) ⟨[(7, (.lit (.bool true)), none), (11, (.lit (.bool false)), none), (29, (.lit (.bool true)), none), (33, (.lit (.bool true)), none), (37, (.lit (.bool false)), none), (42, (.lit (.bool true)), none), (46, (.lit (.bool true)), none)], []⟩ [] [] rfl (ps := [PropOf g750, PropOf g748, PropOf g746, PropOf g743, PropOf g741, PropOf g739, PropOf g730]) (by kernel_rfl) ⟨g750, g748, g746, g743, g741, g739, g730, trivial⟩
                · replace h := (cnd_f h749).trans h
                  have g751 := bool_eq h749
                  rcases Bool.eq_false_or_eq_true (a727.Kind == 4) with h752 | h752
                  · replace h := (cnd_t h752).trans h
                    have g753 := bool_eq h752
                    rcases Bool.eq_false_or_eq_true (a727.C == 0) with h754 | h754
                    · replace h := (cnd_t h754).trans h
                      have g755 := bool_eq h754
                      rcases Bool.eq_false_or_eq_true (a728.Kind == 5) with h756 | h756
                      · replace h := (cnd_t h756).trans h
                        have g757 := bool_eq h756
                        have hr := Option.some.inj h
                        subst hr
                        exact pv_o (F := F17) ⟨[(7, (.lit (.bool true)), none), (11, (.lit (.bool false)), none), (29, (.lit (.bool true)), none), (33, (.lit (.bool true)), none), (37, (.lit (.bool false)), none), (42, (.lit (.bool true)), none), (46, (.lit (.bool false)), none), (52, (.lit (.bool true)), none), (56, (.lit (.bool true)), none), (61, (.lit (.bool true)), none)], []⟩ [] [] rfl (ps := [PropOf g757, PropOf g755, PropOf g753, PropOf g751, PropOf g748, PropOf g746, PropOf g743, PropOf g741, PropOf g739, PropOf g730]) (by kernel_rfl) ⟨g757, g755, g753, g751, g748, g746, g743, g741, g739, g730, trivial⟩
                      · replace h := (cnd_f h756).trans h
                        have g758 := bool_eq h756
                        have hr := Option.some.inj h
                        subst hr
                        exact pv_o (F := F17) ⟨[(7, (.lit (.bool true)), none), (11, (.lit (.bool false)), none), (29, (.lit (.bool true)), none), (33, (.lit (.bool true)), none), (37, (.lit (.bool false)), none), (42, (.lit (.bool true)), none), (46, (.lit (.bool false)), none), (52, (.lit (.bool true)), none), (56, (.lit (.bool true)), none), (61, (.lit (.bool false)), none)], []⟩ [] [] rfl (ps := [PropOf g758, PropOf g755, PropOf g753, PropOf g751, PropOf g748, PropOf g746, PropOf g743, PropOf g741, PropOf g739, PropOf g730]) (by kernel_rfl) ⟨g758, g755, g753, g751, g748, g746, g743, g741, g739, g730, trivial⟩
                    · replace h := (cnd_f h754).trans h
                      have g759 := bool_eq h754
                      have hr := Option.some.inj h
                      subst hr
                      exact pv_o (F := F17) ⟨[(7, (.lit (.bool true)), none), (11, (.lit (.bool false)), none), (29, (.lit (.bool true)), none), (33, (.lit (.bool true)), none), (37, (.lit (.bool false)), none), (42, (.lit (.bool true)), none), (46, (.lit (.bool false)), none), (52, (.lit (.bool true)), none), (56, (.lit (.bool false)), none)], []⟩ [] [] rfl (ps := [PropOf g759, PropOf g753, PropOf g751, PropOf g748, PropOf g746, PropOf g743, PropOf g741, PropOf g739, PropOf g730]) (by kernel_rfl) ⟨g759, g753, g751, g748, g746, g743, g741, g739, g730, trivial⟩
                  · replace h := (cnd_f h752).trans h
                    have g760 := bool_eq h752
                    have hr := Option.some.inj h
                    subst hr
                    exact pv_o (F := F17) ⟨[(7, (.lit (.bool true)), none), (11, (.lit (.bool false)), none), (29, (.lit (.bool true)), none), (33, (.lit (.bool true)), none), (37, (.lit (.bool false)), none), (42, (.lit (.bool true)), none), (46, (.lit (.bool false)), none), (52, (.lit (.bool false)), none)], []⟩ [] [] rfl (ps := [PropOf g760, PropOf g751, PropOf g748, PropOf g746, PropOf g743, PropOf g741, PropOf g739, PropOf g730]) (by kernel_rfl) ⟨g760, g751, g748, g746, g743, g741, g739, g730, trivial⟩
              · replace h := (cnd_f h747).trans h
                have g761 := bool_eq h747
                rcases Bool.eq_false_or_eq_true (a727.Kind == 4) with h762 | h762
                · replace h := (cnd_t h762).trans h
                  have g763 := bool_eq h762
                  rcases Bool.eq_false_or_eq_true (a727.C == 0) with h764 | h764
                  · replace h := (cnd_t h764).trans h
                    have g765 := bool_eq h764
                    rcases Bool.eq_false_or_eq_true (a728.Kind == 5) with h766 | h766
                    · replace h := (cnd_t h766).trans h
                      have g767 := bool_eq h766
                      have hr := Option.some.inj h
                      subst hr
                      exact pv_o (F := F17) ⟨[(7, (.lit (.bool true)), none), (11, (.lit (.bool false)), none), (29, (.lit (.bool true)), none), (33, (.lit (.bool true)), none), (37, (.lit (.bool false)), none), (42, (.lit (.bool false)), none), (52, (.lit (.bool true)), none), (56, (.lit (.bool true)), none), (61, (.lit (.bool true)), none)], []⟩ [] [] rfl (ps := [PropOf g767, PropOf g765, PropOf g763, PropOf g761, PropOf g746, PropOf g743, PropOf g741, PropOf g739, PropOf g730]) (by kernel_rfl) ⟨g767, g765, g763, g761, g746, g743, g741, g739, g730, trivial⟩
                    · replace h := (cnd_f h766).trans h
                      have g768 := bool_eq h766
                      have hr := Option.some.inj h
                      subst hr
                      exact pv_o (F := F17) ⟨[(7, (.lit (.bool true)), none), (11, (.lit (.bool false)), none), (29, (.lit (.bool true)), none), (33, (.lit (.bool true)), none), (37, (.lit (.bool false)), none), (42, (.lit (.bool false)), none), (52, (.lit (.bool true)), none), (56, (.lit (.bool true)), none), (61, (.lit (.bool false)), none)], []⟩ [] [] rfl (ps := [PropOf g768, PropOf g765, PropOf g763, PropOf g761, PropOf g746, PropOf g743, PropOf g741, PropOf g739, PropOf g730]) (by kernel_rfl) ⟨g768, g765, g763, g761, g746, g743, g741, g739, g730, trivial⟩
                  · replace h := (cnd_f h764).trans h
                    have g769 := bool_eq h764
                    have hr := Option.some.inj h
                    subst hr
                    exact pv_o (F := F17) ⟨[(7, (.lit (.bool true)), none), (11, (.lit (.bool false)), none), (29, (.lit (.bool true)), none), (33, (.lit (.bool true)), none), (37, (.lit (.bool false)), none), (42, (.lit (.bool false)), none), (52, (.lit (.bool true)), none), (56, (.lit (.bool false)), none)], []⟩ [] [] rfl (ps := [PropOf g769, PropOf g763, PropOf g761, PropOf g746, PropOf g743, PropOf g741, PropOf g739, PropOf g730]) (by kernel_rfl) ⟨g769, g763, g761, g746, g743, g741, g739, g730, trivial⟩
                · replace h := (cnd_f h762).trans h
                  have g770 := bool_eq h762
                  have hr := Option.some.inj h
                  subst hr
                  exact pv_o (F := F17) ⟨[(7, (.lit (.bool true)), none), (11, (.lit (.bool false)), none), (29, (.lit (.bool true)), none), (33, (.lit (.bool true)), none), (37, (.lit (.bool false)), none), (42, (.lit (.bool false)), none), (52, (.lit (.bool false)), none)], []⟩ [] [] rfl (ps := [PropOf g770, PropOf g761, PropOf g746, PropOf g743, PropOf g741, PropOf g739, PropOf g730]) (by kernel_rfl) ⟨g770, g761, g746, g743, g741, g739, g730, trivial⟩
          · replace h := (cnd_f h742).trans h
            have g771 := bool_eq h742
            rcases Bool.eq_false_or_eq_true (a727.Kind == 7) with h772 | h772
            · replace h := (cnd_t h772).trans h
              have g773 := bool_eq h772
              rcases Bool.eq_false_or_eq_true (a728.Kind == 8) with h774 | h774
              · replace h := (cnd_t h774).trans h
                have g775 := bool_eq h774
                have hr := Option.some.inj h
                subst hr
                exact pv_o (F := F17) ⟨[(7, (.lit (.bool true)), none), (11, (.lit (.bool false)), none), (29, (.lit (.bool true)), none), (33, (.lit (.bool false)), none), (42, (.lit (.bool true)), none), (46, (.lit (.bool true)), none)], []⟩ [] [] rfl (ps := [PropOf g775, PropOf g773, PropOf g771, PropOf g741, PropOf g739, PropOf g730]) (by kernel_rfl) ⟨g775, g773, g771, g741, g739, g730, trivial⟩
              · replace h := (cnd_f h774).trans h
                have g776 := bool_eq h774
                rcases Bool.eq_false_or_eq_true (a727.Kind == 4) with h777 | h777
                · replace h := (cnd_t h777).trans h
                  have g778 := bool_eq h777
                  rcases Bool.eq_false_or_eq_true (a727.C == 0) with h779 | h779
                  · replace h := (cnd_t h779).trans h
                    have g780 := bool_eq h779
                    rcases Bool.eq_false_or_eq_true (a728.Kind == 5) with h781 | h781
                    · replace h := (cnd_t h781).trans h
                      have g782 := bool_eq h781
                      have hr := Option.some.inj h
                      subst hr
                      exact pv_o (F := F17) ⟨[(7, (.lit (.bool true)), none), (11, (.lit (.bool false)), none), (29, (.lit (.bool true)), none), (33, (.lit (.bool false)), none), (42, (.lit (.bool true)), none), (46, (.lit (.bool false)), none), (52, (.lit (.bool true)), none), (56, (.lit (.bool true)), none), (61, (.lit (.bool true)), none)], []⟩ [] [] rfl (ps := [PropOf g782, PropOf g780, PropOf g778, PropOf g776, PropOf g773, PropOf g771, PropOf g741, PropOf g739, PropOf g730]) (by kernel_rfl) ⟨g782, g780, g778, g776, g773, g771, g741, g739, g730, trivial⟩
                    · replace h := (cnd_f h781).trans h
                      have g783 := bool_eq h781
                      have hr := Option.some.inj h
                      subst hr
                      exact pv_o (F := F17) ⟨[(7, (.lit (.bool true)), none), (11, (.lit (.bool false)), none), (29, (.lit (.bool true)), none), (33, (.lit (.bool false)), none), (42, (.lit (.bool true)), none), (46, (.lit (.bool false)), none), (52, (.lit (.bool true)), none), (56, (.lit (.bool true)), none), (61, (.lit (.bool false)), none)], []⟩ [] [] rfl (ps := [PropOf g783, PropOf g780, PropOf g778, PropOf g776, PropOf g773, PropOf g771, PropOf g741, PropOf g739, PropOf g730]) (by kernel_rfl) ⟨g783, g780, g778, g776, g773, g771, g741, g739, g730, trivial⟩
                  · replace h := (cnd_f h779).trans h
                    have g784 := bool_eq h779
                    have hr := Option.some.inj h
                    subst hr
                    exact pv_o (F := F17) ⟨[(7, (.lit (.bool true)), none), (11, (.lit (.bool false)), none), (29, (.lit (.bool true)), none), (33, (.lit (.bool false)), none), (42, (.lit (.bool true)), none), (46, (.lit (.bool false)), none), (52, (.lit (.bool true)), none), (56, (.lit (.bool false)), none)], []⟩ [] [] rfl (ps := [PropOf g784, PropOf g778, PropOf g776, PropOf g773, PropOf g771, PropOf g741, PropOf g739, PropOf g730]) (by kernel_rfl) ⟨g784, g778, g776, g773, g771, g741, g739, g730, trivial⟩
                · replace h := (cnd_f h777).trans h
                  have g785 := bool_eq h777
                  have hr := Option.some.inj h
                  subst hr
                  exact pv_o (F := F17) ⟨[(7, (.lit (.bool true)), none), (11, (.lit (.bool false)), none), (29, (.lit (.bool true)), none), (33, (.lit (.bool false)), none), (42, (.lit (.bool true)), none), (46, (.lit (.bool false)), none), (52, (.lit (.bool false)), none)], []⟩ [] [] rfl (ps := [PropOf g785, PropOf g776, PropOf g773, PropOf g771, PropOf g741, PropOf g739, PropOf g730]) (by kernel_rfl) ⟨g785, g776, g773, g771, g741, g739, g730, trivial⟩
            · replace h := (cnd_f h772).trans h
              have g786 := bool_eq h772
              rcases Bool.eq_false_or_eq_true (a727.Kind == 4) with h787 | h787
              · replace h := (cnd_t h787).trans h
                have g788 := bool_eq h787
                rcases Bool.eq_false_or_eq_true (a727.C == 0) with h789 | h789
                · replace h := (cnd_t h789).trans h
                  have g790 := bool_eq h789
                  rcases Bool.eq_false_or_eq_true (a728.Kind == 5) with h791 | h791
                  · replace h := (cnd_t h791).trans h
                    have g792 := bool_eq h791
                    have hr := Option.some.inj h
                    subst hr
                    exact pv_o (F := F17) ⟨[(7, (.lit (.bool true)), none), (11, (.lit (.bool false)), none), (29, (.lit (.bool true)), none), (33, (.lit (.bool false)), none), (42, (.lit (.bool false)), none), (52, (.lit (.bool true)), none), (56, (.lit (.bool true)), none), (61, (.lit (.bool true)), none)], []⟩ [] [] rfl (ps := [PropOf g792, PropOf g790, PropOf g788, PropOf g786, PropOf g771, PropOf g741, PropOf g739, PropOf g730]) (by kernel_rfl) ⟨g792, g790, g788, g786, g771, g741, g739, g730, trivial⟩
                  · replace h := (cnd_f h791).trans h
                    have g793 := bool_eq h791
                    have hr := Option.some.inj h
                    subst hr
                    exact pv_o (F := F17) ⟨[(7, (.lit (.bool true)), none), (11, (.lit (.bool false)), none), (29, (.lit (.bool true)), none), (33, (.lit (.bool false)), none), (42, (.lit (.bool false)), none), (52, (.lit (.bool true)), none), (56, (.lit (.bool true)), none), (61, (.lit (.bool false)), none)], []⟩ [] [] rfl (ps := [PropOf g793, PropOf g790, PropOf g788, PropOf g786, PropOf g771, PropOf g741, PropOf g739, PropOf g730]) (by kernel_rfl) ⟨g793, g790, g788, g786, g771, g741, g739, g730, trivial⟩
                · replace h := (cnd_f h789).trans h
                  have g794 := bool_eq h789
                  have hr := Option.some.inj h
                  subst hr
                  exact pv_o (F := F17) ⟨[(7, (.lit (.bool true)), none), (11, (.lit (.bool false)), none), (29, (.lit (.bool true)), none), (33, (.lit (.bool false)), none), (42, (.lit (.bool false)), none), (52, (.lit (.bool true)), none), (56, (.lit (.bool false)), none)], []⟩ [] [] rfl (ps := [PropOf g794, PropOf g788, PropOf g786, PropOf g771, PropOf g741, PropOf g739, PropOf g730]) (by kernel_rfl) ⟨g794, g788, g786, g771, g741, g739, g730, trivial⟩
              · replace h := (cnd_f h787).trans h
                have g795 := bool_eq h787
                have hr := Option.some.inj h
                subst hr
                exact pv_o (F := F17) ⟨[(7, (.lit (.bool true)), none), (11, (.lit (.bool false)), none), (29, (.lit (.bool true)), none), (33, (.lit (.bool false)), none), (42, (.lit (.bool false)), none), (52, (.lit (.bool false)), none)], []⟩ [] [] rfl (ps := [PropOf g795, PropOf g786, PropOf g771, PropOf g741, PropOf g739, PropOf g730]) (by kernel_rfl) ⟨g795, g786, g771, g741, g739, g730, trivial⟩
        · replace h := (cnd_f h740).trans h
          have g796 := bool_eq h740
          have hr := Option.some.inj h
          subst hr
          exact pv_o (F := F17) ⟨[(7, (.lit (.bool true)), none), (11, (.lit (.bool false)), none), (29, (.lit (.bool false)), none)], []⟩ [] [] rfl (ps := [PropOf g796, PropOf g739, PropOf g730]) (by kernel_rfl) ⟨g796, g739, g730, trivial⟩
    · replace h := (cnd_f h729).trans h
      have g797 := bool_eq h729
      rcases Bool.eq_false_or_eq_true (a727.ID == a728.ID) with h798 | h798
      · replace h := (cnd_t h798).trans h
        have g799 := bool_eq h798
        rcases Bool.eq_false_or_eq_true (a727.Kind == 1) with h800 | h800
        · replace h := (cnd_t h800).trans h
          have g801 := bool_eq h800
          rcases Bool.eq_false_or_eq_true (a728.Kind == 2) with h802 | h802
          · replace h := (cnd_t h802).trans h
            have g803 := bool_eq h802
            have hr := Option.some.inj h
            subst hr
            exact pv_o (F := F17) ⟨[(7, (.lit (.bool false)), none), (29, (.lit (.bool true)), none), (33, (.lit (.bool true)), none), (37, (.lit (.bool true)), none)], []⟩ [] [] rfl (ps := [PropOf g803, PropOf g801, PropOf g799, PropOf g797]) (by kernel_rfl) ⟨g803, g801, g799, g797, trivial⟩
          · replace h := (cnd_f h802).trans h
            have g804 := bool_eq h802
            rcases Bool.eq_false_or_eq_true (a727.Kind == 7) with h805 | h805
            · replace h := (cnd_t h805).trans h
              have g806 := bool_eq h805
              rcases Bool.eq_false_or_eq_true (a728.Kind == 8) with h807 | h807
              · replace h := (cnd_t h807).trans h
                have g808 := bool_eq h807
                have hr := Option.some.inj h
                subst hr
                exact pv_o (F := F17) ⟨[(7, (.lit (.bool false)), none), (29, (.lit (.bool true)), none), (33, (.lit (.bool true)), none), (37, (.lit (.bool false)), none), (42, (.lit (.bool true)), none), (46, (.lit (.bool true)), none)], []⟩ [] [] rfl (ps := [PropOf g808, PropOf g806, PropOf g804, PropOf g801, PropOf g799, PropOf g797]) (by kernel_rfl) ⟨g808, g806, g804, g801, g799, g797, trivial⟩
              · replace h := (cnd_f h807).trans h
                have g809 := bool_eq h807
                rcases Bool.eq_false_or_eq_true (a727.Kind == 4) with h810 | h810
                · replace h := (cnd_t h810).trans h
                  have g811 := bool_eq h810
                  rcases Bool.eq_false_or_eq_true (a727.C == 0) with h812 | h812
                  · replace h := (cnd_t h812).trans h
                    have g813 := bool_eq h812
                    rcases Bool.eq_false_or_eq_true (a728.Kind == 5) with h814 | h814
                    · replace h := (cnd_t h814).trans h
                      have g815 := bool_eq h814
                      have hr := Option.some.inj h
                      subst hr
                      exact pv_o (F := F17) ⟨[(7, (.lit (.bool false)), none), (29, (.lit (.bool true)), none), (33, (.lit (.bool true)), none), (37, (.lit (.bool false)), none), (42, (.lit (.bool true)), none), (46, (.lit (.bool false)), none), (52, (.lit (.bool true)), none), (56, (.lit (.bool true)), none), (61, (.lit (.bool true)), none)], []⟩ [] [] rfl (ps := [PropOf g815, PropOf g813, PropOf g811, PropOf g809, PropOf g806, PropOf g804, PropOf g801, PropOf g799, PropOf g797]) (by kernel_rfl) ⟨g815, g813, g811, g809, g806, g804, g801, g799, g797, trivial⟩
                    · replace h := (cnd_f h814).trans h
                      have g816 := bool_eq h814
                      have hr := Option.some.inj h
                      subst hr
                      exact pv_o (F := F17) ⟨[(7, (.lit (.bool false)), none), (29, (.lit (.bool true)), none), (33, (.lit (.bool true)), none), (37, (.lit (.bool false)), none), (42, (.lit (.bool true)), none), (46, (.lit (.bool false)), none), (52, (.lit (.bool true)), none), (56, (.lit (.bool true)), none), (61, (.lit (.bool false)), none)], []⟩ [] [] rfl (ps := [PropOf g816, PropOf g813, PropOf g811, PropOf g809, PropOf g806, PropOf g804, PropOf g801, PropOf g799, PropOf g797]) (by kernel_rfl) ⟨g816, g813, g811, g809, g806, g804, g801, g799, g797, trivial⟩
                  · replace h := (cnd_f h812).trans h
                    have g817 := bool_eq h812
                    have hr := Option.some.inj h
                    subst hr
                    exact pv_o (F := F17) ⟨[(7, (.lit (.bool false)), none), (29, (.lit (.bool true)), none), (33, (.lit (.bool true)), none), (37, (.lit (.bool false)), none), (42, (.lit (.bool true)), none), (46, (.lit (.bool false)), none), (52, (.lit (.bool true)), none), (56, (.lit (.bool false)), none)], []⟩ [] [] rfl (ps := [PropOf g817, PropOf g811, PropOf g809, PropOf g806, PropOf g804, PropOf g801, PropOf g799, PropOf g797]) (by kernel_rfl) ⟨g817, g811, g809, g806, g804, g801, g799, g797, trivial⟩
                · replace h := (cnd_f h810).trans h
                  have g818 := bool_eq h810
                  have hr := Option.some.inj h
                  subst hr
                  exact pv_o (F := F17) ⟨[(7, (.lit (.bool false)), none), (29, (.lit (.bool true)), none), (33, (.lit (.bool true)), none), (37, (.lit (.bool false)), none), (42, (.lit (.bool true)), none), (46, (.lit (.bool false)), none), (52, (.lit (.bool false)), none)], []⟩ [] [] rfl (ps := [PropOf g818, PropOf g809, PropOf g806, PropOf g804, PropOf g801, PropOf g799, PropOf g797]) (by kernel_rfl) ⟨g818, g809, g806, g804, g801, g799, g797, trivial⟩
            · replace h := (cnd_f h805).trans h
              have g819 := bool_eq h805
              rcases Bool.eq_false_or_eq_true (a727.Kind == 4) with h820 | h820
              · replace h := (cnd_t h820).trans h
                have g821 := bool_eq h820
                rcases Bool.eq_false_or_eq_true (a727.C == 0) with h822 | h822
                · replace h := (cnd_t h822).trans h
                  have g823 := bool_eq h822
                  rcases Bool.eq_false_or_eq_true (a728.Kind == 5) with h824 | h824
                  · replace h := (cnd_t h824).trans h
                    have g825 := bool_eq h824
                    have hr := Option.some.inj h
                    subst hr
                    exact pv_o (F := F17) ⟨[(7, (.lit (.bool false)), none), (29, (.lit (.bool true)), none), (33, (.lit (.bool true)), none), (37, (.lit (.bool false)), none), (42, (.lit (.bool false)), none), (52, (.lit (.bool true)), none), (56, (.lit (.bool true)), none), (61, (.lit (.bool true)), none)], []⟩ [] [] rfl (ps := [PropOf g825, PropOf g823, PropOf g821, PropOf g819, PropOf g804, PropOf g801, PropOf g799, PropOf g797]) (by kernel_rfl) ⟨g825, g823, g821, g819, g804, g801, g799, g797, trivial⟩
                  · replace h := (cnd_f h824).trans h
                    have g826 := bool_eq h824
                    have hr := Option.some.inj h
                    subst hr
                    exact pv_o (F := F17) ⟨[(7, (.lit (.bool false)), none), (29, (.lit (.bool true)), none), (33, (.lit (.bool true)), none), (37, (.lit (.bool false)), none), (42, (.lit (.bool false)), none), (52, (.lit (.bool true)), none), (56, (.lit (.bool true)), none), (61, (.lit (.bool false)), none)], []⟩ [] [] rfl (ps := [PropOf g826, PropOf g823, PropOf g821, PropOf g819, PropOf g804, PropOf g801, PropOf g799, PropOf g797]) (by kernel_rfl) ⟨g826, g823, g821, g819, g804, g801, g799, g797, trivial⟩
                · replace h := (cnd_f h822).trans h
                  have g827 := bool_eq h822
                  have hr := Option.some.inj h
                  subst hr
                  exact pv_o (F := F17) ⟨[(7, (.lit (.bool false)), none), (29, (.lit (.bool true)), none), (33, (.lit (.bool true)), none), (37, (.lit (.bool false)), none), (42, (.lit (.bool false)), none), (52, (.lit (.bool true)), none), (56, (.lit (.bool false)), none)], []⟩ [] [] rfl (ps := [PropOf g827, PropOf g821, PropOf g819, PropOf g804, PropOf g801, PropOf g799, PropOf g797]) (by kernel_rfl) ⟨g827, g821, g819, g804, g801, g799, g797, trivial⟩
              · replace h := (cnd_f h820).trans h
                have g828 := bool_eq h820
                have hr := Option.some.inj h
                subst hr
                exact pv_o (F := F17) ⟨[(7, (.lit (.bool false)), none), (29, (.lit (.bool true)), none), (33, (.lit (.bool true)), none), (37, (.lit (.bool false)), none), (42, (.lit (.bool false)), none), (52, (.lit (.bool false)), none)], []⟩ [] [] rfl (ps := [PropOf g828, PropOf g819, PropOf g804, PropOf g801, PropOf g799, PropOf g797]) (by kernel_rfl) ⟨g828, g819, g804, g801, g799, g797, trivial⟩
        · replace h := (cnd_f h800).trans h
          have g829 := bool_eq h800
          rcases Bool.eq_false_or_eq_true (a727.Kind == 7) with h830 | h830
          · replace h := (cnd_t h830).trans h
            have g831 := bool_eq h830
            rcases Bool.eq_false_or_eq_true (a728.Kind == 8) with h832 | h832
            · replace h := (cnd_t h832).trans h
              have g833 := bool_eq h832
              have hr := Option.some.inj h
              subst hr
              exact pv_o (F := F17) ⟨[(7, (.lit (.bool false)), none), (29, (.lit (.bool true)), none), (33, (.lit (.bool false)), none), (42, (.lit (.bool true)), none), (46, (.lit (.bool true)), none)], []⟩ [] [] rfl (ps := [PropOf g833, PropOf g831, PropOf g829, PropOf g799, PropOf g797]) (by kernel_rfl) ⟨g833, g831, g829, g799, g797, trivial⟩
            · replace h := (cnd_f h832).trans h
              have g834 := bool_eq h832
              rcases Bool.eq_false_or_eq_true (a727.Kind == 4) with h835 | h835
              · replace h := (cnd_t h835).trans h
                have g836 := bool_eq h835
                rcases Bool.eq_false_or_eq_true (a727.C == 0) with h837 | h837
                · replace h := (cnd_t h837).trans h
                  have g838 := bool_eq h837
                  rcases Bool.eq_false_or_eq_true (a728.Kind == 5) with h839 | h839
                  · replace h := (cnd_t h839).trans h
                    have g840 := bool_eq h839
                    have hr := Option.some.inj h
                    subst hr
                    exact pv_o (F := F17) ⟨[(7, (.lit (.bool false)), none), (29, (.lit (.bool true)), none), (33, (.lit (.bool false)), none), (42, (.lit (.bool true)), none), (46, (.lit (.bool false)), none), (52, (.lit (.bool true)), none), (56, (.lit (.bool true)), none), (61, (.lit (.bool true)), none)], []⟩ [] [] rfl (ps := [PropOf g840, PropOf g838, PropOf g836, PropOf g834, PropOf g831, PropOf g829, PropOf g799, PropOf g797]) (by kernel_rfl) ⟨g840, g838, g836, g834, g831, g829, g799, g797, trivial⟩
                  · replace h := (cnd_f h839).trans h
                    have g841 := bool_eq h839
                    have hr := Option.some.inj h
                    subst hr
                    exact pv_o (F := F17) ⟨[(7, (.lit (.bool false)), none), (29, (.lit (.bool true)), none), (33, (.lit (.bool false)), none), (42, (.lit (.bool true)), none), (46, (.lit (.bool false)), none), (52, (.lit (.bool true)), none), (56, (.lit (.bool true)), none), (61, (.lit (.bool false)), none)], []⟩ [] [] rfl (ps := [PropOf g841, PropOf g838, PropOf g836, PropOf g834, PropOf g831, PropOf g829, PropOf g799, PropOf g797]) (by kernel_rfl) ⟨g841, g838, g836, g834, g831, g829, g799, g797, trivial⟩
                · replace h := (cnd_f h837).trans h
                  have g842 := bool_eq h837
                  have hr := Option.some.inj h
                  subst hr
                  exact pv_o (F := F17) ⟨[(7, (.lit (.bool false)), none), (29, (.lit (.bool true)), none), (33, (.lit (.bool false)), none), (42, (.lit (.bool true)), none), (46, (.lit (.bool false)), none), (52, (.lit (.bool true)), none), (56, (.lit (.bool false)), none)], []⟩ [] [] rfl (ps := [PropOf g842, PropOf g836, PropOf g834, PropOf g831, PropOf g829, PropOf g799, PropOf g797]) (by kernel_rfl) ⟨g842, g836, g834, g831, g829, g799, g797, trivial⟩
              · replace h := (cnd_f h835).trans h
                have g843 := bool_eq h835
                have hr := Option.some.inj h
                subst hr
                exact pv_o (F := F17) ⟨[(7, (.lit (.bool false)), none), (29, (.lit (.bool true)), none), (33, (.lit (.bool false)), none), (42, (.lit (.bool true)), none), (46, (.lit (.bool false)), none), (52, (.lit (.bool false)), none)], []⟩ [] [] rfl (ps := [PropOf g843, PropOf g834, PropOf g831, PropOf g829, PropOf g799, PropOf g797]) (by kernel_rfl) ⟨g843, g834, g831, g829, g799, g797, trivial⟩
          · replace h := (cnd_f h830).trans h
            have g844 := bool_eq h830
            rcases Bool.eq_false_or_eq_true (a727.Kind == 4) with h845 | h845
            · replace h := (cnd_t h845).trans h
              have g846 := bool_eq h845
              rcases Bool.eq_false_or_eq_true (a727.C == 0) with h847 | h847
              · replace h := (cnd_t h847).trans h
                have g848 := bool_eq h847
                rcases Bool.eq_false_or_eq_true (a728.Kind == 5) with h849 | h849
                · replace h := (cnd_t h849).trans h
                  have g850 := bool_eq h849
                  have hr := Option.some.inj h
                  subst hr
                  exact pv_o (F := F17) ⟨[(7, (.lit (.bool false)), none), (29, (.lit (.bool true)), none), (33, (.lit (.bool false)), none), (42, (.lit (.bool false)), none), (52, (.lit (.bool true)), none), (56, (.lit (.bool true)), none), (61, (.lit (.bool true)), none)], []⟩ [] [] rfl (ps := [PropOf g850, PropOf g848, PropOf g846, PropOf g844, PropOf g829, PropOf g799, PropOf g797]) (by kernel_rfl) ⟨g850, g848, g846, g844, g829, g799, g797, trivial⟩
                · replace h := (cnd_f h849).trans h
                  have g851 := bool_eq h849
                  have hr := Option.some.inj h
                  subst hr
                  exact pv_o (F := F17) ⟨[(7, (.lit (.bool false)), none), (29, (.lit (.bool true)), none), (33, (.lit (.bool false)), none), (42, (.lit (.bool false)), none), (52, (.lit (.bool true)), none), (56, (.lit (.bool true)), none), (61, (.lit (.bool false)), none)], []⟩ [] [] rfl (ps := [PropOf g851, PropOf g848, PropOf g846, PropOf g844, PropOf g829, PropOf g799, PropOf g797]) (by kernel_rfl) ⟨g851, g848, g846, g844, g829, g799, g797, trivial⟩
              · replace h := (cnd_f h847).trans h
                have g852 := bool_eq h847
                have hr := Option.some.inj h
                subst hr
                exact pv_o (F := F17) ⟨[(7, (.lit (.bool false)), none), (29, (.lit (.bool true)), none), (33, (.lit (.bool false)), none), (42, (.lit (.bool false)), none), (52, (.lit (.bool true)), none), (56, (.lit (.bool false)), none)], []⟩ [] [] rfl (ps := [PropOf g852, PropOf g846, PropOf g844, PropOf g829, PropOf g799, PropOf g797]) (by kernel_rfl) ⟨g852, g846, g844, g829, g799, g797, trivial⟩
            · replace h := (cnd_f h845).trans h
              have g853 := bool_eq h845
              have hr := Option.some.inj h
              subst hr
              exact pv_o (F := F17) ⟨[(7, (.lit (.bool false)), none), (29, (.lit (.bool true)), none), (33, (.lit (.bool false)), none), (42, (.lit (.bool false)), none), (52, (.lit (.bool false)), none)], []⟩ [] [] rfl (ps := [PropOf g853, PropOf g844, PropOf g829, PropOf g799, PropOf g797]) (by kernel_rfl) ⟨g853, g844, g829, g799, g797, trivial⟩
      · replace h := (cnd_f h798).trans h
        have g854 := bool_eq h798
        have hr := Option.some.inj h
        subst hr
        exact pv_o (F := F17) ⟨[(7, (.lit (.bool false)), none), (29, (.lit (.bool false)), none)], []⟩ [] [] rfl (ps := [PropOf g854, PropOf g797]) (by kernel_rfl) ⟨g854, g797, trivial⟩
def f18 : Nat → GEdit → GEdit → Option (GEdit × Bool)
  | 0, _, _ => none
  | n + 1, a855, a856 => (cnd (a855.Kind == 12) (cnd (a856.Kind == 12) (cnd (a855.A == a856.ID) (some ((GEdit.mk a855.Kind a855.ID a856.A a855.B a855.C a855.At a855.Via a855.Name a855.Parts), true)) (cnd (a855.ID != a856.ID) (some (a855, false)) (cnd (a855.Kind == 1) (cnd (a856.Kind == 3) (some ((GEdit.mk a855.Kind a855.ID a855.A a855.B a855.C a856.At a855.Via a855.Name a855.Parts), true)) (cnd (a855.Kind == 4) (cnd (a856.Kind == 6) (some ((GEdit.mk a855.Kind a855.ID a855.A a855.B a855.C a855.At a856.Via a855.Name a855.Parts), true)) (cnd (a855.Kind == 7) (cnd (a856.Kind == 9) (some ((GEdit.mk a855.Kind a855.ID a855.A a855.B a855.C a855.At a855.Via a856.Name a855.Parts), true)) (cnd (a856.Kind == 10) (some ((GEdit.mk a855.Kind a855.ID a855.A a856.B a855.C a855.At a855.Via a855.Name a855.Parts), true)) (cnd (a856.Kind == 11) (some ((GEdit.mk a855.Kind a855.ID a855.A a855.B a855.C a855.At a855.Via a855.Name a856.Parts), true)) (some (a855, false))))) (some (a855, false)))) (cnd (a855.Kind == 7) (cnd (a856.Kind == 9) (some ((GEdit.mk a855.Kind a855.ID a855.A a855.B a855.C a855.At a855.Via a856.Name a855.Parts), true)) (cnd (a856.Kind == 10) (some ((GEdit.mk a855.Kind a855.ID a855.A a856.B a855.C a855.At a855.Via a855.Name a855.Parts), true)) (cnd (a856.Kind == 11) (some ((GEdit.mk a855.Kind a855.ID a855.A a855.B a855.C a855.At a855.Via a855.Name a856.Parts), true)) (some (a855, false))))) (some (a855, false))))) (cnd (a855.Kind == 4) (cnd (a856.Kind == 6) (some ((GEdit.mk a855.Kind a855.ID a855.A a855.B a855.C a855.At a856.Via a855.Name a855.Parts), true)) (cnd (a855.Kind == 7) (cnd (a856.Kind == 9) (some ((GEdit.mk a855.Kind a855.ID a855.A a855.B a855.C a855.At a855.Via a856.Name a855.Parts), true)) (cnd (a856.Kind == 10) (some ((GEdit.mk a855.Kind a855.ID a855.A a856.B a855.C a855.At a855.Via a855.Name a855.Parts), true)) (cnd (a856.Kind == 11) (some ((GEdit.mk a855.Kind a855.ID a855.A a855.B a855.C a855.At a855.Via a855.Name a856.Parts), true)) (some (a855, false))))) (some (a855, false)))) (cnd (a855.Kind == 7) (cnd (a856.Kind == 9) (some ((GEdit.mk a855.Kind a855.ID a855.A a855.B a855.C a855.At a855.Via a856.Name a855.Parts), true)) (cnd (a856.Kind == 10) (some ((GEdit.mk a855.Kind a855.ID a855.A a856.B a855.C a855.At a855.Via a855.Name a855.Parts), true)) (cnd (a856.Kind == 11) (some ((GEdit.mk a855.Kind a855.ID a855.A a855.B a855.C a855.At a855.Via a855.Name a856.Parts), true)) (some (a855, false))))) (some (a855, false))))))) (cnd (a855.ID != a856.ID) (some (a855, false)) (cnd (a855.Kind == 1) (cnd (a856.Kind == 3) (some ((GEdit.mk a855.Kind a855.ID a855.A a855.B a855.C a856.At a855.Via a855.Name a855.Parts), true)) (cnd (a855.Kind == 4) (cnd (a856.Kind == 6) (some ((GEdit.mk a855.Kind a855.ID a855.A a855.B a855.C a855.At a856.Via a855.Name a855.Parts), true)) (cnd (a855.Kind == 7) (cnd (a856.Kind == 9) (some ((GEdit.mk a855.Kind a855.ID a855.A a855.B a855.C a855.At a855.Via a856.Name a855.Parts), true)) (cnd (a856.Kind == 10) (some ((GEdit.mk a855.Kind a855.ID a855.A a856.B a855.C a855.At a855.Via a855.Name a855.Parts), true)) (cnd (a856.Kind == 11) (some ((GEdit.mk a855.Kind a855.ID a855.A a855.B a855.C a855.At a855.Via a855.Name a856.Parts), true)) (some (a855, false))))) (some (a855, false)))) (cnd (a855.Kind == 7) (cnd (a856.Kind == 9) (some ((GEdit.mk a855.Kind a855.ID a855.A a855.B a855.C a855.At a855.Via a856.Name a855.Parts), true)) (cnd (a856.Kind == 10) (some ((GEdit.mk a855.Kind a855.ID a855.A a856.B a855.C a855.At a855.Via a855.Name a855.Parts), true)) (cnd (a856.Kind == 11) (some ((GEdit.mk a855.Kind a855.ID a855.A a855.B a855.C a855.At a855.Via a855.Name a856.Parts), true)) (some (a855, false))))) (some (a855, false))))) (cnd (a855.Kind == 4) (cnd (a856.Kind == 6) (some ((GEdit.mk a855.Kind a855.ID a855.A a855.B a855.C a855.At a856.Via a855.Name a855.Parts), true)) (cnd (a855.Kind == 7) (cnd (a856.Kind == 9) (some ((GEdit.mk a855.Kind a855.ID a855.A a855.B a855.C a855.At a855.Via a856.Name a855.Parts), true)) (cnd (a856.Kind == 10) (some ((GEdit.mk a855.Kind a855.ID a855.A a856.B a855.C a855.At a855.Via a855.Name a855.Parts), true)) (cnd (a856.Kind == 11) (some ((GEdit.mk a855.Kind a855.ID a855.A a855.B a855.C a855.At a855.Via a855.Name a856.Parts), true)) (some (a855, false))))) (some (a855, false)))) (cnd (a855.Kind == 7) (cnd (a856.Kind == 9) (some ((GEdit.mk a855.Kind a855.ID a855.A a855.B a855.C a855.At a855.Via a856.Name a855.Parts), true)) (cnd (a856.Kind == 10) (some ((GEdit.mk a855.Kind a855.ID a855.A a856.B a855.C a855.At a855.Via a855.Name a855.Parts), true)) (cnd (a856.Kind == 11) (some ((GEdit.mk a855.Kind a855.ID a855.A a855.B a855.C a855.At a855.Via a855.Name a856.Parts), true)) (some (a855, false))))) (some (a855, false))))))) (cnd (a855.ID != a856.ID) (some (a855, false)) (cnd (a855.Kind == 1) (cnd (a856.Kind == 3) (some ((GEdit.mk a855.Kind a855.ID a855.A a855.B a855.C a856.At a855.Via a855.Name a855.Parts), true)) (cnd (a855.Kind == 4) (cnd (a856.Kind == 6) (some ((GEdit.mk a855.Kind a855.ID a855.A a855.B a855.C a855.At a856.Via a855.Name a855.Parts), true)) (cnd (a855.Kind == 7) (cnd (a856.Kind == 9) (some ((GEdit.mk a855.Kind a855.ID a855.A a855.B a855.C a855.At a855.Via a856.Name a855.Parts), true)) (cnd (a856.Kind == 10) (some ((GEdit.mk a855.Kind a855.ID a855.A a856.B a855.C a855.At a855.Via a855.Name a855.Parts), true)) (cnd (a856.Kind == 11) (some ((GEdit.mk a855.Kind a855.ID a855.A a855.B a855.C a855.At a855.Via a855.Name a856.Parts), true)) (some (a855, false))))) (some (a855, false)))) (cnd (a855.Kind == 7) (cnd (a856.Kind == 9) (some ((GEdit.mk a855.Kind a855.ID a855.A a855.B a855.C a855.At a855.Via a856.Name a855.Parts), true)) (cnd (a856.Kind == 10) (some ((GEdit.mk a855.Kind a855.ID a855.A a856.B a855.C a855.At a855.Via a855.Name a855.Parts), true)) (cnd (a856.Kind == 11) (some ((GEdit.mk a855.Kind a855.ID a855.A a855.B a855.C a855.At a855.Via a855.Name a856.Parts), true)) (some (a855, false))))) (some (a855, false))))) (cnd (a855.Kind == 4) (cnd (a856.Kind == 6) (some ((GEdit.mk a855.Kind a855.ID a855.A a855.B a855.C a855.At a856.Via a855.Name a855.Parts), true)) (cnd (a855.Kind == 7) (cnd (a856.Kind == 9) (some ((GEdit.mk a855.Kind a855.ID a855.A a855.B a855.C a855.At a855.Via a856.Name a855.Parts), true)) (cnd (a856.Kind == 10) (some ((GEdit.mk a855.Kind a855.ID a855.A a856.B a855.C a855.At a855.Via a855.Name a855.Parts), true)) (cnd (a856.Kind == 11) (some ((GEdit.mk a855.Kind a855.ID a855.A a855.B a855.C a855.At a855.Via a855.Name a856.Parts), true)) (some (a855, false))))) (some (a855, false)))) (cnd (a855.Kind == 7) (cnd (a856.Kind == 9) (some ((GEdit.mk a855.Kind a855.ID a855.A a855.B a855.C a855.At a855.Via a856.Name a855.Parts), true)) (cnd (a856.Kind == 10) (some ((GEdit.mk a855.Kind a855.ID a855.A a856.B a855.C a855.At a855.Via a855.Name a855.Parts), true)) (cnd (a856.Kind == 11) (some ((GEdit.mk a855.Kind a855.ID a855.A a855.B a855.C a855.At a855.Via a855.Name a856.Parts), true)) (some (a855, false))))) (some (a855, false)))))))
theorem f18_ok (n : Nat) (a855 : GEdit) (a856 : GEdit) (r : (GEdit × Bool)) (h : f18 n a855 a856 = some r) : pv PP T n 18 [(.agg (c_GEdit a855)), (.agg (c_GEdit a856))] = some (.tup [(.agg (c_GEdit r.1)), (.lit (.bool r.2))]) := by
  cases n with
  | zero => cases h
  | succ n =>
    rw [f18] at h
    rcases Bool.eq_false_or_eq_true (a855.Kind == 12) with h857 | h857
    · replace h := (cnd_t h857).trans h
      have g858 := bool_eq h857
      rcases Bool.eq_false_or_eq_true (a856.Kind == 12) with h859 | h859
      · replace h := (cnd_t h859).trans h
        have g860 := bool_eq h859
        rcases Bool.eq_false_or_eq_true (a855.A == a856.ID) with h861 | h861
        · replace h := (cnd_t h861).trans h
          have g862 := bool_eq h861
          have hr := Option.some.inj h
          subst hr
          exact pv_o (F := F18) ⟨[(8, (.lit (.bool true)), none), (12, (.lit (.bool true)), none), (19, (.lit (.bool true)), none)], []⟩ [] [none, none] rfl (ps := [PropOf g862, PropOf g860, PropOf g858]) (by kernel_rfl) ⟨g862, g860, g858, trivial⟩
        · replace h := (cnd_f h861).trans h
          have g863 := bool_eq h861
          rcases Bool.eq_false_or_eq_true (a855.ID != a856.ID) with h864 | h864
          · replace h := (cnd_t h864).trans h
            have g865 := bool_eq h864
            have hr := Option.some.inj h
            subst hr
            exact pv_o (F := F18) ⟨[(8, (.lit (.bool true)), none), (12, (.lit (.bool true)), none), (19, (.lit (.bool false)), none), (29, (.lit (.bool true)), none)], []⟩ [] [none] rfl (ps := [PropOf g865, PropOf g863, PropOf g860, PropOf g858]) (by kernel_rfl) ⟨g865, g863, g860, g858, trivial⟩
          · replace h := (cnd_f h864).trans h
            have g866 := bool_eq h864
            rcases Bool.eq_false_or_eq_true (a855.Kind == 1) with h867 | h867
            · replace h := (cnd_t h867).trans h
              have g868 := bool_eq h867
              rcases Bool.eq_false_or_eq_true (a856.Kind == 3) with h869 | h869
              · replace h := (cnd_t h869).trans h
                have g870 := bool_eq h869
                have hr := Option.some.inj h
                subst hr
                exact pv_o (F := F18) ⟨[(8, (.lit (.bool true)), none), (12, (.lit (.bool true)), none), (19, (.lit (.bool false)), none), (29, (.lit (.bool false)), none), (35, (.lit (.bool true)), none), (39, (.lit (.bool true)), none)], []⟩ [] [none, none] rfl (ps := [PropOf g870, PropOf g868, PropOf g866, PropOf g863, PropOf g860, PropOf g858]) (by kernel_rfl) ⟨g870, g868, g866, g863, g860, g858, trivial⟩
              · replace h := (cnd_f h869).trans h
                have g871 := bool_eq h869
                rcases Bool.eq_false_or_eq_true (a855.Kind == 4) with h872 | h872
                · replace h := (cnd_t h872).trans h
                  have g873 := bool_eq h872
                  rcases Bool.eq_false_or_eq_true (a856.Kind == 6) with h874 | h874
                  · replace h := (cnd_t h874).trans h
                    have g875 := bool_eq h874
                    have hr := Option.some.inj h
                    subst hr
                    exact pv_o (F := F18) ⟨[(8, (.lit (.bool true)), none), (12, (.lit (.bool true)), none), (19, (.lit (.bool false)), none), (29, (.lit (.bool false)), none), (35, (.lit (.bool true)), none), (39, (.lit (.bool false)), none), (47, (.lit (.bool true)), none), (51, (.lit (.bool true)), none)], []⟩ [] [none, none] rfl (ps := [PropOf g875, PropOf g873, PropOf g871, PropOf g868, PropOf g866, PropOf g863, PropOf g860, PropOf g858]) (by kernel_rfl) ⟨g875, g873, g871, g868, g866, g863, g860, g858, trivial⟩
                  · replace h := (cnd_f h874).trans h
                    have g876 := bool_eq h874
                    rcases Bool.eq_false_or_eq_true (a855.Kind == 7) with h877 | h877
                    · replace h := (cnd_t h877).trans h
                      have g878 := bool_eq h877
                      rcases Bool.eq_false_or_eq_true (a856.Kind == 9) with h879 | h879
                      · replace h := (cnd_t h879).trans h
                        have g880 := bool_eq h879
                        have hr := Option.some.inj h
                        subst hr
                        exact pv_o (F := F18) ⟨[(8, (.lit (.bool true)), none), (12, (.lit (.bool true)), none), (19, (.lit (.bool false)), none), (29, (.lit (.bool false)), none), (35, (.lit (.bool true)), none), (39, (.lit (.bool false)), none), (47, (.lit (.bool true)), none), (51, (.lit (.bool false)), none), (59, (.lit (.bool true)), none), (63, (.lit (.bool true)), none)], []⟩ [] [none, none] rfl (ps := [PropOf g880, PropOf g878, PropOf g876, PropOf g873, PropOf g871, PropOf g868, PropOf g866, PropOf g863, PropOf g860, PropOf g858]) (by kernel_rfl) ⟨g880, g878, g876, g873, g871, g868, g866, g863, g860, g858, trivial⟩
                      · replace h := (cnd_f h879).trans h
                        have g881 := bool_eq h879
                        have g882 := bool_eq h877
                        rcases Bool.eq_false_or_eq_true (a856.Kind == 10) with h883 | h883
                        · replace h := (cnd_t h883).trans h
                          have g884 := bool_eq h883
                          have hr := Option.some.inj h
                          subst hr
                          exact pv_o (F := F18) ⟨[(8, (.lit (.bool true)), none), (12, (.lit (.bool true)), none), (19, (.lit (.bool false)), none), (29, (.lit (.bool false)), none), (35, (.lit (.bool true)), none), (39, (.lit (.bool false)), none), (47, (.lit (.bool true)), none), (51, (.lit (.bool false)), none), (59, (.lit (.bool true)), none), (63, (.lit (.bool false)), none), (71, (.lit (.bool true)), none), (75, (.lit (.bool true)), none)], []⟩ [] [none, none] rfl (ps := [PropOf g884, PropOf g882, PropOf g881, PropOf g878, PropOf g876, PropOf g873, PropOf g871, PropOf g868, PropOf g866, PropOf g863, PropOf g860, PropOf g858]) (by kernel_rfl) ⟨g884, g882, g881, g878, g876, g873, g871, g868, g866, g863, g860, g858, trivial⟩
                        · replace h := (cnd_f h883).trans h
                          have g885 := bool_eq h883
                          have g886 := bool_eq h877
                          rcases Bool.eq_false_or_eq_true (a856.Kind == 11) with h887 | h887
                          · replace h := (cnd_t h887).trans h
                            have g888 := bool_eq h887
                            have hr := Option.some.inj h
                            subst hr
                            exact pv_o (F := F18) ⟨[(8, (.lit (.bool true)), none), (12, (.lit (.bool true)), none), (19, (.lit (.bool false)), none), (29, (.lit (.bool false)), none), (35, (.lit (.bool true)), none), (39, (.lit (.bool false)), none), (47, (.lit (.bool true)), none), (51, (.lit (.bool false)), none), (59, (.lit (.bool true)), none), (63, (.lit (.bool false)), none), (71, (.lit (.bool true)), none), (75, (.lit (.bool false)), none), (83, (.lit (.bool true)), none), (87, (.lit (.bool true)), none)], []⟩ [] [none, none] rfl (ps := [PropOf g888, PropOf g886, PropOf g885, PropOf g882, PropOf g881, PropOf g878, PropOf g876, PropOf g873, PropOf g871, PropOf g868, PropOf g866, PropOf g863, PropOf g860, PropOf g858]) (by kernel_rfl) ⟨g888, g886, g885, g882, g881, g878, g876, g873, g871, g868, g866, g863, g860, g858, trivial⟩
                          · replace h := (cnd_f h887).trans h
                            have g889 := bool_eq h887
                            have hr := Option.some.inj h
                            subst hr
                            exact pv_o (F := F18) ⟨[(8, (.lit (.bool true)), none), (12, (.lit (.bool true)), none), (19, (.lit (.bool false)), none), (29, (.lit (.bool false)), none), (35, (.lit (.bool true)), none), (39, (.lit (.bool false)), none), (47, (.lit (.bool true)), none), (51, (.lit (.bool false)), none), (59, (.lit (.bool true)), none), (63, (.lit (.bool false)), none), (71, (.lit (.bool true)), none), (75, (.lit (.bool false)), none), (83, (.lit (.bool true)), none), (87, (.lit (.bool false)), none)], []⟩ [] [none] rfl (ps := [PropOf g889, PropOf g886, PropOf g885, PropOf g882, PropOf g881, PropOf g878, PropOf g876, PropOf g873, PropOf g871, PropOf g868, PropOf g866, PropOf g863, PropOf g860, PropOf g858]) (by kernel_rfl) ⟨g889, g886, g885, g882, g881, g878, g876, g873, g871, g868, g866, g863, g860, g858, trivial⟩
                    · replace h := (cnd_f h877).trans h
                      have g890 := bool_eq h877
                      have g891 := bool_eq h877
                      have g892 := bool_eq h877
                      have hr := Option.some.inj h
                      subst hr
                      exact pv_o (F := F18) ⟨[(8, (.lit (.bool true)), none), (12, (.lit (.bool true)), none), (19, (.lit (.bool false)), none), (29, (.lit (.bool false)), none), (35, (.lit (.bool true)), none), (39, (.lit (.bool false)), none), (47, (.lit (.bool true)), none), (51, (.lit (.bool false)), none), (59, (.lit (.bool false)), none), (71, (.lit (.bool false)), none), (83, (.lit (.bool false)), none)], []⟩ [] [none] rfl (ps := [PropOf g892, PropOf g891, PropOf g890, PropOf g876, PropOf g873, PropOf g871, PropOf g868, PropOf g866, PropOf g863, PropOf g860, PropOf g858]) (by kernel_rfl) ⟨g892, g891, g890, g876, g873, g871, g868, g866, g863, g860, g858, trivial⟩
                · replace h := (cnd_f h872).trans h
                  have g893 := bool_eq h872
                  rcases Bool.eq_false_or_eq_true (a855.Kind == 7) with h894 | h894
                  · replace h := (cnd_t h894).trans h
                    have g895 := bool_eq h894
                    rcases Bool.eq_false_or_eq_true (a856.Kind == 9) with h896 | h896
                    · replace h := (cnd_t h896).trans h
                      have g897 := bool_eq h896
                      have hr := Option.some.inj h
                      subst hr
                      exact pv_o (F := F18) ⟨[(8, (.lit (.bool true)), none), (12, (.lit (.bool true)), none), (19, (.lit (.bool false)), none), (29, (.lit (.bool false)), none), (35, (.lit (.bool true)), none), (39, (.lit (.bool false)), none), (47, (.lit (.bool false)), none), (59, (.lit (.bool true)), none), (63, (.lit (.bool true)), none)], []⟩ [] [none, none] rfl (ps := [PropOf g897, PropOf g895, PropOf g893, PropOf g871, PropOf g868, PropOf g866, PropOf g863, PropOf g860, PropOf g858]) (by kernel_rfl) ⟨g897, g895, g893, g871, g868, g866, g863, g860, g858, trivial⟩
                    · replace h := (cnd_f h896).trans h
                      have g898 := bool_eq h896
                      have g899 := bool_eq h894
                      rcases Bool.eq_false_or_eq_true (a856.Kind == 10) with h900 | h900
                      · replace h := (cnd_t h900).trans h
                        have g901 := bool_eq h900
                        have hr := Option.some.inj h
                        subst hr
                        exact pv_o (F := F18) ⟨[(8, (.lit (.bool true)), none), (12, (.lit (.bool true)), none), (19, (.lit (.bool false)), none), (29, (.lit (.bool false)), none), (35, (.lit (.bool true)), none), (39, (.lit (.bool false)), none), (47, (.lit (.bool false)), none), (59, (.lit (.bool true)), none), (63, (.lit (.bool false)), none), (71, (.lit (.bool true)), none), (75, (.lit (.bool true)), none)], []⟩ [] [none, none] rfl (ps := [PropOf g901, PropOf g899, PropOf g898, PropOf g895, PropOf g893, PropOf g871, PropOf g868, PropOf g866, PropOf g863, PropOf g860, PropOf g858]) (by kernel_rfl) ⟨g901, g899, g898, g895, g893, g871, g868, g866, g863, g860, g858, trivial⟩
                      · replace h := (cnd_f h900).trans h
                        have g902 := bool_eq h900
                        have g903 := bool_eq h894
                        rcases Bool.eq_false_or_eq_true (a856.Kind == 11) with h904 | h904
                        · replace h := (cnd_t h904).trans h
                          have g905 := bool_eq h904
                          have hr := Option.some.inj h
                          subst hr
                          exact pv_o (F := F18) ⟨[(8, (.lit (.bool true)), none), (12, (.lit (.bool true)), none), (19, (.lit (.bool false)), none), (29, (.lit (.bool false)), none), (35, (.lit (.bool true)), none), (39, (.lit (.bool false)), none), (47, (.lit (.bool false)), none), (59, (.lit (.bool true)), none), (63, (.lit (.bool false)), none), (71, (.lit (.bool true)), none), (75, (.lit (.bool false)), none), (83, (.lit (.bool true)), none), (87, (.lit (.bool true)), none)], []⟩ [] [none, none] rfl (ps := [PropOf g905, PropOf g903, PropOf g902, PropOf g899, PropOf g898, PropOf g895, PropOf g893, PropOf g871, PropOf g868, PropOf g866, PropOf g863, PropOf g860, PropOf g858]) (by kernel_rfl) ⟨g905, g903, g902, g899, g898, g895, g893, g871, g868, g866, g863, g860, g858, trivial⟩
                        · replace h := (cnd_f h904).trans h
                          have g906 := bool_eq h904
                          have hr := Option.some.inj h
                          subst hr
                          exact pv_o (F := F18) ⟨[(8, (.lit (.bool true)), none), (12, (.lit (.bool true)), none), (19, (.lit (.bool false)), none), (29, (.lit (.bool false)), none), (35, (.lit (.bool true)), none), (39, (.lit (.bool false)), none), (47, (.lit (.bool false)), none), (59, (.lit (.bool true)), none), (63, (.lit (.bool false)), none), (71, (.lit (.bool true)), none), (75, (.lit (.bool false)), none), (83, (.lit (.bool true)), none), (87, (.lit (.bool false)), none)], []⟩ [] [none] rfl (ps := [PropOf g906, PropOf g903, PropOf g902, PropOf g899, PropOf g898, PropOf g895, PropOf g893, PropOf g871, PropOf g868, PropOf g866, PropOf g863, PropOf g860, PropOf g858]) (by kernel_rfl) ⟨g906, g903, g902, g899, g898, g895, g893, g871, g868, g866, g863, g860, g858, trivial⟩
                  · replace h := (cnd_f h894).trans h
                    have g907 := bool_eq h894
                    have g908 := bool_eq h894
                    have g909 := bool_eq h894
                    have hr := Option.some.inj h
                    subst hr
                    exact pv_o (F := F18) ⟨[(8, (.lit (.bool true)), none), (12, (.lit (.bool true)), none), (19, (.lit (.bool false)), none), (29, (.lit (.bool false)), none), (35, (.lit (.bool true)), none), (39, (.lit (.bool false)), none), (47, (.lit (.bool false)), none), (59, (.lit (.bool false)), none), (71, (.lit (.bool false)), none), (83, (.lit (.bool false)), none)], []⟩ [] [none] rfl (ps := [PropOf g909, PropOf g908, PropOf g907, PropOf g893, PropOf g871, PropOf g868, PropOf g866, PropOf g863, PropOf g860, PropOf g858]) (by kernel_rfl) ⟨g909, g908, g907, g893, g871, g868, g866, g863, g860, g858, trivial⟩
            · replace h := (cnd_f h867).trans h
              have g910 := bool_eq h867
              rcases Bool.eq_false_or_eq_true (a855.Kind == 4) with h911 | h911
              · replace h := (cnd_t h911).trans h
                have g912 := bool_eq h911
                rcases Bool.eq_false_or_eq_true (a856.Kind == 6) with h913 | h913
                · replace h := (cnd_t h913).trans h
                  have g914 := bool_eq h913
                  have hr := Option.some.inj h
                  subst hr
                  exact pv_o (F := F18) ⟨[(8, (.lit (.bool true)), none), (12, (.lit (.bool true)), none), (19, (.lit (.bool false)), none), (29, (.lit (.bool false)), none), (35, (.lit (.bool false)), none), (47, (.lit (.bool true)), none), (51, (.lit (.bool true)), none)], []⟩ [] [none, none] rfl (ps := [PropOf g914, PropOf g912, PropOf g910, PropOf g866, PropOf g863, PropOf g860, PropOf g858]) (by kernel_rfl) ⟨g914, g912, g910, g866, g863, g860, g858, trivial⟩
                · replace h := (cnd_f h913).trans h
                  have g915 := bool_eq h913
                  rcases Bool.eq_false_or_eq_true (a855.Kind == 7) with h916 | h916
                  · replace h := (cnd_t h916).trans h
                    have g917 := bool_eq h916
                    rcases Bool.eq_false_or_eq_true (a856.Kind == 9) with h918 | h918
                    · replace h := (cnd_t h918).trans h
                      have g919 := bool_eq h918
                      have hr := Option.some.inj h
                      subst hr
                      exact pv_o (F := F18) ⟨[(8, (.lit (.bool true)), none), (12, (.lit (.bool true)), none), (19, (.lit (.bool false)), none), (29, (.lit (.bool false)), none), (35, (.lit (.bool false)), none), (47, (.lit (.bool true)), none), (51, (.lit (.bool false)), none), (59, (.lit (.bool true)), none), (63, (.lit (.bool true)), none)], []⟩ [] [none, none] rfl (ps := [PropOf g919, PropOf g917, PropOf g915, PropOf g912, PropOf g910, PropOf g866, PropOf g863, PropOf g860, PropOf g858]) (by kernel_rfl) ⟨g919, g917, g915, g912, g910, g866, g863, g860, g858, trivial⟩
                    · replace h := (cnd_f h918).trans h
                      have g920 := bool_eq h918
                      have g921 := bool_eq h916
                      rcases Bool.eq_false_or_eq_true (a856.Kind == 10) with h922 | h922
                      · replace h := (cnd_t h922).trans h
                        have g923 := bool_eq h922
                        have hr := Option.some.inj h
                        subst hr
                        exact pv_o (F := F18) ⟨[(8, (.lit (.bool true)), none), (12, (.lit (.bool true)), none), (19, (.lit (.bool false)), none), (29, (.lit (.bool false)), none), (35, (.lit (.bool false)), none), (47, (.lit (.bool true)), none), (51, (.lit (.bool false)), none), (59, (.lit (.bool true)), none), (63, (.lit (.bool false)), none), (71, (.lit (.bool true)), none), (75, (.lit (.bool true)), none)], []⟩ [] [none, none] rfl (ps := [PropOf g923, PropOf g921, PropOf g920, PropOf g917, PropOf g915, PropOf g912, PropOf g910, PropOf g866, PropOf g863, PropOf g860, PropOf g858]) (by kernel_rfl) ⟨g923, g921, g920, g917, g915, g912, g910, g866, g863, g860, g858, trivial⟩
                      · replace h := (cnd_f h922).trans h
                        have g924 := bool_eq h922
                        have g925 := bool_eq h916
                        rcases Bool.eq_false_or_eq_true (a856.Kind == 11) with h926 | h926
                        · replace h := (cnd_t h926).trans h
                          have g927 := bool_eq h926
                          have hr := Option.some.inj h
                          subst hr
                          exact pv_o (F := F18) ⟨[(8, (.lit (.bool true)), none), (12, (.lit (.bool true)), none), (19, (.lit (.bool false)), none), (29, (.lit (.bool false)), none), (35, (.lit (.bool false)), none), (47, (.lit (.bool true)), none), (51, (.lit (.bool false)), none), (59, (.lit (.bool true)), none), (63, (.lit (.bool false)), none), (71, (.lit (.bool true)), none), (75, (.lit (.bool false)), none), (83, (.lit (.bool true)), none), (87, (.lit (.bool true)), none)], []⟩ [] [none, none] rfl (ps := [PropOf g927, PropOf g925, PropOf g924, PropOf g921, PropOf g920, PropOf g917, PropOf g915, PropOf g912, PropOf g910, PropOf g866, PropOf g863, PropOf g860, PropOf g858]) (by kernel_rfl) ⟨g927, g925, g924, g921, g920, g917, g915, g912, g910, g866, g863, g860, g858, trivial⟩
                        · replace h := (cnd_f h926).trans h
                          have g928 := bool_eq h926
                          have hr := Option.some.inj h
                          subst hr
                          exact pv_o (F := F18) ⟨[(8, (.lit (.bool true)), none), (12, (.lit (.bool true)), none), (19, (.lit (.bool false)), none), (29, (.lit (.bool false)), none), (35, (.lit (.bool false)), none), (47, (.lit (.bool true)), none), (51, (.lit (.bool false)), none), (59, (.lit (.bool true)), none), (63, (.lit (.bool false)), none), (71, (.lit (.bool true)), none), (75, (.lit (.bool false)), none), (83, (.lit (.bool true)), none), (87, (.lit (.bool false)), none)], []⟩ [] [none] rfl (ps := [PropOf g928, PropOf g925, PropOf g924, PropOf g921, PropOf g920, PropOf g917, PropOf g915, PropOf g912, PropOf g910, PropOf g866, PropOf g863, PropOf g860, PropOf g858]) (by kernel_rfl) ⟨g928, g925, g924, g921, g920, g917, g915, g912, g910, g866, g863, g860, g858, trivial⟩
                  · replace h := (cnd_f h916).trans h
                    have g929 := bool_eq h916
                    have g930 := bool_eq h916
                    have g931 := bool_eq h916
                    have hr := Option.some.inj h
                    subst hr
                    exact pv_o (F := F18) ⟨[(8, (.lit (.bool true)), none), (12, (.lit (.bool true)), none), (19, (.lit (.bool false)), none), (29, (.lit (.bool false)), none), (35, (.lit (.bool false)), none), (47, (.lit (.bool true)), none), (51, (.lit (.bool false)), none), (59, (.lit (.bool false)), none), (71, (.lit (.bool false)), none), (83, (.lit (.bool false)), none)], []⟩ [] [none] rfl (ps := [PropOf g931, PropOf g930, PropOf g929, PropOf g915, PropOf g912, PropOf g910, PropOf g866, PropOf g863, PropOf g860, PropOf g858]) (by kernel_rfl) ⟨g931, g930, g929, g915, g912, g910, g866, g863, g860, g858, trivial⟩
              · replace h := (cnd_f h911).trans h
                have g932 := bool_eq h911
                rcases Bool.eq_false_or_eq_true (a855.Kind == 7) with h933 | h933
                · replace h := (cnd_t h933).trans h
                  have g934 := bool_eq h933
                  rcases Bool.eq_false_or_eq_true (a856.Kind == 9) with h935 | h935
                  · replace h := (cnd_t h935).trans h
                    have g936 := bool_eq h935
                    have hr := Option.some.inj h
                    subst hr
                    exact pv_o (F := F18) ⟨[(8, (.lit (.bool true)), none), (12, (.lit (.bool true)), none), (19, (.lit (.bool false)), none), (29, (.lit (.bool false)), none), (35, (.lit (.bool false)), none), (47, (.lit (.bool false)), none), (59, (.lit (.bool true)), none), (63, (.lit (.bool true)), none)], []⟩ [] [none, none] rfl (ps := [PropOf g936, PropOf g934, PropOf g932, PropOf g910, PropOf g866, PropOf g863, PropOf g860, PropOf g858]) (by kernel_rfl) ⟨g936, g934, g932, g910, g866, g863, g860, g858, trivial⟩
                  · replace h := (cnd_f h935).trans h
                    have g937 := bool_eq h935
                    have g938 := bool_eq h933
                    rcases Bool.eq_false_or_eq_true (a856.Kind == 10) with h939 | h939
                    · replace h := (cnd_t h939).trans h
                      have g940 := bool_eq h939
                      have hr := Option.some.inj h
                      subst hr
                      exact pv_o (F := F18) ⟨[(8, (.lit (.bool true)), none), (12, (.lit (.bool true)), none), (19, (.lit (.bool false)), none), (29, (.lit (.bool false)), none), (35, (.lit (.bool false)), none), (47, (.lit (.bool false)), none), (59, (.lit (.bool true)), none), (63, (.lit (.bool false)), none), (71, (.lit (.bool true)), none), (75, (.lit (.bool true)), none)], []⟩ [] [none, none] rfl (ps := [PropOf g940, PropOf g938, PropOf g937, PropOf g934, PropOf g932, PropOf g910, PropOf g866, PropOf g863, PropOf g860, PropOf g858]) (by kernel_rfl) ⟨g940, g938, g937, g934, g932, g910, g866, g863, g860, g858, trivial⟩
                    · replace h := (cnd_f h939).trans h
                      have g941 := bool_eq h939
                      have g942 := bool_eq h933
                      rcases Bool.eq_false_or_eq_true (a856.Kind == 11) with h943 | h943
                      · replace h := (cnd_t h943).trans h
                        have g944 := bool_eq h943
                        have hr := Option.some.inj h
                        subst hr
                        exact pv_o (F := F18) ⟨[(8, (.lit (.bool true)), none), (12, (.lit (.bool true)), none), (19, (.lit (.bool false)), none), (29, (.lit (.bool false)), none), (35, (.lit (.bool false)), none), (47, (.lit (.bool false)), none), (59, (.lit (.bool true)), none), (63, (.lit (.bool false)), none), (71, (.lit (.bool true)), none), (75, (.lit (.bool false)), none), (83, (.lit (.bool true)), none), (87, (.lit (.bool true)), none)], []⟩ [] [none, none] rfl (ps := [PropOf g944, PropOf g942, PropOf g941, PropOf g938, PropOf g937, PropOf g934, PropOf g932, PropOf g910, PropOf g866, PropOf g863, PropOf g860, PropOf g858]) (by kernel_rfl) ⟨g944, g942, g941, g938, g937, g934, g932, g910, g866, g863, g860, g858, trivial⟩
                      · replace h := (cnd_f h943).trans h
                        have g945 := bool_eq h943
                        have hr := Option.some.inj h
                        subst hr
                        exact pv_o (F := F18) ⟨[(8, (.lit (.bool true)), none), (12, (.lit (.bool true)), none), (19, (.lit (.bool false)), none), (29, (.lit (.bool false)), none), (35, (.lit (.bool false)), none), (47, (.lit (.bool false)), none), (59, (.lit (.bool true)), none), (63, (.lit (.bool false)), none), (71, (.lit (.bool true)), none), (75, (.lit (.bool false)), none), (83, (.lit (.bool true)), none), (87, (.lit (.bool false)), none)], []⟩ [] [none] rfl (ps := [PropOf g945, PropOf g942, PropOf g941, PropOf g938, PropOf g937, PropOf g934, PropOf g932, PropOf g910, PropOf g866, PropOf g863, PropOf g860, PropOf g858]) (by kernel_rfl) ⟨g945, g942, g941, g938, g937, g934, g932, g910, g866, g863, g860, g858, trivial⟩
                · replace h := (cnd_f h933).trans h
                  have g946 := bool_eq h933
                  have g947 := bool_eq h933
                  have g948 := bool_eq h933
                  have hr := Option.some.inj h
                  subst hr
                  exact pv_o (F := F18) ⟨[(8, (.lit (.bool true)), none), (12, (.lit (.bool true)), none), (19, (.lit (.bool false)), none), (29, (.lit (.bool false)), none), (35, (.lit (.bool false)), none), (47, (.lit (.bool false)), none), (59, (.lit (.bool false)), none), (71, (.lit (.bool false)), none), (83, (.lit (.bool false)), none)], []⟩ [] [none] rfl (ps := [PropOf g948, PropOf g947, PropOf g946, PropOf g932, PropOf g910, PropOf g866, PropOf g863, PropOf g860, PropOf g858]) (by kernel_rfl) ⟨g948, g947, g946, g932, g910, g866, g863, g860, g858, trivial⟩
      · replace h := (cnd_f h859).trans h
        have g949 := bool_eq h859
        rcases Bool.eq_false_or_eq_true (a855.ID != a856.ID) with h950 | h950
        · replace h := (cnd_t h950).trans h
          have g951 := bool_eq h950
          have hr := Option.some.inj h
          subst hr
          exact pv_o (F := F18) ⟨[(8, (.lit (.bool true)), none), (12, (.lit (.bool false)), none), (29, (.lit (.bool true)), none)], []⟩ [] [none] rfl (ps := [PropOf g951, PropOf g949, PropOf g858]) (by kernel_rfl) ⟨g951, g949, g858, trivial⟩
        · replace h := (cnd_f h950).trans h
          have g952 := bool_eq h950
          rcases Bool.eq_false_or_eq_true (a855.Kind == 1) with h953 | h953
          · replace h := (cnd_t h953).trans h
            have g954 := bool_eq h953
            rcases Bool.eq_false_or_eq_true (a856.Kind == 3) with h955 | h955
            · replace h := (cnd_t h955).trans h
              have g956 := bool_eq h955
              have hr := Option.some.inj h
              subst hr
              exact pv_o (F := F18) ⟨[(8, (.lit (.bool true)), none), (12, (.lit (.bool false)), none), (29, (.lit (.bool false)), none), (35, (.lit (.bool true)), none), (39, (.lit (.bool true)), none)], []⟩ [] [none, none] rfl (ps := [PropOf g956, PropOf g954, PropOf g952, PropOf g949, PropOf g858]) (by kernel_rfl) ⟨g956, g954, g952, g949, g858, trivial⟩
            · replace h := (cnd_f h955).trans h
              have g957 := bool_eq h955
              rcases Bool.eq_false_or_eq_true (a855.Kind == 4) with h958 | h958
              · replace h := (cnd_t h958).trans h
                have g959 := bool_eq h958
                rcases Bool.eq_false_or_eq_true (a856.Kind == 6) with h960 | h960
                · replace h := (cnd_t h960).trans h
                  have g961 := bool_eq h960
                  have hr := Option.some.inj h
                  subst hr
                  exact pv_o (F := F18) ⟨[(8, (.lit (.bool true)), none), (12, (.lit (.bool false)), none), (29, (.lit (.bool false)), none), (35, (.lit (.bool true)), none), (39, (.lit (.bool false)), none), (47, (.lit (.bool true)), none), (51, (.lit (.bool true)), none)], []⟩ [] [none, none] rfl (ps := [PropOf g961, PropOf g959, PropOf g957, PropOf g954, PropOf g952, PropOf g949, PropOf g858]) (by kernel_rfl) ⟨g961, g959, g957, g954, g952, g949, g858, trivial⟩
                · replace h := (cnd_f h960).trans h
                  have g962 := bool_eq h960
                  rcases Bool.eq_false_or_eq_true (a855.Kind == 7) with h963 | h963
                  · replace h := (cnd_t h963).trans h
                    have g964 := bool_eq h963
                    rcases Bool.eq_false_or_eq_true (a856.Kind == 9) with h965 | h965
                    · replace h := (cnd_t h965).trans h
                      have g966 := bool_eq h965
                      have hr := Option.some.inj h
                      subst hr
                      exact pv_o (F := F18) ⟨[(8, (.lit (.bool true)), none), (12, (.lit (.bool false)), none), (29, (.lit (.bool false)), none), (35, (.lit (.bool true)), none), (39, (.lit (.bool false)), none), (47, (.lit (.bool true)), none), (51, (.lit (.bool false)), none), (59, (.lit (.bool true)), none), (63, (.lit (.bool true)), none)], []⟩ [] [none, none] rfl (ps := [PropOf g966, PropOf g964, PropOf g962, PropOf g959, PropOf g957, PropOf g954, PropOf g952, PropOf g949, PropOf g858]) (by kernel_rfl) ⟨g966, g964, g962, g959, g957, g954, g952, g949, g858, trivial⟩
                    · replace h := (cnd_f h965).trans h
                      have g967 := bool_eq h965
                      have g968 := bool_eq h963
                      rcases Bool.eq_false_or_eq_true (a856.Kind == 10) with h969 | h969
                      · replace h := (cnd_t h969).trans h
                        have g970 := bool_eq h969
                        have hr := Option.some.inj h
                        subst hr
                        exact pv_o (F := F18) ⟨[(8, (.lit (.bool true)), none), (12, (.lit (.bool false)), none), (29, (.lit (.bool false)), none), (35, (.lit (.bool true)), none), (39, (.lit (.bool false)), none), (47, (.lit (.bool true)), none), (51, (.lit (.bool false)), none), (59, (.lit (.bool true)), none), (63, (.lit (.bool false)), none), (71, (.lit (.bool true)), none), (75, (.lit (.bool true)), none)], []⟩ [] [none, none] rfl (ps := [PropOf g970, PropOf g968, PropOf g967, PropOf g964, PropOf g962, PropOf g959, PropOf g957, PropOf g954, PropOf g952, PropOf g949, PropOf g858]) (by kernel_rfl) ⟨g970, g968, g967, g964, g962, g959, g957, g954, g952, g949, g858, trivial⟩
                      · replace h := (cnd_f h969).trans h
                        have g971 := bool_eq h969
                        have g972 := bool_eq h963
                        rcases Bool.eq_false_or_eq_true (a856.Kind == 11) with h973 | h973
                        · replace h := (cnd_t h973).trans h
                          have g974 := bool_eq h973
                          have hr := Option.some.inj h
                          subst hr
                          exact pv_o (F := F18) ⟨[(8, (.lit (.bool true)), none), (12, (.lit (.bool false)), none), (29, (.lit (.bool false)), none), (35, (.lit (.bool true)), none), (39, (.lit (.bool false)), none), (47, (.lit (.bool true)), none), (51, (.lit (.bool false)), none), (59, (.lit (.bool true)), none), (63, (.lit (.bool false)), none), (71, (.lit (.bool true)), none), (75, (.lit (.bool false)), none), (83, (.lit (.bool true)), none), (87, (.lit (.bool true)), none)], []⟩ [] [none, none] rfl (ps := [PropOf g974, PropOf g972, PropOf g971, PropOf g968, PropOf g967, PropOf g964, PropOf g962, PropOf g959, PropOf g957, PropOf g954, PropOf g952, PropOf g949, PropOf g858]) (by kernel_rfl) ⟨g974, g972, g971, g968, g967, g964, g962, g959, g957, g954, g952, g949, g858, trivial⟩
                        · replace h := (cnd_f h973).trans h
                          have g975 := bool_eq h973
                          have hr := Option.some.inj h
                          subst hr
                          exact pv_o (F := F18) ⟨[(8, (.lit (.bool true)), none), (12, (.lit (.bool false)), none), (29, (.lit (.bool false)), none), (35, (.lit (.bool true)), none), (39, (.lit (.bool false)), none), (47, (.lit (.bool true)), none), (51, (.lit (.bool false)), none), (59, (.lit (.bool true)), none), (63, (.lit (.bool false)), none), (71, (.lit (.bool true)), none), (75, (.lit (.bool false)), none), (83, (.lit (.bool true)), none), (87, (.lit (.bool false)), none)], []⟩ [] [none] rfl (ps := [PropOf g975, PropOf g972, PropOf g971, PropOf g968, PropOf g967, PropOf g964, PropOf g962, PropOf g959, PropOf g957, PropOf g954, PropOf g952, PropOf g949, PropOf g858]) (by kernel_rfl) ⟨g975, g972, g971, g968, g967, g964, g962, g959, g957, g954, g952, g949, g858, trivial⟩
                  · replace h := (cnd_f h963).trans h
                    have g976 := bool_eq h963
                    have g977 := bool_eq h963
                    have g978 := bool_eq h963
                    have hr := Option.some.inj h
                    subst hr
                    exact pv_o (F := F18) ⟨[(8, (.lit (.bool true)), none), (12, (.lit (.bool false)), none), (29, (.lit (.bool false)), none), (35, (.lit (.bool true)), none), (39, (.lit (.bool false)), none), (47, (.lit (.bool true)), none), (51, (.lit (.bool false)), none), (59, (.lit (.bool false)), none), (71, (.lit (.bool false)), none), (83, (.lit (.bool false)), none)], []⟩ [] [none] rfl (ps := [PropOf g978, PropOf g977, PropOf g976, PropOf g962, PropOf g959, PropOf g957, PropOf g954, PropOf g952, PropOf g949, PropOf g858]) (by kernel_rfl) ⟨g978, g977, g976, g962, g959, g957, g954, g952, g949, g858, trivial⟩
              · replace h := (cnd_f h958).trans h
                have g979 := bool_eq h958
                rcases Bool.eq_false_or_eq_true (a855.Kind == 7) with h980 | h980
                · replace h := (cnd_t h980).trans h
                  have g981 := bool_eq h980
                  rcases Bool.eq_false_or_eq_true (a856.Kind == 9) with h982 | h982
                  · replace h := (cnd_t h982).trans h
                    have g983 := bool_eq h982
                    have hr := Option.some.inj h
                    subst hr
                    exact pv_o (F := F18) ⟨[(8, (.lit (.bool true)), none), (12, (.lit (.bool false)), none), (29, (.lit (.bool false)), none), (35, (.lit (.bool true)), none), (39, (.lit (.bool false)), none), (47, (.lit (.bool false)), none), (59, (.lit (.bool true)), none), (63, (.lit (.bool true)), none)], []⟩ [] [none, none] rfl (ps := [PropOf g983, PropOf g981, PropOf g979, PropOf g957, PropOf g954, PropOf g952, PropOf g949, PropOf g858]) (by kernel_rfl) ⟨g983, g981, g979, g957, g954, g952, g949, g858, trivial⟩
                  · replace h := (cnd_f h982).trans h
                    have g984 := bool_eq h982
                    have g985 := bool_eq h980
                    rcases Bool.eq_false_or_eq_true (a856.Kind == 10) with h986 | h986
                    · replace h := (cnd_t h986).trans h
                      have g987 := bool_eq h986
                      have hr := Option.some.inj h
                      subst hr
                      exact pv_o (F := F18) ⟨[(8, (.lit (.bool true)), none), (12, (.lit (.bool false)), none), (29, (.lit (.bool false)), none), (35, (.lit (.bool true)), none), (39, (.lit (.bool false)), none), (47, (.lit (.bool false)), none), (59, (.lit (.bool true)), none), (63, (.lit (.bool false)), none), (71, (.lit (.bool true)), none), (75, (.lit (.bool true)), none)], []⟩ [] [none, none] rfl (ps := [PropOf g987, PropOf g985, PropOf g984, PropOf g981, PropOf g979, PropOf g957, PropOf g954, PropOf g952, PropOf g949, PropOf g858]) (by kernel_rfl) ⟨g987, g985, g984, g981, g979, g957, g954, g952, g949, g858, trivial⟩
                    · replace h := (cnd_f h986).trans h
                      have g988 := bool_eq h986
                      have g989 := bool_eq h980
                      rcases Bool.eq_false_or_eq_true (a856.Kind == 11) with h990 | h990
                      · replace h := (cnd_t h990).trans h
                        have g991 := bool_eq h990
                        have hr := Option.some.inj h
                        subst hr
                        exact pv_o (F := F18) ⟨[(8, (.lit (.bool true)), none), (12, (.lit (.bool false)), none), (29, (.lit (.bool false)), none), (35, (.lit (.bool true)), none), (39, (.lit (.bool false)), none), (47, (.lit (.bool false)), none), (59, (.lit (.bool true)), none), (63, (.lit (.bool false)), none), (71, (.lit (.bool true)), none), (75, (.lit (.bool false)), none), (83, (.lit (.bool true)), none), (87, (.lit (.bool true)), none)], []⟩ [] [none, none] rfl (ps := [PropOf g991, PropOf g989, PropOf g988, PropOf g985, PropOf g984, PropOf g981, PropOf g979, PropOf g957, PropOf g954, PropOf g952, PropOf g949, PropOf g858]) (by kernel_rfl) ⟨g991, g989, g988, g985, g984, g981, g979, g957, g954, g952, g949, g858, trivial⟩
                      · replace h := (cnd_f h990).trans h
                        have g992 := bool_eq h990
                        have hr := Option.some.inj h
                        subst hr
                        exact pv_o (F := F18) ⟨[(8, (.lit (.bool true)), none), (12, (.lit (.bool false)), none), (29, (.lit (.bool false)), none), (35, (.lit (.bool true)), none), (39, (.lit (.bool false)), none), (47, (.lit (.bool false)), none), (59, (.lit (.bool true)), none), (63, (.lit (.bool false)), none), (71, (.lit (.bool true)), none), (75, (.lit (.bool false)), none), (83, (.lit (.bool true)), none), (87, (.lit (.bool false)), none)], []⟩ [] [none] rfl (ps := [PropOf g992, PropOf g989, PropOf g988, PropOf g985, PropOf g984, PropOf g981, PropOf g979, PropOf g957, PropOf g954, PropOf g952, PropOf g949, PropOf g858]) (by kernel_rfl) ⟨g992, g989, g988, g985, g984, g981, g979, g957, g954, g952, g949, g858, trivial⟩
                · replace h := (cnd_f h980).trans h
                  have g993 := bool_eq h980
                  have g994 := bool_eq h980
                  have g995 := bool_eq h980
                  have hr := Option.some.inj h
                  subst hr
                  exact pv_o (F := F18) ⟨[(8, (.lit (.bool true)), none), (12, (.lit (.bool false)), none), (29, (.lit (.bool false)), none), (35, (.lit (.bool true)), none), (39, (.lit (.bool false)), none), (47, (.lit (.bool false)), none), (59, (.lit (.bool false)), none), (71, (.lit (.bool false)), none), (83, (.lit (.bool false)), none)], []⟩ [] [none] rfl (ps := [PropOf g995, PropOf g994, PropOf g993, PropOf g979, PropOf g957, PropOf g954, PropOf g952, PropOf g949, PropOf g858]) (by kernel_rfl) ⟨g995, g994, g993, g979, g957, g954, g952, g949, g858, trivial⟩
          · replace h := (cnd_f h953).trans h
            have g996 := bool_eq h953
            rcases Bool.eq_false_or_eq_true (a855.Kind == 4) with h997 | h997
            · replace h := (cnd_t h997).trans h
              have g998 := bool_eq h997
              rcases Bool.eq_false_or_eq_true (a856.Kind == 6) with h999 | h999
              · replace h := (cnd_t h999).trans h
                have g1000 := bool_eq h999
                have hr := Option.some.inj h
                subst hr
                exact pv_o (F := F18) ⟨[(8, (.lit (.bool true)), none), (12, (.lit (.bool false)), none), (29, (.lit (.bool false)), none), (35, (.lit (.bool false)), none), (47, (.lit (.bool true)), none), (51, (.lit (.bool true)), none)], []⟩ [] [none, none] rfl (ps := [PropOf g1000, PropOf g998, PropOf g996, PropOf g952, PropOf g949, PropOf g858]) (by kernel_rfl) ⟨g1000, g998, g996, g952, g949, g858, trivial⟩
              · replace h := (cnd_f h999).trans h
                have g1001 := bool_eq h999
                rcases Bool.eq_false_or_eq_true (a855.Kind == 7) with h1002 | h1002
                · replace h := (cnd_t h1002).trans h
                  have g1003 := bool_eq h1002
                  rcases Bool.eq_false_or_eq_true (a856.Kind == 9) with h1004 | h1004
                  · replace h := (cnd_t h1004).trans h
                    have g1005 := bool_eq h1004
                    have hr := Option.some.inj h
                    subst hr
                    exact pv_o (F := F18) ⟨[(8, (.lit (.bool true)), none), (12, (.lit (.bool false)), none), (29, (.lit (.bool false)), none), (35, (.lit (.bool false)), none), (47, (.lit (.bool true)), none), (51, (.lit (.bool false)), none), (59, (.lit (.bool true)), none), (63, (.lit (.bool true)), none)], []⟩ [] [none, none] rfl (ps := [PropOf g1005, PropOf g1003, PropOf g1001, PropOf g998, PropOf g996, PropOf g952, PropOf g949, PropOf g858]) (by kernel_rfl) ⟨g1005, g1003, g1001, g998, g996, g952, g949, g858, trivial⟩
                  · replace h := (cnd_f h1004).trans h
                    have g1006 := bool_eq h1004
                    have g1007 := bool_eq h1002
                    rcases Bool.eq_false_or_eq_true (a856.Kind == 10) with h1008 | h1008
                    · replace h := (cnd_t h1008).trans h
                      have g1009 := bool_eq h1008
                      have hr := Option.some.inj h
                      subst hr
                      exact pv_o (F := F18) ⟨[(8, (.lit (.bool true)), none), (12, (.lit (.bool false)), none), (29, (.lit (.bool false)), none), (35, (.lit (.bool false)), none), (47, (.lit (.bool true)), none), (51, (.lit (.bool false)), none), (59, (.lit (.bool true)), none), (63, (.lit (.bool false)), none), (71, (.lit (.bool true)), none), (75, (.lit (.bool true)), none)], []⟩ [] [none, none] rfl (ps := [PropOf g1009, PropOf g1007, PropOf g1006, PropOf g1003, PropOf g1001, PropOf g998, PropOf g996, PropOf g952, PropOf g949, PropOf g858]) (by kernel_rfl) ⟨g1009, g1007, g1006, g1003, g1001, g998, g996, g952, g949, g858, trivial⟩
                    · replace h := (cnd_f h1008).trans h
                      have g1010 := bool_eq h1008
                      have g1011 := bool_eq h1002
                      rcases Bool.eq_false_or_eq_true (a856.Kind == 11) with h1012 | h1012
                      · replace h := (cnd_t h1012).trans h
                        have g1013 := bool_eq h1012
                        have hr := Option.some.inj h
                        subst hr
                        exact pv_o (F := F18) ⟨[(8, (.lit (.bool true)), none), (12, (.lit (.bool false)), none), (29, (.lit (.bool false)), none), (35, (.lit (.bool false)), none), (47, (.lit (.bool true)), none), (51, (.lit (.bool false)), none), (59, (.lit (.bool true)), none), (63, (.lit (.bool false)), none), (71, (.lit (.bool true)), none), (75, (.lit (.bool false)), none), (83, (.lit (.bool true)), none), (87, (.lit (.bool true)), none)], []⟩ [] [none, none] rfl (ps := [PropOf g1013, PropOf g1011, PropOf g1010, PropOf g1007, PropOf g1006, PropOf g1003, PropOf g1001, PropOf g998, PropOf g996, PropOf g952, PropOf g949, PropOf g858]) (by kernel_rfl) ⟨g1013, g1011, g1010, g1007, g1006, g1003, g1001, g998, g996, g952, g949, g858, trivial⟩
                      · replace h := (cnd_f h1012).trans h
                        have g1014 := bool_eq h1012
                        have hr := Option.some.inj h
                        subst hr
                        exact pv_o (F := F18) ⟨[(8, (.lit (.bool true)), none), (12, (.lit (.bool false)), none), (29, (.lit (.bool false)), none), (35, (.lit (.bool false)), none), (47, (.lit (.bool true)), none), (51, (.lit (.bool false)), none), (59, (.lit (.bool true)), none), (63, (.lit (.bool false)), none), (71, (.lit (.bool true)), none), (75, (.lit (.bool false)), none), (83, (.lit (.bool true)), none), (87, (.lit (.bool false)), none)], []⟩ [] [none] rfl (ps := [PropOf g1014, PropOf g1011, PropOf g1010, PropOf g1007, PropOf g1006, PropOf g1003, PropOf g1001, PropOf g998, PropOf g996, PropOf g952, PropOf g949, PropOf g858]) (by kernel_rfl) ⟨g1014, g1011, g1010, g1007, g1006, g1003, g1001, g998, g996, g952, g949, g858, trivial⟩
                · replace h := (cnd_f h1002).trans h
                  have g1015 := bool_eq h1002
                  have g1016 := bool_eq h1002
                  have g1017 := bool_eq h1002
                  have hr := Option.some.inj h
                  subst hr
                  exact pv_o (F := F18) ⟨[(8, (.lit (.bool true)), none), (12, (.lit (.bool false)), none), (29, (.lit (.bool false)), none), (35, (.lit (.bool false)), none), (47, (.lit (.bool true)), none), (51, (.lit (.bool false)), none), (59, (.lit (.bool false)), none), (71, (.lit (.bool false)), none), (83, (.lit (.bool false)), none)], []⟩ [] [none] rfl (ps := [PropOf g1017, PropOf g1016, PropOf g1015, PropOf g1001, PropOf g998, PropOf g996, PropOf g952, PropOf g949, PropOf g858]) (by kernel_rfl) ⟨g1017, g1016, g1015, g1001, g998, g996, g952, g949, g858, trivial⟩
            · replace h := (cnd_f h997).trans h
              have g1018 := bool_eq h997
              rcases Bool.eq_false_or_eq_true (a855.Kind == 7) with h1019 | h1019
              · replace h := (cnd_t h1019).trans h
                have g1020 := bool_eq h1019
                rcases Bool.eq_false_or_eq_true (a856.Kind == 9) with h1021 | h1021
                · replace h := (cnd_t h1021).trans h
                  have g1022 := bool_eq h1021
                  have hr := Option.some.inj h
                  subst hr
                  exact pv_o (F := F18) ⟨[(8, (.lit (.bool true)), none), (12, (.lit (.bool false)), none), (29, (.lit (.bool false)), none), (35, (.lit (.bool false)), none), (47, (.lit (.bool false)), none), (59, (.lit (.bool true)), none), (63, (.lit (.bool true)), none)], []⟩ [] [none, none] rfl (ps := [PropOf g1022, PropOf g1020, PropOf g1018, PropOf g996, PropOf g952, PropOf g949, PropOf g858]) (by kernel_rfl) ⟨g1022, g1020, g1018, g996, g952, g949, g858, trivial⟩
                · replace h := (cnd_f h1021).trans h
                  have g1023 := bool_eq h1021
                  have g1024 := bool_eq h1019
                  rcases Bool.eq_false_or_eq_true (a856.Kind == 10) with h1025 | h1025
                  · replace h := (cnd_t h1025).trans h
                    have g1026 := bool_eq h1025
                    have hr := Option.some.inj h
                    subst hr
                    exact pv_o (F := F18) ⟨[(8, (.lit (.bool true)), none), (12, (.lit (.bool false)), none), (29, (.lit (.bool false)), none), (35, (.lit (.bool false)), none), (47, (.lit (.bool false)), none), (59, (.lit (.bool true)), none), (63, (.lit (.bool false)), none), (71, (.lit (.bool true)), none), (75, (.lit (.bool true)), none)], []⟩ [] [none, none] rfl (ps := [PropOf g1026, PropOf g1024, PropOf g1023, PropOf g1020, PropOf g1018, PropOf g996, PropOf g952, PropOf g949, PropOf g858]) (by kernel_rfl) ⟨g1026, g1024, g1023, g1020, g1018, g996, g952, g949, g858, trivial⟩
                  · replace h := (cnd_f h1025).trans h
                    have g1027 := bool_eq h1025
                    have g1028 := bool_eq h1019
                    rcases Bool.eq_false_or_eq_true (a856.Kind == 11) with h1029 | h1029
                    · replace h := (cnd_t h1029).trans h
                      have g1030 := bool_eq h1029
                      have hr := Option.some.inj h
                      subst hr
                      exact pv_o (F := F18) ⟨[(8, (.lit (.bool true)), none), (12, (.lit (.bool false)), none), (29, (.lit (.bool false)), none), (35, (.lit (.bool false)), none), (47, (.lit (.bool false)), none), (59, (.lit (.bool true)), none), (63, (.lit (.bool false)), none), (71, (.lit (.bool true)), none), (75, (.lit (.bool false)), none), (83, (.lit (.bool true)), none), (87, (.lit (.bool true)), none)], []⟩ [] [none, none] rfl (ps := [PropOf g1030, PropOf g1028, PropOf g1027, PropOf g1024, PropOf g1023, PropOf g1020, PropOf g1018, PropOf g996, PropOf g952, PropOf g949, PropOf g858]) (by kernel_rfl) ⟨g1030, g1028, g1027, g1024, g1023, g1020, g1018, g996, g952, g949, g858, trivial⟩
                    · replace h := (cnd_f h1029).trans h
                      have g1031 := bool_eq h1029
                      have hr := Option.some.inj h
                      subst hr
                      exact pv_o (F := F18) ⟨[(8, (.lit (.bool true)), none), (12, (.lit (.bool false)), none), (29, (.lit (.bool false)), none), (35, (.lit (.bool false)), none), (47, (.lit (.bool false)), none), (59, (.lit (.bool true)), none), (63, (.lit (.bool false)), none), (71, (.lit (.bool true)), none), (75, (.lit (.bool false)), none), (83, (.lit (.bool true)), none), (87, (.lit (.bool false)), none)], []⟩ [] [none] rfl (ps := [PropOf g1031, PropOf g1028, PropOf g1027, PropOf g1024, PropOf g1023, PropOf g1020, PropOf g1018, PropOf g996, PropOf g952, PropOf g949, PropOf g858]) (by kernel_rfl) ⟨g1031, g1028, g1027, g1024, g1023, g1020, g1018, g996, g952, g949, g858, trivial⟩
              · replace h := (cnd_f h1019).trans h
                have g1032 := bool_eq h1019
                have g1033 := bool_eq h1019
                have g1034 := bool_eq h1019
                have hr := Option.some.inj h
                subst hr
                exact pv_o (F := F18) ⟨[(8, (.lit (.bool true)), none), (12, (.lit (.bool false)), none), (29, (.lit (.bool false)), none), (35, (.lit (.bool false)), none), (47, (.lit (.bool false)), none), (59, (.lit (.bool false)), none), (71, (.lit (.bool false)), none), (83, (.lit (.bool false)), none)], []⟩ [] [none] rfl (ps := [PropOf g1034, PropOf g1033, PropOf g1032, PropOf g1018, PropOf g996, PropOf g952, PropOf g949, PropOf g858]) (by kernel_rfl) ⟨g1034, g1033, g1032, g1018, g996, g952, g949, g858, trivial⟩
    · replace h := (cnd_f h857).trans h
      have g1035 := bool_eq h857
      rcases Bool.eq_false_or_eq_true (a855.ID != a856.ID) with h1036 | h1036
      · replace h := (cnd_t h1036).trans h
        have g1037 := bool_eq h1036
        have hr := Option.some.inj h
        subst hr
        exact pv_o (F := F18) ⟨[(8, (.lit (.bool false)), none), (29, (.lit (.bool true)), none)], []⟩ [] [none] rfl (ps := [PropOf g1037, PropOf g1035]) (by kernel_rfl) ⟨g1037, g1035, trivial⟩
      · replace h := (cnd_f h1036).trans h
        have g1038 := bool_eq h1036
        rcases Bool.eq_false_or_eq_true (a855.Kind == 1) with h1039 | h1039
        · replace h := (cnd_t h1039).trans h
          have g1040 := bool_eq h1039
          rcases Bool.eq_false_or_eq_true (a856.Kind == 3) with h1041 | h1041
          · replace h := (cnd_t h1041).trans h
            have g1042 := bool_eq h1041
            have hr := Option.some.inj h
            subst hr
            exact pv_o (F := F18) ⟨[(8, (.lit (.bool false)), none), (29, (.lit (.bool false)), none), (35, (.lit (.bool true)), none), (39, (.lit (.bool true)), none)], []⟩ [] [none, none] rfl (ps := [PropOf g1042, PropOf g1040, PropOf g1038, PropOf g1035]) (by kernel_rfl) ⟨g1042, g1040, g1038, g1035, trivial⟩
          · replace h := (cnd_f h1041).trans h
            have g1043 := bool_eq h1041
            rcases Bool.eq_false_or_eq_true (a855.Kind == 4) with h1044 | h1044
            · replace h := (cnd_t h1044).trans h
              have g1045 := bool_eq h1044
              rcases Bool.eq_false_or_eq_true (a856.Kind == 6) with h1046 | h1046
              · replace h := (cnd_t h1046).trans h
                have g1047 := bool_eq h1046
                have hr := Option.some.inj h
                subst hr
                exact pv_o (F := F18) ⟨[(8, (.lit (.bool false)), none), (29, (.lit (.bool false)), none), (35, (.lit (.bool true)), none), (39, (.lit (.bool false)), none), (47, (.lit (.bool true)), none), (51, (.lit (.bool true)), none)], []⟩ [] [none, none] rfl (ps := [PropOf g1047, PropOf g1045, PropOf g1043, PropOf g1040, PropOf g1038, PropOf g1035]) (by kernel_rfl) ⟨g1047, g1045, g1043, g1040, g1038, g1035, trivial⟩
              · replace h := (cnd_f h1046).trans h
                have g1048 := bool_eq h1046
                rcases Bool.eq_false_or_eq_true (a855.Kind == 7) with h1049 | h1049
                · replace h := (cnd_t h1049).trans h
                  have g1050 := bool_eq h1049
                  rcases Bool.eq_false_or_eq_true (a856.Kind == 9) with h1051 | h1051
                  · replace h := (cnd_t h1051).trans h
                    have g1052 := bool_eq h1051
                    have hr := Option.some.inj h
                    subst hr
                    exact pv_o (F := F18) ⟨[(8, (.lit (.bool false)), none), (29, (.lit (.bool false)), none), (35, (.lit (.bool true)), none), (39, (.lit (.bool false)), none), (47, (.lit (.bool true)), none), (51, (.lit (.bool false)), none), (59, (.lit (.bool true)), none), (63, (.lit (.bool true)), none)], []⟩ [] [none, none] rfl (ps := [PropOf g1052, PropOf g1050, PropOf g1048, PropOf g1045, PropOf g1043, PropOf g1040, PropOf g1038, PropOf g1035]) (by kernel_rfl) ⟨g1052, g1050, g1048, g1045, g1043, g1040, g1038, g1035, trivial⟩
                  · replace h := (cnd_f h1051).trans h
                    have g1053 := bool_eq h1051
                    have g1054 := bool_eq h1049
                    rcases Bool.eq_false_or_eq_true (a856.Kind == 10) with h1055 | h1055
                    · replace h := (cnd_t h1055).trans h
                      have g1056 := bool_eq h1055
                      have hr := Option.some.inj h
                      subst hr
                      exact pv_o (F := F18) ⟨[(8, (.lit (.bool false)), none), (29, (.lit (.bool false)), none), (35, (.lit (.bool true)), none), (39, (.lit (.bool false)), none), (47, (.lit (.bool true)), none), (51, (.lit (.bool false)), none), (59, (.lit (.bool true)), none), (63, (.lit (.bool false)), none), (71, (.lit (.bool true)), none), (75, (.lit (.bool true)), none)], []⟩ [] [none, none] rfl (ps := [PropOf g1056, PropOf g1054, PropOf g1053, PropOf g1050, PropOf g1048, PropOf g1045, PropOf g1043, PropOf g1040, PropOf g1038, PropOf g1035]) (by kernel_rfl) ⟨g1056, g1054, g1053, g1050, g1048, g1045, g1043, g1040, g1038, g1035, trivial⟩
                    · replace h := (cnd_f h1055).trans h
                      have g1057 := bool_eq h1055
                      have g1058 := bool_eq h1049
                      rcases Bool.eq_false_or_eq_true (a856.Kind == 11) with h1059 | h1059
                      · replace h := (cnd_t h1059).trans h
                        have g1060 := bool_eq h1059
                        have hr := Option.some.inj h
                        subst hr
                        exact pv_o (F := F18) ⟨[(8, (.lit (.bool false)), none), (29, (.lit (.bool false)), none), (35, (.lit (.bool true)), none), (39, (.lit (.bool false)), none), (47, (.lit (.bool true)), none), (51, (.lit (.bool false)), none), (59, (.lit (.bool true)), none), (63, (.lit (.bool false)), none), (71, (.lit (.bool true)), none), (75, (.lit (.bool false)), none), (83, (.lit (.bool true)), none), (87, (.lit (.bool true)), none)], []⟩ [] [none, none] rfl (ps := [PropOf g1060, PropOf g1058, PropOf g1057, PropOf g1054, PropOf g1053, PropOf g1050, PropOf g1048, PropOf g1045, PropOf g1043, PropOf g1040, PropOf g1038, PropOf g1035]) (by kernel_rfl) ⟨g1060, g1058, g1057, g1054, g1053, g1050, g1048, g1045, g1043, g1040, g1038, g1035, trivial⟩
                      · replace h := (cnd_f h1059).trans h
                        have g1061 := bool_eq h1059
                        have hr := Option.some.inj h
                        subst hr
                        exact pv_o (F := F18) ⟨[(8, (.lit (.bool false)), none), (29, (.lit (.bool false)), none), (35, (.lit (.bool true)), none), (39, (.lit (.bool false)), none), (47, (.lit (.bool true)), none), (51, (.lit (.bool false)), none), (59, (.lit (.bool true)), none), (63, (.lit (.bool false)), none), (71, (.lit (.bool true)), none), (75, (.lit (.bool false)), none), (83, (.lit (.bool true)), none), (87, (.lit (.bool false)), none)], []⟩ [] [none] rfl (ps := [PropOf g1061, PropOf g1058, PropOf g1057, PropOf g1054, PropOf g1053, PropOf g1050, PropOf g1048, PropOf g1045, PropOf g1043, PropOf g1040, PropOf g1038, PropOf g1035]) (by kernel_rfl) ⟨g1061, g1058, g1057, g1054, g1053, g1050, g1048, g1045, g1043, g1040, g1038, g1035, trivial⟩
                · replace h := (cnd_f h1049).trans h
                  have g1062 := bool_eq h1049
                  have g1063 := bool_eq h1049
                  have g1064 := bool_eq h1049
                  have hr := Option.some.inj h
                  subst hr
                  exact pv_o (F := F18) ⟨[(8, (.lit (.bool false)), none), (29, (.lit (.bool false)), none), (35, (.lit (.bool true)), none), (39, (.lit (.bool false)), none), (47, (.lit (.bool true)), none), (51, (.lit (.bool false)), none), (59, (.lit (.bool false)), none), (71, (.lit (.bool false)), none), (83, (.lit (.bool false)), none)], []⟩ [] [none] rfl (ps := [PropOf g1064, PropOf g1063, PropOf g1062, PropOf g1048, PropOf g1045, PropOf g1043, PropOf g1040, PropOf g1038, PropOf g1035]) (by kernel_rfl) ⟨g1064, g1063, g1062, g1048, g1045, g1043, g1040, g1038, g1035, trivial⟩
            · replace h := (cnd_f h1044).trans h
              have g1065 := bool_eq h1044
              rcases Bool.eq_false_or_eq_true (a855.Kind == 7) with h1066 | h1066
              · replace h := (cnd_t h1066).trans h
                have g1067 := bool_eq h1066
                rcases Bool.eq_false_or_eq_true (a856.Kind == 9) with h1068 | h1068
                · replace h := (cnd_t h1068).trans h
                  have g1069 := bool_eq h1068
                  have hr := Option.some.inj h
                  subst hr
                  exact pv_o (F := F18) ⟨[(8, (.lit (.bool false)), none), (29, (.lit (.bool false)), none), (35, (.lit (.bool true)), none), (39, (.lit (.bool false)), none), (47, (.lit (.bool false)), none), (59, (.lit (.bool true)), none), (63, (.lit (.bool true)), none)], []⟩ [] [none, none] rfl (ps := [PropOf g1069, PropOf g1067, PropOf g1065, PropOf g1043, PropOf g1040, PropOf g1038, PropOf g1035]) (by kernel_rfl) ⟨g1069, g1067, g1065, g1043, g1040, g1038, g1035, trivial⟩
                · replace h := (cnd_f h1068).trans h
                  have g1070 := bool_eq h1068
                  have g1071 := bool_eq h1066
                  rcases Bool.eq_false_or_eq_true (a856.Kind == 10) with h1072 | h1072
                  · replace h := (cnd_t h1072).trans h
                    have g1073 := bool_eq h1072
                    have hr := Option.some.inj h
                    subst hr
                    exact pv_o (F := F18) ⟨[(8, (.lit (.bool false)), none), (29, (.lit (.bool false)), none), (35, (.lit (.bool true)), none), (39, (.lit (.bool false)), none), (47, (.lit (.bool false)), none), (59, (.lit (.bool true)), none), (63, (.lit (.bool false)), none), (71, (.lit (.bool true)), none), (75, (.lit (.bool true)), none)], []⟩ [] [none, none] rfl (ps := [PropOf g1073, PropOf g1071, PropOf g1070, PropOf g1067, PropOf g1065, PropOf g1043, PropOf g1040, PropOf g1038, PropOf g1035]) (by kernel_rfl) ⟨g1073, g1071, g1070, g1067, g1065, g1043, g1040, g1038, g1035, trivial⟩
                  · replace h := (cnd_f h1072).trans h
                    have g1074 := bool_eq h1072
                    have g1075 := bool_eq h1066
                    rcases Bool.eq_false_or_eq_true (a856.Kind == 11) with h1076 | h1076
                    · replace h := (cnd_t h1076).trans h
                      have g1077 := bool_eq h1076
                      have hr := Option.some.inj h
                      subst hr
                      exact pv_o (F := F18) ⟨[(8, (.lit (.bool false)), none), (29, (.lit (.bool false)), none), (35, (.lit (.bool true)), none), (39, (.lit (.bool false)), none), (47, (.lit (.bool false)), none), (59, (.lit (.bool true)), none), (63, (.lit (.bool false)), none), (71, (.lit (.bool true)), none), (75, (.lit (.bool false)), none), (83, (.lit (.bool true)), none), (87, (.lit (.bool true)), none)], []⟩ [] [none, none] rfl (ps := [PropOf g1077, PropOf g1075, PropOf g1074, PropOf g1071, PropOf g1070, PropOf g1067, PropOf g1065, PropOf g1043, PropOf g1040, PropOf g1038, PropOf g1035]) (by kernel_rfl) ⟨g1077, g1075, g1074, g1071, g1070, g1067, g1065, g1043, g1040, g1038, g1035, trivial⟩
                    · replace h := (cnd_f h1076).trans h
                      have g1078 := bool_eq h1076
                      have hr := Option.some.inj h
                      subst hr
                      exact pv_o (F := F18) ⟨[(8, (.lit (.bool false)), none), (29, (.lit (.bool false)), none), (35, (.lit (.bool true)), none), (39, (.lit (.bool false)), none), (47, (.lit (.bool false)), none), (59, (.lit (.bool true)), none), (63, (.lit (.bool false)), none), (71, (.lit (.bool true)), none), (75, (.lit (.bool false)), none), (83, (.lit (.bool true)), none), (87, (.lit (.bool false)), none)], []⟩ [] [none] rfl (ps := [PropOf g1078, PropOf g1075, PropOf g1074, PropOf g1071, PropOf g1070, PropOf g1067, PropOf g1065, PropOf g1043, PropOf g1040, PropOf g1038, PropOf g1035]) (by kernel_rfl) ⟨g1078, g1075, g1074, g1071, g1070, g1067, g1065, g1043, g1040, g1038, g1035, trivial⟩
              · replace h := (cnd_f h1066).trans h
                have g1079 := bool_eq h1066
                have g1080 := bool_eq h1066
                have g1081 := bool_eq h1066
                have hr := Option.some.inj h
                subst hr
                exact pv_o (F := F18) ⟨[(8, (.lit (.bool false)), none), (29, (.lit (.bool false)), none), (35, (.lit (.bool true)), none), (39, (.lit (.bool false)), none), (47, (.lit (.bool false)), none), (59, (.lit (.bool false)), none), (71, (.lit (.bool false)), none), (83, (.lit (.bool false)), none)], []⟩ [] [none] rfl (ps := [PropOf g1081, PropOf g1080, PropOf g1079, PropOf g1065, PropOf g1043, PropOf g1040, PropOf g1038, PropOf g1035]) (by kernel_rfl) ⟨g1081, g1080, g1079, g1065, g1043, g1040, g1038, g1035, trivial⟩
        · replace h := (cnd_f h1039).trans h
          have g1082 := bool_eq h1039
          rcases Bool.eq_false_or_eq_true (a855.Kind == 4) with h1083 | h1083
          · replace h := (cnd_t h1083).trans h
            have g1084 := bool_eq h1083
            rcases Bool.eq_false_or_eq_true (a856.Kind == 6) with h1085 | h1085
            · replace h := (cnd_t h1085).trans h
              have g1086 := bool_eq h1085
              have hr := Option.some.inj h
              subst hr
              exact pv_o (F := F18) ⟨[(8, (.lit (.bool false)), none), (29, (.lit (.bool false)), none), (35, (.lit (.bool false)), none), (47, (.lit (.bool true)), none), (51, (.lit (.bool true)), none)], []⟩ [] [none, none] rfl (ps := [PropOf g1086, PropOf g1084, PropOf g1082, PropOf g1038, PropOf g1035]) (by kernel_rfl) ⟨g1086, g1084, g1082, g1038, g1035, trivial⟩
            · replace h := (cnd_f h1085).trans h
              have g1087 := bool_eq h1085
              rcases Bool.eq_false_or_eq_true (a855.Kind == 7) with h1088 | h1088
              · replace h := (cnd_t h1088).trans h
                have g1089 := bool_eq h1088
                rcases Bool.eq_false_or_eq_true (a856.Kind == 9) with h1090 | h1090
                · replace h := (cnd_t h1090).trans h
                  have g1091 := bool_eq h1090
                  have hr := Option.some.inj h
                  subst hr
                  exact pv_o (F := F18) ⟨[(8, (.lit (.bool false)), none), (29, (.lit (.bool false)), none), (35, (.lit (.bool false)), none), (47, (.lit (.bool true)), none), (51, (.lit (.bool false)), none), (59, (.lit (.bool true)), none), (63, (.lit (.bool true)), none)], []⟩ [] [none, none] rfl (ps := [PropOf g1091, PropOf g1089, PropOf g1087, PropOf g1084, PropOf g1082, PropOf g1038, PropOf g1035]) (by kernel_rfl) ⟨g1091, g1089, g1087, g1084, g1082, g1038, g1035, trivial⟩
                · replace h := (cnd_f h1090).trans h
                  have g1092 := bool_eq h1090
                  have g1093 := bool_eq h1088
                  rcases Bool.eq_false_or_eq_true (a856.Kind == 10) with h1094 | h1094
                  · replace h := (cnd_t h1094).trans h
                    have g1095 := bool_eq h1094
                    have hr := Option.some.inj h
                    subst hr
                    exact pv_o (F := F18) ⟨[(8, (.lit (.bool false)), none), (29, (.lit (.bool false)), none), (35, (.lit (.bool false)), none), (47, (.lit (.bool true)), none), (51, (.lit (.bool false)), none), (59, (.lit (.bool true)), none), (63, (.lit (.bool false)), none), (71, (.lit (.bool true)), none), (75, (.lit (.bool true)), none)], []⟩ [] [none, none] rfl (ps := [PropOf g1095, PropOf g1093, PropOf g1092, PropOf g1089, PropOf g1087, PropOf g1084, PropOf g1082, PropOf g1038, PropOf g1035]) (by kernel_rfl) ⟨g1095, g1093, g1092, g1089, g1087, g1084, g1082, g1038, g1035, trivial⟩
                  · replace h := (cnd_f h1094).trans h
                    have g1096 := bool_eq h1094
                    have g1097 := bool_eq h1088
                    rcases Bool.eq_false_or_eq_true (a856.Kind == 11) with h1098 | h1098
                    · replace h := (cnd_t h1098).trans h
                      have g1099 := bool_eq h1098
                      have hr := Option.some.inj h
                      subst hr
                      exact pv_o (F := F18) ⟨[(8, (.lit (.bool false)), none), (29, (.lit (.bool false)), none), (35, (.lit (.bool false)), none), (47, (.lit (.bool true)), none), (51, (.lit (.bool false)), none), (59, (.lit (.bool true)), none), (63, (.lit (.bool false)), none), (71, (.lit (.bool true)), none), (75, (.lit (.bool false)), none), (83, (.lit (.bool true)), none), (87, (.lit (.bool true)), none)], []⟩ [] [none, none] rfl (ps := [PropOf g1099, PropOf g1097, PropOf g1096, PropOf g1093, PropOf g1092, PropOf g1089, PropOf g1087, PropOf g1084, PropOf g1082, PropOf g1038, PropOf g1035]) (by kernel_rfl) ⟨g1099, g1097, g1096, g1093, g1092, g1089, g1087, g1084, g1082, g1038, g1035, trivial⟩
                    · replace h := (cnd_f h1098).trans h
                      have g1100 := bool_eq h1098
                      have hr := Option.some.inj h
                      subst hr
                      exact pv_o (F := F18) ⟨[(8, (.lit (.bool false)), none), (29, (.lit (.bool false)), none), (35, (.lit (.bool false)), none), (47, (.lit (.bool true)), none), (51, (.lit (.bool false)), none), (59, (.lit (.bool true)), none), (63, (.lit (.bool false)), none), (71, (.lit (.bool true)), none), (75, (.lit (.bool false)), none), (83, (.lit (.bool true)), none), (87, (.lit (.bool false)), none)], []⟩ [] [none] rfl (ps := [PropOf g1100, PropOf g1097, PropOf g1096, PropOf g1093, PropOf g1092, PropOf g1089, PropOf g1087, PropOf g1084, PropOf g1082, PropOf g1038, PropOf g1035]) (by kernel_rfl) ⟨g1100, g1097, g1096, g1093, g1092, g1089, g1087, g1084, g1082, g1038, g1035, trivial⟩
              · replace h := (cnd_f h1088).trans h
                have g1101 := bool_eq h1088
                have g1102 := bool_eq h1088
                have g1103 := bool_eq h1088
                have hr := Option.some.inj h
                subst hr
                exact pv_o (F := F18) ⟨[(8, (.lit (.bool false)), none), (29, (.lit (.bool false)), none), (35, (.lit (.bool false)), none), (47, (.lit (.bool true)), none), (51, (.lit (.bool false)), none), (59, (.lit (.bool false)), none), (71, (.lit (.bool false)), none), (83, (.lit (.bool false)), none)], []⟩ [] [none] rfl (ps := [PropOf g1103, PropOf g1102, PropOf g1101, PropOf g1087, PropOf g1084, PropOf g1082, PropOf g1038, PropOf g1035]) (by kernel_rfl) ⟨g1103, g1102, g1101, g1087, g1084, g1082, g1038, g1035, trivial⟩
          · replace h := (cnd_f h1083).trans h
            have g1104 := bool_eq h1083
            rcases Bool.eq_false_or_eq_true (a855.Kind == 7) with h1105 | h1105
            · replace h := (cnd_t h1105).trans h
              have g1106 := bool_eq h1105
              rcases Bool.eq_false_or_eq_true (a856.Kind == 9) with h1107 | h1107
              · replace h := (cnd_t h1107).trans h
                have g1108 := bool_eq h1107
                have hr := Option.some.inj h
                subst hr
                exact pv_o (F := F18) ⟨[(8, (.lit (.bool false)), none), (29, (.lit (.bool false)), none), (35, (.lit (.bool false)), none), (47, (.lit (.bool false)), none), (59, (.lit (.bool true)), none), (63, (.lit (.bool true)), none)], []⟩ [] [none, none] rfl (ps := [PropOf g1108, PropOf g1106, PropOf g1104, PropOf g1082, PropOf g1038, PropOf g1035]) (by kernel_rfl) ⟨g1108, g1106, g1104, g1082, g1038, g1035, trivial⟩
              · replace h := (cnd_f h1107).trans h
                have g1109 := bool_eq h1107
                have g1110 := bool_eq h1105
                rcases Bool.eq_false_or_eq_true (a856.Kind == 10) with h1111 | h1111
                · replace h := (cnd_t h1111).trans h
                  have g1112 := bool_eq h1111
                  have hr := Option.some.inj h
                  subst hr
                  exact pv_o (F := F18) ⟨[(8, (.lit (.bool false)), none), (29, (.lit (.bool false)), none), (35, (.lit (.bool false)), none), (47, (.lit (.bool false)), none), (59, (.lit (.bool true)), none), (63, (.lit (.bool false)), none), (71, (.lit (.bool true)), none), (75, (.lit (.bool true)), none)], []⟩ [] [none, none] rfl (ps := [PropOf g1112, PropOf g1110, PropOf g1109, PropOf g1106, PropOf g1104, PropOf g1082, PropOf g1038, PropOf g1035]) (by kernel_rfl) ⟨g1112, g1110, g1109, g1106, g1104, g1082, g1038, g1035, trivial⟩
                · replace h := (cnd_f h1111).trans h
                  have g1113 := bool_eq h1111
                  have g1114 := bool_eq h1105
                  rcases Bool.eq_false_or_eq_true (a856.Kind == 11) with h1115 | h1115
                  · replace h := (cnd_t h1115).trans h
                    have g1116 := bool_eq h1115
                    have hr := Option.some.inj h
                    subst hr
                    exact pv_o (F := F18) ⟨[(8, (.lit (.bool false)), none), (29, (.lit (.bool false)), none), (35, (.lit (.bool false)), none), (47, (.lit (.bool false)), none), (59, (.lit (.bool true)), none), (63, (.lit (.bool false)), none), (71, (.lit (.bool true)), none), (75, (.lit (.bool false)), none), (83, (.lit (.bool true)), none), (87, (.lit (.bool true)), none)], []⟩ [] [none, none] rfl (ps := [PropOf g1116, PropOf g1114, PropOf g1113, PropOf g1110, PropOf g1109, PropOf g1106, PropOf g1104, PropOf g1082, PropOf g1038, PropOf g1035]) (by kernel_rfl) ⟨g1116, g1114, g1113, g1110, g1109, g1106, g1104, g1082, g1038, g1035, trivial⟩
                  · replace h := (cnd_f h1115).trans h
                    have g1117 := bool_eq h1115
                    have hr := Option.some.inj h
                    subst hr
                    exact pv_o (F := F18) ⟨[(8, (.lit (.bool false)), none), (29, (.lit (.bool false)), none), (35, (.lit (.bool false)), none), (47, (.lit (.bool false)), none), (59, (.lit (.bool true)), none), (63, (.lit (.bool false)), none), (71, (.lit (.bool true)), none), (75, (.lit (.bool false)), none), (83, (.lit (.bool true)), none), (87, (.lit (.bool false)), none)], []⟩ [] [none] rfl (ps := [PropOf g1117, PropOf g1114, PropOf g1113, PropOf g1110, PropOf g1109, PropOf g1106, PropOf g1104, PropOf g1082, PropOf g1038, PropOf g1035]) (by kernel_rfl) ⟨g1117, g1114, g1113, g1110, g1109, g1106, g1104, g1082, g1038, g1035, trivial⟩
            · replace h := (cnd_f h1105).trans h
              have g1118 := bool_eq h1105
              have g1119 := bool_eq h1105
              have g1120 := bool_eq h1105
              have hr := Option.some.inj h
              subst hr
              exact pv_o (F := F18) ⟨[(8, (.lit (.bool false)), none), (29, (.lit (.bool false)), none), (35, (.lit (.bool false)), none), (47, (.lit (.bool false)), none), (59, (.lit (.bool false)), none), (71, (.lit (.bool false)), none), (83, (.lit (.bool false)), none)], []⟩ [] [none] rfl (ps := [PropOf g1120, PropOf g1119, PropOf g1118, PropOf g1104, PropOf g1082, PropOf g1038, PropOf g1035]) (by kernel_rfl) ⟨g1120, g1119, g1118, g1104, g1082, g1038, g1035, trivial⟩
def f4_L0_S (a1121 : (List GEdit)) (l1225 : (List GEdit)) (k1226 : Nat) (i1227 : Int) : St := ⟨[(.sl false (List.map c_GEdit a1121)), .undef, .undef, (.ms 1 l1225.length 0 k1226), (.lit (.int .i64 i1227)), .undef, .undef, .undef, .undef, .undef, .undef, .undef, .undef, .undef, .undef, .undef, .undef, .undef, .undef, .undef, .undef, .undef, .undef, .undef, .undef, .undef, .undef, .undef, .undef, .undef, .undef, .undef, .undef, .undef, .undef, .undef, .undef, .undef, .undef, .undef, .undef, .undef, .undef, .undef, .undef, .undef, .undef, .undef, .undef, .undef, .undef, .undef, .undef, .undef, .undef, .undef, .undef, .undef, .undef, .undef, .undef, .undef, .undef, .undef, .undef, .undef, .undef, .undef, .undef, .undef, .undef, .undef, .undef, .undef, .undef, .undef, .undef, .undef, .undef, .undef, .undef], [(.blk 10 (List.map c_GEdit [] ++ [List.replicate 10 AV.undef])), (.blk 10 (List.map c_GEdit l1225))]⟩
def f4_L0_E0 (a1121 : (List GEdit)) (l1315 : (List GEdit)) (k1316 : Nat) : St := ⟨[.undef, .undef, .undef, (.ms 1 l1315.length 0 k1316), .undef, .undef, .undef, .undef, .undef, .undef, .undef, .undef, .undef, .undef, .undef, .undef, .undef, .undef, .undef, .undef, .undef, .undef, .undef, .undef, .undef, .undef, .undef, .undef, .undef, .undef, .undef, .undef, .undef, .undef, .undef, .undef, .undef, .undef, .undef, .undef, .undef, .undef, .undef, .undef, .undef, .undef, .undef, .undef, .undef, .undef, .undef, .undef, .undef, .undef, .undef, .undef, .undef, .undef, .undef, .undef, .undef, .undef, .undef, .undef, .undef, .undef, .undef, .undef, .undef, .undef, .undef, .undef, .undef, .undef, .undef, .undef, .undef, .undef, .undef, .undef, .undef], [(.blk 10 (List.map c_GEdit [] ++ [List.replicate 10 AV.undef])), (.blk 10 (List.map c_GEdit l1315))]⟩
def f4_L1_S (a1121 : (List GEdit)) (l1225 : (List GEdit)) (i1227 : Int) (x1320 : GEdit) (k1338 : Nat) : St := ⟨[(.sl false (List.map c_GEdit a1121)), .undef, .undef, (.ms 1 l1225.length 0 k1338), (.lit (.int .i64 i1227)), (.ptr 2 1 0 0), .undef, .undef, .undef, .undef, .undef, .undef, .undef, .undef, .undef, .undef, .undef, .undef, .undef, .undef, .undef, .undef, .undef, .undef, .undef, .undef, .undef, .undef, .undef, .undef, .undef, .undef, .undef, .undef, .undef, .undef, .undef, .undef, .undef, .undef, .undef, .undef, .undef, .undef, .undef, .undef, .undef, .undef, .undef, .undef, .undef, .undef, .undef, .undef, .undef, .undef, .undef, .undef, .undef, .undef, .undef, .undef, .undef, .undef, .undef, .undef, .undef, .undef, .undef, .undef, .undef, .undef, .undef, .undef, .undef, .undef, .undef, .undef, .undef, .undef, .undef], [(.blk 10 (List.map c_GEdit [] ++ [List.replicate 10 AV.undef])), (.blk 10 (List.map c_GEdit l1225)), (.blk 10 [[(.lit (.int .i64 x1320.Kind)), (.lit (.int .i64 x1320.ID)), (.lit (.int .i64 x1320.A)), (.lit (.int .i64 x1320.B)), (.lit (.int .i64 x1320.C)), (.lit (.int .i64 x1320.At.X)), (.lit (.int .i64 x1320.At.Y)), (.sl false (List.map c_GPoint x1320.Via)), (.lit (.string x1320.Name)), (.sl false (List.map c_i64 x1320.Parts))]])]⟩
def f4_L1_E0 (a1121 : (List GEdit)) (l1225 : (List GEdit)) (i1227 : Int) (x1320 : GEdit) (k1354 : Nat) : St := ⟨[(.sl false (List.map c_GEdit a1121)), .undef, .undef, (.ms 1 l1225.length 0 k1354), (.lit (.int .i64 i1227)), (.ptr 2 1 0 0), .undef, .undef, .undef, .undef, .undef, .undef, .undef, .undef, .undef, .undef, .undef, .undef, .undef, .undef, .undef, .undef, .undef, .undef, .undef, .undef, .undef, .undef, .undef, .undef, .undef, .undef, .undef, .undef, .undef, .undef, .undef, .undef, .undef, .undef, .undef, .undef, .undef, .undef, .undef, .undef, .undef, .undef, .undef, .undef, .undef, .undef, .undef, .undef, .undef, .undef, .undef, .undef, .undef, .undef, .undef, .undef, .undef, .undef, .undef, .undef, .undef, .undef, .undef, .undef, .undef, .undef, .undef, .undef, .undef, .undef, .undef, .undef, .undef, .undef, .undef], [(.blk 10 (List.map c_GEdit [] ++ [List.replicate 10 AV.undef])), (.blk 10 (List.map c_GEdit l1225)), (.blk 10 [[(.lit (.int .i64 x1320.Kind)), (.lit (.int .i64 x1320.ID)), (.lit (.int .i64 x1320.A)), (.lit (.int .i64 x1320.B)), (.lit (.int .i64 x1320.C)), (.lit (.int .i64 x1320.At.X)), (.lit (.int .i64 x1320.At.Y)), (.sl false (List.map c_GPoint x1320.Via)), (.lit (.string x1320.Name)), (.sl false (List.map c_i64 x1320.Parts))]])]⟩
def f4_L1 (n : Nat) (a1121 : (List GEdit)) (l1225 : (List GEdit)) (i1227 : Int) (x1320 : GEdit) : Nat → Nat → Option Nat
  | 0, _ => none
  | m + 1, k1338 => (cnd (decide (((k1338 : Nat) : Int) > 0)) (bnd (idxK l1225 k1338 (IntKind.i64.wrap (((k1338 : Nat) : Int) - 1))) fun x1357 => (bnd (f16 n x1357 x1320) fun v1361 => (cnd (v1361) (bnd (grd (decide (0 ≤ (IntKind.i64.wrap (((k1338 : Nat) : Int) - 1)) ∧ Int.toNat (IntKind.i64.wrap (((k1338 : Nat) : Int) - 1)) ≤ k1338))) fun u1365 => (f4_L1 n a1121 l1225 i1227 x1320 m (Int.toNat (IntKind.i64.wrap (((k1338 : Nat) : Int) - 1))))) (some k1338)))) (some k1338))
theorem f4_L1_ok (n : Nat) (a1121 : (List GEdit)) (l1225 : (List GEdit)) (i1227 : Int) (x1320 : GEdit) : ∀ (m : Nat) (k1338 : Nat) (r : Nat), f4_L1 n a1121 l1225 i1227 x1320 m k1338 = some r → maskR [true, false, false, true, true, true] [false, false, true] false 0 3 (evLoopH (headSt (some [true, false, false, true, true, true]) false 0 3) (evC PP (evF PP T n) n 0 L4_1) m (f4_L1_S a1121 l1225 i1227 x1320 k1338)) = some ((.exit 2), f4_L1_E0 a1121 l1225 i1227 x1320 r)
  | 0, _, _, h => by cases h
  | m + 1, k1338, r, h => by
    rw [f4_L1] at h
    rcases Bool.eq_false_or_eq_true (decide (((k1338 : Nat) : Int) > 0)) with h1355 | h1355
    · replace h := (cnd_t h1355).trans h
      have g1356 := bool_eq h1355
      obtain ⟨x1357, e1358, h⟩ := bnd_some h
      have g1359 := idx_ms (H := [(.blk 10 (List.map c_GEdit [] ++ [List.replicate 10 AV.undef])), (.blk 10 (List.map c_GEdit l1225)), (.blk 10 [[(.lit (.int .i64 x1320.Kind)), (.lit (.int .i64 x1320.ID)), (.lit (.int .i64 x1320.A)), (.lit (.int .i64 x1320.B)), (.lit (.int .i64 x1320.C)), (.lit (.int .i64 x1320.At.X)), (.lit (.int .i64 x1320.At.Y)), (.sl false (List.map c_GPoint x1320.Via)), (.lit (.string x1320.Name)), (.sl false (List.map c_i64 x1320.Parts))]])]) (id := 1) (s := 10) (c := c_GEdit) e1358 rfl
      have g1360 := ld_ms (P := PP) (cf := evF PP T n) (fl := 0) (H := [(.blk 10 (List.map c_GEdit [] ++ [List.replicate 10 AV.undef])), (.blk 10 (List.map c_GEdit l1225)), (.blk 10 [[(.lit (.int .i64 x1320.Kind)), (.lit (.int .i64 x1320.ID)), (.lit (.int .i64 x1320.A)), (.lit (.int .i64 x1320.B)), (.lit (.int .i64 x1320.C)), (.lit (.int .i64 x1320.At.X)), (.lit (.int .i64 x1320.At.Y)), (.sl false (List.map c_GPoint x1320.Via)), (.lit (.string x1320.Name)), (.sl false (List.map c_i64 x1320.Parts))]])]) (id := 1) (c := c_GEdit) (off := 0) (n := 10) (agg := true) (v := (.agg [(.lit (.int .i64 x1357.Kind)), (.lit (.int .i64 x1357.ID)), (.lit (.int .i64 x1357.A)), (.lit (.int .i64 x1357.B)), (.lit (.int .i64 x1357.C)), (.lit (.int .i64 x1357.At.X)), (.lit (.int .i64 x1357.At.Y)), (.sl false (List.map c_GPoint x1357.Via)), (.lit (.string x1357.Name)), (.sl false (List.map c_i64 x1357.Parts))])) e1358 rfl (by simp [c_GEdit_len]) rfl
      obtain ⟨v1361, e1362, h⟩ := bnd_some h
      rcases Bool.eq_false_or_eq_true (v1361) with h1363 | h1363
      · replace h := (cnd_t h1363).trans h
        have g1364 := by have q := f16_ok n x1357 x1320 _ e1362; rw [h1363] at q; exact q
        obtain ⟨u1365, e1366, h⟩ := bnd_some h
        have g1367 := slice_ms (P := PP) (cf := evF PP T n) (w := .undef) (z := .undef) (fl := 0) (H := [(.blk 10 (List.map c_GEdit [] ++ [List.replicate 10 AV.undef])), (.blk 10 (List.map c_GEdit l1225)), (.blk 10 [[(.lit (.int .i64 x1320.Kind)), (.lit (.int .i64 x1320.ID)), (.lit (.int .i64 x1320.A)), (.lit (.int .i64 x1320.B)), (.lit (.int .i64 x1320.C)), (.lit (.int .i64 x1320.At.X)), (.lit (.int .i64 x1320.At.Y)), (.sl false (List.map c_GPoint x1320.Via)), (.lit (.string x1320.Name)), (.sl false (List.map c_i64 x1320.Parts))]])]) (id := 1) (s := 10) (es := _) (tot := l1225.length) (k := k1338) (h := (IntKind.i64.wrap (((k1338 : Nat) : Int) - 1))) e1366 rfl
        exact (congrArg (maskR [true, false, false, true, true, true] [false, false, true] false 0 3) (next_m (live := some [true, false, false, true, true, true]) (tr := false) (st' := f4_L1_S a1121 l1225 i1227 x1320 (Int.toNat (IntKind.i64.wrap (((k1338 : Nat) : Int) - 1)))) ⟨[(21, (.lit (.bool true)), none), (27, (.ptr 1 l1225.length (0 + Int.toNat (IntKind.i64.wrap (((k1338 : Nat) : Int) - 1))) 0), none), (28, (.agg [(.lit (.int .i64 x1357.Kind)), (.lit (.int .i64 x1357.ID)), (.lit (.int .i64 x1357.A)), (.lit (.int .i64 x1357.B)), (.lit (.int .i64 x1357.C)), (.lit (.int .i64 x1357.At.X)), (.lit (.int .i64 x1357.At.Y)), (.sl false (List.map c_GPoint x1357.Via)), (.lit (.string x1357.Name)), (.sl false (List.map c_i64 x1357.Parts))]), none), (30, (.lit (.bool true)), none), (36, (.ms 1 l1225.length 0 (Int.toNat (IntKind.i64.wrap (((k1338 : Nat) : Int) - 1)))), none)], []⟩ [] [] rfl (ps := [PropOf g1367, PropOf g1364, PropOf g1360, PropOf g1359, PropOf g1356]) (by kernel_rfl) ⟨g1367, g1364, g1360, g1359, g1356, trivial⟩ trivial rfl)).trans (f4_L1_ok n a1121 l1225 i1227 x1320 m (Int.toNat (IntKind.i64.wrap (((k1338 : Nat) : Int) - 1))) r h)
      · replace h := (cnd_f h1363).trans h
        have g1368 := by have q := f16_ok n x1357 x1320 _ e1362; rw [h1363] at q; exact q
        have hr := Option.some.inj h
        subst hr
        exact last_m (live := some [true, false, false, true, true, true]) (tr' := false) (st' := f4_L1_E0 a1121 l1225 i1227 x1320 k1338) ⟨[(21, (.lit (.bool true)), none), (27, (.ptr 1 l1225.length (0 + Int.toNat (IntKind.i64.wrap (((k1338 : Nat) : Int) - 1))) 0), none), (28, (.agg [(.lit (.int .i64 x1357.Kind)), (.lit (.int .i64 x1357.ID)), (.lit (.int .i64 x1357.A)), (.lit (.int .i64 x1357.B)), (.lit (.int .i64 x1357.C)), (.lit (.int .i64 x1357.At.X)), (.lit (.int .i64 x1357.At.Y)), (.sl false (List.map c_GPoint x1357.Via)), (.lit (.string x1357.Name)), (.sl false (List.map c_i64 x1357.Parts))]), none), (30, (.lit (.bool false)), none)], []⟩ [] [] rfl (ps := [PropOf g1368, PropOf g1360, PropOf g1359, PropOf g1356]) (by kernel_rfl) ⟨g1368, g1360, g1359, g1356, trivial⟩ trivial
    · replace h := (cnd_f h1355).trans h
      have g1369 := bool_eq h1355
      have hr := Option.some.inj h
      subst hr
      exact last_m (live := some [true, false, false, true, true, true]) (tr' := false) (st' := f4_L1_E0 a1121 l1225 i1227 x1320 k1338) ⟨[(21, (.lit (.bool false)), none)], []⟩ [] [] rfl (ps := [PropOf g1369]) (by kernel_rfl) ⟨g1369, trivial⟩ trivial
def f4_L0 (n : Nat) (a1121 : (List GEdit)) : Nat → (List GEdit) → Nat → Int → Option ((List GEdit) × Nat)
  | 0, _, _, _ => none
  | m + 1, l1225, k1226, i1227 => (cnd (decide (i1227 < ((a1121.length : Nat) : Int))) (bnd (idx a1121 i1227) fun x1320 => (bnd (f4_L1 n a1121 l1225 i1227 x1320 n k1226) fun v1373 => (cnd (((v1373 : Nat) : Int) == 0) (bnd (appK l1225 v1373 [x1320]) fun l1376 => (f4_L0 n a1121 m l1376 (v1373 + 1) (IntKind.i64.wrap (i1227 + 1)))) (bnd (idxK l1225 v1373 (IntKind.i64.wrap (((v1373 : Nat) : Int) - 1))) fun x1380 => (bnd (f17 n x1380 x1320) fun v1384 => (cnd (v1384) (bnd (grd (decide (0 ≤ (IntKind.i64.wrap (((v1373 : Nat) : Int) - 1)) ∧ Int.toNat (IntKind.i64.wrap (((v1373 : Nat) : Int) - 1)) ≤ v1373))) fun u1388 => (f4_L0 n a1121 m l1225 (Int.toNat (IntKind.i64.wrap (((v1373 : Nat) : Int) - 1))) (IntKind.i64.wrap (i1227 + 1)))) (bnd (f18 n x1380 x1320) fun v1394 => (cnd (v1394.2) (bnd (grd (decide (0 ≤ (IntKind.i64.wrap (((v1373 : Nat) : Int) - 1)) ∧ Int.toNat (IntKind.i64.wrap (((v1373 : Nat) : Int) - 1)) ≤ v1373))) fun u1398 => (cnd (List.isEmpty (List.take (Int.toNat (IntKind.i64.wrap (((v1373 : Nat) : Int) - 1))) l1225)) (f4_L0 n a1121 m [v1394.1] 1 (IntKind.i64.wrap (i1227 + 1))) (bnd (app ([] : (List GEdit)) (List.take (Int.toNat (IntKind.i64.wrap (((v1373 : Nat) : Int) - 1))) l1225)) fun l1403 => (bnd (app l1403 [v1394.1]) fun l1406 => (f4_L0 n a1121 m l1406 l1406.length (IntKind.i64.wrap (i1227 + 1))))))) (cnd (List.isEmpty (List.take v1373 l1225)) (f4_L0 n a1121 m [x1320] 1 (IntKind.i64.wrap (i1227 + 1))) (bnd (app ([] : (List GEdit)) (List.take v1373 l1225)) fun l1412 => (bnd (app l1412 [x1320]) fun l1415 => (f4_L0 n a1121 m l1415 l1415.length (IntKind.i64.wrap (i1227 + 1)))))))))))))) (some (l1225, k1226)))
theorem f4_L0_ok (n : Nat) (a1121 : (List GEdit)) : ∀ (m : Nat) (l1225 : (List GEdit)) (k1226 : Nat) (i1227 : Int) (r : ((List GEdit) × Nat)), f4_L0 n a1121 m l1225 k1226 i1227 = some r → maskV [false, false, false, true] [false, false, true] 3 0 1 (evLoopH (headV [true, false, false, true, true] 3 0 1) (evC PP (evF PP T n) n 0 L4_0) m (f4_L0_S a1121 l1225 k1226 i1227)) = some ((.exit 0), f4_L0_E0 a1121 r.1 r.2)
  | 0, _, _, _, _, h => by cases h
  | m + 1, l1225, k1226, i1227, r, h => by
    rw [f4_L0] at h
    have g1317 := len_sl (P := PP) (cf := evF PP T n) (fl := 0) (H := [(.blk 10 (List.map c_GEdit [] ++ [List.replicate 10 AV.undef])), (.blk 10 (List.map c_GEdit l1225))]) (f := false) (c := c_GEdit) (l := a1121)
    rcases Bool.eq_false_or_eq_true (decide (i1227 < ((a1121.length : Nat) : Int))) with h1318 | h1318
    · replace h := (cnd_t h1318).trans h
      have g1319 := bool_eq h1318
      obtain ⟨x1320, e1321, h⟩ := bnd_some h
      have g1322 := idxl (H := [(.blk 10 (List.map c_GEdit [] ++ [List.replicate 10 AV.undef])), (.blk 10 (List.map c_GEdit l1225))]) (f := false) (c := c_GEdit) e1321 (c_GEdit_len _)
      have g1370 : cleanQ false 0 3 [(.blk 10 (List.map c_GEdit [] ++ [List.replicate 10 AV.undef])), (.blk 10 (List.map c_GEdit l1225)), (.blk 10 [[(.lit (.int .i64 x1320.Kind)), (.lit (.int .i64 x1320.ID)), (.lit (.int .i64 x1320.A)), (.lit (.int .i64 x1320.B)), (.lit (.int .i64 x1320.C)), (.lit (.int .i64 x1320.At.X)), (.lit (.int .i64 x1320.At.Y)), (.sl false (List.map c_GPoint x1320.Via)), (.lit (.string x1320.Name)), (.sl false (List.map c_i64 x1320.Parts))]])] := trivial
      obtain ⟨v1373, e1371, h⟩ := bnd_some h
      have g1372 := f4_L1_ok n a1121 l1225 i1227 x1320 n k1226 _ e1371
      rcases Bool.eq_false_or_eq_true (((v1373 : Nat) : Int) == 0) with h1374 | h1374
      · replace h := (cnd_t h1374).trans h
        have g1375 := bool_eq h1374
        obtain ⟨l1376, e1377, h⟩ := bnd_some h
        have g1378 := app_msK (fl := 0) (H := [(.blk 10 (List.map c_GEdit [] ++ [List.replicate 10 AV.undef])), (.blk 10 (List.map c_GEdit l1225)), (.blk 10 [[(.lit (.int .i64 x1320.Kind)), (.lit (.int .i64 x1320.ID)), (.lit (.int .i64 x1320.A)), (.lit (.int .i64 x1320.B)), (.lit (.int .i64 x1320.C)), (.lit (.int .i64 x1320.At.X)), (.lit (.int .i64 x1320.At.Y)), (.sl false (List.map c_GPoint x1320.Via)), (.lit (.string x1320.Name)), (.sl false (List.map c_i64 x1320.Parts))]])]) (id := 1) (s := 10) (bytes := 120) (c := c_GEdit) (l := l1225) e1377 rfl c_GEdit_len (by omega) (by omega) (by omega)
        exact (congrArg (maskV [false, false, false, true] [false, false, true] 3 0 1) (next_mV (live := [true, false, false, true, true]) (t := 3) (st' := f4_L0_S a1121 l1376 (v1373 + 1) (IntKind.i64.wrap (i1227 + 1))) ⟨[(11, (.lit (.int .i64 ((a1121.length : Nat) : Int))), none), (12, (.lit (.bool true)), none), (17, (.rptr [(.lit (.int .i64 x1320.Kind)), (.lit (.int .i64 x1320.ID)), (.lit (.int .i64 x1320.A)), (.lit (.int .i64 x1320.B)), (.lit (.int .i64 x1320.C)), (.lit (.int .i64 x1320.At.X)), (.lit (.int .i64 x1320.At.Y)), (.sl false (List.map c_GPoint x1320.Via)), (.lit (.string x1320.Name)), (.sl false (List.map c_i64 x1320.Parts))]), none), (39, (.lit (.bool true)), none), (43, (.ms 1 l1376.length 0 (v1373 + 1)), (some [(.blk 10 (List.map c_GEdit [] ++ [List.replicate 10 AV.undef])), (.blk 10 (List.map c_GEdit l1376)), (.blk 10 [[(.lit (.int .i64 x1320.Kind)), (.lit (.int .i64 x1320.ID)), (.lit (.int .i64 x1320.A)), (.lit (.int .i64 x1320.B)), (.lit (.int .i64 x1320.C)), (.lit (.int .i64 x1320.At.X)), (.lit (.int .i64 x1320.At.Y)), (.sl false (List.map c_GPoint x1320.Via)), (.lit (.string x1320.Name)), (.sl false (List.map c_i64 x1320.Parts))]])]))], []⟩ [((.exit 2), f4_L1_E0 a1121 l1225 i1227 x1320 v1373)] [none] rfl (ps := [PropOf g1378, PropOf g1375, PropOf g1372, PropOf g1370, PropOf g1322, PropOf g1319, PropOf g1317]) (by kernel_rfl) ⟨g1378, g1375, g1372, g1370, g1322, g1319, g1317, trivial⟩ (by simp [cleanX, cleanQ, cleanObj, clean1, clean2, f4_L0_S, clean_map (c_GEdit_clean 1), c_GEdit_clean 1]) rfl)).trans (f4_L0_ok n a1121 m l1376 (v1373 + 1) (IntKind.i64.wrap (i1227 + 1)) r h)
      · replace h := (cnd_f h1374).trans h
        have g1379 := bool_eq h1374
        obtain ⟨x1380, e1381, h⟩ := bnd_some h
        have g1382 := idx_ms (H := [(.blk 10 (List.map c_GEdit [] ++ [List.replicate 10 AV.undef])), (.blk 10 (List.map c_GEdit l1225)), (.blk 10 [[(.lit (.int .i64 x1320.Kind)), (.lit (.int .i64 x1320.ID)), (.lit (.int .i64 x1320.A)), (.lit (.int .i64 x1320.B)), (.lit (.int .i64 x1320.C)), (.lit (.int .i64 x1320.At.X)), (.lit (.int .i64 x1320.At.Y)), (.sl false (List.map c_GPoint x1320.Via)), (.lit (.string x1320.Name)), (.sl false (List.map c_i64 x1320.Parts))]])]) (id := 1) (s := 10) (c := c_GEdit) e1381 rfl
        have g1383 := ld_ms (P := PP) (cf := evF PP T n) (fl := 0) (H := [(.blk 10 (List.map c_GEdit [] ++ [List.replicate 10 AV.undef])), (.blk 10 (List.map c_GEdit l1225)), (.blk 10 [[(.lit (.int .i64 x1320.Kind)), (.lit (.int .i64 x1320.ID)), (.lit (.int .i64 x1320.A)), (.lit (.int .i64 x1320.B)), (.lit (.int .i64 x1320.C)), (.lit (.int .i64 x1320.At.X)), (.lit (.int .i64 x1320.At.Y)), (.sl false (List.map c_GPoint x1320.Via)), (.lit (.string x1320.Name)), (.sl false (List.map c_i64 x1320.Parts))]])]) (id := 1) (c := c_GEdit) (off := 0) (n := 10) (agg := true) (v := (.agg [(.lit (.int .i64 x1380.Kind)), (.lit (.int .i64 x1380.ID)), (.lit (.int .i64 x1380.A)), (.lit (.int .i64 x1380.B)), (.lit (.int .i64 x1380.C)), (.lit (.int .i64 x1380.At.X)), (.lit (.int .i64 x1380.At.Y)), (.sl false (List.map c_GPoint x1380.Via)), (.lit (.string x1380.Name)), (.sl false (List.map c_i64 x1380.Parts))])) e1381 rfl (by simp [c_GEdit_len]) rfl
        obtain ⟨v1384, e1385, h⟩ := bnd_some h
        rcases Bool.eq_false_or_eq_true (v1384) with h1386 | h1386
        · replace h := (cnd_t h1386).trans h
          have g1387 := by have q := f17_ok n x1380 x1320 _ e1385; rw [h1386] at q; exact q
          obtain ⟨u1388, e1389, h⟩ := bnd_some h
          have g1390 := slice_ms (P := PP) (cf := evF PP T n) (w := .undef) (z := .undef) (fl := 0) (H := [(.blk 10 (List.map c_GEdit [] ++ [List.replicate 10 AV.undef])), (.blk 10 (List.map c_GEdit l1225)), (.blk 10 [[(.lit (.int .i64 x1320.Kind)), (.lit (.int .i64 x1320.ID)), (.lit (.int .i64 x1320.A)), (.lit (.int .i64 x1320.B)), (.lit (.int .i64 x1320.C)), (.lit (.int .i64 x1320.At.X)), (.lit (.int .i64 x1320.At.Y)), (.sl false (List.map c_GPoint x1320.Via)), (.lit (.string x1320.Name)), (.sl false (List.map c_i64 x1320.Parts))]])]) (id := 1) (s := 10) (es := _) (tot := l1225.length) (k := v1373) (h := (IntKind.i64.wrap (((v1373 : Nat) : Int) - 1))) e1389 rfl
          exact (congrArg (maskV [false, false, false, true] [false, false, true] 3 0 1) (next_mV (live := [true, false, false, true, true]) (t := 3) (st' := f4_L0_S a1121 l1225 (Int.toNat (IntKind.i64.wrap (((v1373 : Nat) : Int) - 1))) (IntKind.i64.wrap (i1227 + 1))) ⟨[(11, (.lit (.int .i64 ((a1121.length : Nat) : Int))), none), (12, (.lit (.bool true)), none), (17, (.rptr [(.lit (.int .i64 x1320.Kind)), (.lit (.int .i64 x1320.ID)), (.lit (.int .i64 x1320.A)), (.lit (.int .i64 x1320.B)), (.lit (.int .i64 x1320.C)), (.lit (.int .i64 x1320.At.X)), (.lit (.int .i64 x1320.At.Y)), (.sl false (List.map c_GPoint x1320.Via)), (.lit (.string x1320.Name)), (.sl false (List.map c_i64 x1320.Parts))]), none), (39, (.lit (.bool false)), none), (49, (.ptr 1 l1225.length (0 + Int.toNat (IntKind.i64.wrap (((v1373 : Nat) : Int) - 1))) 0), none), (50, (.agg [(.lit (.int .i64 x1380.Kind)), (.lit (.int .i64 x1380.ID)), (.lit (.int .i64 x1380.A)), (.lit (.int .i64 x1380.B)), (.lit (.int .i64 x1380.C)), (.lit (.int .i64 x1380.At.X)), (.lit (.int .i64 x1380.At.Y)), (.sl false (List.map c_GPoint x1380.Via)), (.lit (.string x1380.Name)), (.sl false (List.map c_i64 x1380.Parts))]), none), (52, (.lit (.bool true)), none), (55, (.ms 1 l1225.length 0 (Int.toNat (IntKind.i64.wrap (((v1373 : Nat) : Int) - 1)))), none)], []⟩ [((.exit 2), f4_L1_E0 a1121 l1225 i1227 x1320 v1373)] [none] rfl (ps := [PropOf g1390, PropOf g1387, PropOf g1383, PropOf g1382, PropOf g1379, PropOf g1372, PropOf g1370, PropOf g1322, PropOf g1319, PropOf g1317]) (by kernel_rfl) ⟨g1390, g1387, g1383, g1382, g1379, g1372, g1370, g1322, g1319, g1317, trivial⟩ (by simp [cleanX, cleanQ, cleanObj, clean1, clean2, f4_L0_S, clean_map (c_GEdit_clean 1), c_GEdit_clean 1]) rfl)).trans (f4_L0_ok n a1121 m l1225 (Int.toNat (IntKind.i64.wrap (((v1373 : Nat) : Int) - 1))) (IntKind.i64.wrap (i1227 + 1)) r h)
        · replace h := (cnd_f h1386).trans h
          have g1391 := by have q := f17_ok n x1380 x1320 _ e1385; rw [h1386] at q; exact q
          have g1392 := idx_ms (H := [(.blk 10 (List.map c_GEdit [] ++ [List.replicate 10 AV.undef])), (.blk 10 (List.map c_GEdit l1225)), (.blk 10 [[(.lit (.int .i64 x1320.Kind)), (.lit (.int .i64 x1320.ID)), (.lit (.int .i64 x1320.A)), (.lit (.int .i64 x1320.B)), (.lit (.int .i64 x1320.C)), (.lit (.int .i64 x1320.At.X)), (.lit (.int .i64 x1320.At.Y)), (.sl false (List.map c_GPoint x1320.Via)), (.lit (.string x1320.Name)), (.sl false (List.map c_i64 x1320.Parts))]])]) (id := 1) (s := 10) (c := c_GEdit) e1381 rfl
          have g1393 := ld_ms (P := PP) (cf := evF PP T n) (fl := 0) (H := [(.blk 10 (List.map c_GEdit [] ++ [List.replicate 10 AV.undef])), (.blk 10 (List.map c_GEdit l1225)), (.blk 10 [[(.lit (.int .i64 x1320.Kind)), (.lit (.int .i64 x1320.ID)), (.lit (.int .i64 x1320.A)), (.lit (.int .i64 x1320.B)), (.lit (.int .i64 x1320.C)), (.lit (.int .i64 x1320.At.X)), (.lit (.int .i64 x1320.At.Y)), (.sl false (List.map c_GPoint x1320.Via)), (.lit (.string x1320.Name)), (.sl false (List.map c_i64 x1320.Parts))]])]) (id := 1) (c := c_GEdit) (off := 0) (n := 10) (agg := true) (v := (.agg [(.lit (.int .i64 x1380.Kind)), (.lit (.int .i64 x1380.ID)), (.lit (.int .i64 x1380.A)), (.lit (.int .i64 x1380.B)), (.lit (.int .i64 x1380.C)), (.lit (.int .i64 x1380.At.X)), (.lit (.int .i64 x1380.At.Y)), (.sl false (List.map c_GPoint x1380.Via)), (.lit (.string x1380.Name)), (.sl false (List.map c_i64 x1380.Parts))])) e1381 rfl (by simp [c_GEdit_len]) rfl
          obtain ⟨v1394, e1395, h⟩ := bnd_some h
          rcases Bool.eq_false_or_eq_true (v1394.2) with h1396 | h1396
          · replace h := (cnd_t h1396).trans h
            have g1397 := by have q := f18_ok n x1380 x1320 _ e1395; rw [h1396] at q; exact q
            obtain ⟨u1398, e1399, h⟩ := bnd_some h
            have g1400 := slice_ms (P := PP) (cf := evF PP T n) (w := .undef) (z := .undef) (fl := 0) (H := [(.blk 10 (List.map c_GEdit [] ++ [List.replicate 10 AV.undef])), (.blk 10 (List.map c_GEdit l1225)), (.blk 10 [[(.lit (.int .i64 x1320.Kind)), (.lit (.int .i64 x1320.ID)), (.lit (.int .i64 x1320.A)), (.lit (.int .i64 x1320.B)), (.lit (.int .i64 x1320.C)), (.lit (.int .i64 x1320.At.X)), (.lit (.int .i64 x1320.At.Y)), (.sl false (List.map c_GPoint x1320.Via)), (.lit (.string x1320.Name)), (.sl false (List.map c_i64 x1320.Parts))]]), (.blk 10 [[(.lit (.int .i64 v1394.1.Kind)), (.lit (.int .i64 v1394.1.ID)), (.lit (.int .i64 v1394.1.A)), (.lit (.int .i64 v1394.1.B)), (.lit (.int .i64 v1394.1.C)), (.lit (.int .i64 v1394.1.At.X)), (.lit (.int .i64 v1394.1.At.Y)), (.sl false (List.map c_GPoint v1394.1.Via)), (.lit (.string v1394.1.Name)), (.sl false (List.map c_i64 v1394.1.Parts))]])]) (id := 1) (s := 10) (es := _) (tot := l1225.length) (k := v1373) (h := (IntKind.i64.wrap (((v1373 : Nat) : Int) - 1))) e1399 rfl
            rcases Bool.eq_false_or_eq_true (List.isEmpty (List.take (Int.toNat (IntKind.i64.wrap (((v1373 : Nat) : Int) - 1))) l1225)) with h1401 | h1401
            · replace h := (cnd_t h1401).trans h
              have g1402 := rd_app (rd_msK (H := [(.blk 10 (List.map c_GEdit [] ++ [List.replicate 10 AV.undef])), (.blk 10 (List.map c_GEdit l1225)), (.blk 10 [[(.lit (.int .i64 x1320.Kind)), (.lit (.int .i64 x1320.ID)), (.lit (.int .i64 x1320.A)), (.lit (.int .i64 x1320.B)), (.lit (.int .i64 x1320.C)), (.lit (.int .i64 x1320.At.X)), (.lit (.int .i64 x1320.At.Y)), (.sl false (List.map c_GPoint x1320.Via)), (.lit (.string x1320.Name)), (.sl false (List.map c_i64 x1320.Parts))]]), (.blk 10 [[(.lit (.int .i64 v1394.1.Kind)), (.lit (.int .i64 v1394.1.ID)), (.lit (.int .i64 v1394.1.A)), (.lit (.int .i64 v1394.1.B)), (.lit (.int .i64 v1394.1.C)), (.lit (.int .i64 v1394.1.At.X)), (.lit (.int .i64 v1394.1.At.Y)), (.sl false (List.map c_GPoint v1394.1.Via)), (.lit (.string v1394.1.Name)), (.sl false (List.map c_i64 v1394.1.Parts))]])]) (id := 1) (s := 10) (c := c_GEdit) (l := l1225) (k := (Int.toNat (IntKind.i64.wrap (((v1373 : Nat) : Int) - 1)))) rfl) (app_e (fl := 0) (H := [(.blk 10 (List.map c_GEdit [] ++ [List.replicate 10 AV.undef])), (.blk 10 (List.map c_GEdit l1225)), (.blk 10 [[(.lit (.int .i64 x1320.Kind)), (.lit (.int .i64 x1320.ID)), (.lit (.int .i64 x1320.A)), (.lit (.int .i64 x1320.B)), (.lit (.int .i64 x1320.C)), (.lit (.int .i64 x1320.At.X)), (.lit (.int .i64 x1320.At.Y)), (.sl false (List.map c_GPoint x1320.Via)), (.lit (.string x1320.Name)), (.sl false (List.map c_i64 x1320.Parts))]]), (.blk 10 [[(.lit (.int .i64 v1394.1.Kind)), (.lit (.int .i64 v1394.1.ID)), (.lit (.int .i64 v1394.1.A)), (.lit (.int .i64 v1394.1.B)), (.lit (.int .i64 v1394.1.C)), (.lit (.int .i64 v1394.1.At.X)), (.lit (.int .i64 v1394.1.At.Y)), (.sl false (List.map c_GPoint v1394.1.Via)), (.lit (.string v1394.1.Name)), (.sl false (List.map c_i64 v1394.1.Parts))]])]) (s := 10) (bytes := 120) (c := c_GEdit) (x := (.sl true [])) h1401 c_GEdit_len (by omega) (.inr rfl))
              exact (congrArg (maskV [false, false, false, true] [false, false, true] 3 0 1) (next_mV (live := [true, false, false, true, true]) (t := 3) (st' := f4_L0_S a1121 [v1394.1] 1 (IntKind.i64.wrap (i1227 + 1))) ⟨[(11, (.lit (.int .i64 ((a1121.length : Nat) : Int))), none), (12, (.lit (.bool true)), none), (17, (.rptr [(.lit (.int .i64 x1320.Kind)), (.lit (.int .i64 x1320.ID)), (.lit (.int .i64 x1320.A)), (.lit (.int .i64 x1320.B)), (.lit (.int .i64 x1320.C)), (.lit (.int .i64 x1320.At.X)), (.lit (.int .i64 x1320.At.Y)), (.sl false (List.map c_GPoint x1320.Via)), (.lit (.string x1320.Name)), (.sl false (List.map c_i64 x1320.Parts))]), none), (39, (.lit (.bool false)), none), (49, (.ptr 1 l1225.length (0 + Int.toNat (IntKind.i64.wrap (((v1373 : Nat) : Int) - 1))) 0), none), (50, (.agg [(.lit (.int .i64 x1380.Kind)), (.lit (.int .i64 x1380.ID)), (.lit (.int .i64 x1380.A)), (.lit (.int .i64 x1380.B)), (.lit (.int .i64 x1380.C)), (.lit (.int .i64 x1380.At.X)), (.lit (.int .i64 x1380.At.Y)), (.sl false (List.map c_GPoint x1380.Via)), (.lit (.string x1380.Name)), (.sl false (List.map c_i64 x1380.Parts))]), none), (52, (.lit (.bool false)), none), (59, (.ptr 1 l1225.length (0 + Int.toNat (IntKind.i64.wrap (((v1373 : Nat) : Int) - 1))) 0), none), (60, (.agg [(.lit (.int .i64 x1380.Kind)), (.lit (.int .i64 x1380.ID)), (.lit (.int .i64 x1380.A)), (.lit (.int .i64 x1380.B)), (.lit (.int .i64 x1380.C)), (.lit (.int .i64 x1380.At.X)), (.lit (.int .i64 x1380.At.Y)), (.sl false (List.map c_GPoint x1380.Via)), (.lit (.string x1380.Name)), (.sl false (List.map c_i64 x1380.Parts))]), none), (62, (.tup [(.agg [(.lit (.int .i64 v1394.1.Kind)), (.lit (.int .i64 v1394.1.ID)), (.lit (.int .i64 v1394.1.A)), (.lit (.int .i64 v1394.1.B)), (.lit (.int .i64 v1394.1.C)), (.lit (.int .i64 v1394.1.At.X)), (.lit (.int .i64 v1394.1.At.Y)), (.sl false (List.map c_GPoint v1394.1.Via)), (.lit (.string v1394.1.Name)), (.sl false (List.map c_i64 v1394.1.Parts))]), (.lit (.bool true))]), none), (69, (.ms 1 l1225.length 0 (Int.toNat (IntKind.i64.wrap (((v1373 : Nat) : Int) - 1)))), none), (70, (.sl true []), none)], []⟩ [((.exit 2), f4_L1_E0 a1121 l1225 i1227 x1320 v1373)] [none, none] rfl (ps := [PropOf g1402, PropOf g1400, PropOf g1397, PropOf g1393, PropOf g1392, PropOf g1391, PropOf g1383, PropOf g1382, PropOf g1379, PropOf g1372, PropOf g1370, PropOf g1322, PropOf g1319, PropOf g1317]) (by kernel_rfl) ⟨g1402, g1400, g1397, g1393, g1392, g1391, g1383, g1382, g1379, g1372, g1370, g1322, g1319, g1317, trivial⟩ (by simp [cleanX, cleanQ, cleanObj, clean1, clean2, f4_L0_S, clean_map (c_GEdit_clean 1), c_GEdit_clean 1]) rfl)).trans (f4_L0_ok n a1121 m [v1394.1] 1 (IntKind.i64.wrap (i1227 + 1)) r h)
            · replace h := (cnd_f h1401).trans h
              obtain ⟨l1403, e1404, h⟩ := bnd_some h
              have g1405 := rd_app (rd_msK (H := [(.blk 10 (List.map c_GEdit [] ++ [List.replicate 10 AV.undef])), (.blk 10 (List.map c_GEdit l1225)), (.blk 10 [[(.lit (.int .i64 x1320.Kind)), (.lit (.int .i64 x1320.ID)), (.lit (.int .i64 x1320.A)), (.lit (.int .i64 x1320.B)), (.lit (.int .i64 x1320.C)), (.lit (.int .i64 x1320.At.X)), (.lit (.int .i64 x1320.At.Y)), (.sl false (List.map c_GPoint x1320.Via)), (.lit (.string x1320.Name)), (.sl false (List.map c_i64 x1320.Parts))]]), (.blk 10 [[(.lit (.int .i64 v1394.1.Kind)), (.lit (.int .i64 v1394.1.ID)), (.lit (.int .i64 v1394.1.A)), (.lit (.int .i64 v1394.1.B)), (.lit (.int .i64 v1394.1.C)), (.lit (.int .i64 v1394.1.At.X)), (.lit (.int .i64 v1394.1.At.Y)), (.sl false (List.map c_GPoint v1394.1.Via)), (.lit (.string v1394.1.Name)), (.sl false (List.map c_i64 v1394.1.Parts))]])]) (id := 1) (s := 10) (c := c_GEdit) (l := l1225) (k := (Int.toNat (IntKind.i64.wrap (((v1373 : Nat) : Int) - 1)))) rfl) (app_n (fl := 0) (H := [(.blk 10 (List.map c_GEdit [] ++ [List.replicate 10 AV.undef])), (.blk 10 (List.map c_GEdit l1225)), (.blk 10 [[(.lit (.int .i64 x1320.Kind)), (.lit (.int .i64 x1320.ID)), (.lit (.int .i64 x1320.A)), (.lit (.int .i64 x1320.B)), (.lit (.int .i64 x1320.C)), (.lit (.int .i64 x1320.At.X)), (.lit (.int .i64 x1320.At.Y)), (.sl false (List.map c_GPoint x1320.Via)), (.lit (.string x1320.Name)), (.sl false (List.map c_i64 x1320.Parts))]]), (.blk 10 [[(.lit (.int .i64 v1394.1.Kind)), (.lit (.int .i64 v1394.1.ID)), (.lit (.int .i64 v1394.1.A)), (.lit (.int .i64 v1394.1.B)), (.lit (.int .i64 v1394.1.C)), (.lit (.int .i64 v1394.1.At.X)), (.lit (.int .i64 v1394.1.At.Y)), (.sl false (List.map c_GPoint v1394.1.Via)), (.lit (.string v1394.1.Name)), (.sl false (List.map c_i64 v1394.1.Parts))]])]) (s := 10) (bytes := 120) (c := c_GEdit) (x := (.sl true [])) e1404 h1401 c_GEdit_len (by omega) (by omega) (.inr rfl))
              obtain ⟨l1406, e1407, h⟩ := bnd_some h
              have g1408 := app_ms (fl := 0) (H := [(.blk 10 (List.map c_GEdit [] ++ [List.replicate 10 AV.undef])), (.blk 10 (List.map c_GEdit l1225)), (.blk 10 [[(.lit (.int .i64 x1320.Kind)), (.lit (.int .i64 x1320.ID)), (.lit (.int .i64 x1320.A)), (.lit (.int .i64 x1320.B)), (.lit (.int .i64 x1320.C)), (.lit (.int .i64 x1320.At.X)), (.lit (.int .i64 x1320.At.Y)), (.sl false (List.map c_GPoint x1320.Via)), (.lit (.string x1320.Name)), (.sl false (List.map c_i64 x1320.Parts))]]), (.blk 10 [[(.lit (.int .i64 v1394.1.Kind)), (.lit (.int .i64 v1394.1.ID)), (.lit (.int .i64 v1394.1.A)), (.lit (.int .i64 v1394.1.B)), (.lit (.int .i64 v1394.1.C)), (.lit (.int .i64 v1394.1.At.X)), (.lit (.int .i64 v1394.1.At.Y)), (.sl false (List.map c_GPoint v1394.1.Via)), (.lit (.string v1394.1.Name)), (.sl false (List.map c_i64 v1394.1.Parts))]]), (.blk 10 (List.map c_GEdit l1403))]) (id := 4) (s := 10) (bytes := 120) (c := c_GEdit) (l := l1403) e1407 rfl c_GEdit_len (by omega) (by omega) (by omega)
              exact (congrArg (maskV [false, false, false, true] [false, false, true] 3 0 1) (next_mV (live := [true, false, false, true, true]) (t := 3) (st' := f4_L0_S a1121 l1406 l1406.length (IntKind.i64.wrap (i1227 + 1))) ⟨[(11, (.lit (.int .i64 ((a1121.length : Nat) : Int))), none), (12, (.lit (.bool true)), none), (17, (.rptr [(.lit (.int .i64 x1320.Kind)), (.lit (.int .i64 x1320.ID)), (.lit (.int .i64 x1320.A)), (.lit (.int .i64 x1320.B)), (.lit (.int .i64 x1320.C)), (.lit (.int .i64 x1320.At.X)), (.lit (.int .i64 x1320.At.Y)), (.sl false (List.map c_GPoint x1320.Via)), (.lit (.string x1320.Name)), (.sl false (List.map c_i64 x1320.Parts))]), none), (39, (.lit (.bool false)), none), (49, (.ptr 1 l1225.length (0 + Int.toNat (IntKind.i64.wrap (((v1373 : Nat) : Int) - 1))) 0), none), (50, (.agg [(.lit (.int .i64 x1380.Kind)), (.lit (.int .i64 x1380.ID)), (.lit (.int .i64 x1380.A)), (.lit (.int .i64 x1380.B)), (.lit (.int .i64 x1380.C)), (.lit (.int .i64 x1380.At.X)), (.lit (.int .i64 x1380.At.Y)), (.sl false (List.map c_GPoint x1380.Via)), (.lit (.string x1380.Name)), (.sl false (List.map c_i64 x1380.Parts))]), none), (52, (.lit (.bool false)), none), (59, (.ptr 1 l1225.length (0 + Int.toNat (IntKind.i64.wrap (((v1373 : Nat) : Int) - 1))) 0), none), (60, (.agg [(.lit (.int .i64 x1380.Kind)), (.lit (.int .i64 x1380.ID)), (.lit (.int .i64 x1380.A)), (.lit (.int .i64 x1380.B)), (.lit (.int .i64 x1380.C)), (.lit (.int .i64 x1380.At.X)), (.lit (.int .i64 x1380.At.Y)), (.sl false (List.map c_GPoint x1380.Via)), (.lit (.string x1380.Name)), (.sl false (List.map c_i64 x1380.Parts))]), none), (62, (.tup [(.agg [(.lit (.int .i64 v1394.1.Kind)), (.lit (.int .i64 v1394.1.ID)), (.lit (.int .i64 v1394.1.A)), (.lit (.int .i64 v1394.1.B)), (.lit (.int .i64 v1394.1.C)), (.lit (.int .i64 v1394.1.At.X)), (.lit (.int .i64 v1394.1.At.Y)), (.sl false (List.map c_GPoint v1394.1.Via)), (.lit (.string v1394.1.Name)), (.sl false (List.map c_i64 v1394.1.Parts))]), (.lit (.bool true))]), none), (69, (.ms 1 l1225.length 0 (Int.toNat (IntKind.i64.wrap (((v1373 : Nat) : Int) - 1)))), none), (70, (.ms 4 l1403.length 0 l1403.length), (some [(.blk 10 (List.map c_GEdit [] ++ [List.replicate 10 AV.undef])), (.blk 10 (List.map c_GEdit l1225)), (.blk 10 [[(.lit (.int .i64 x1320.Kind)), (.lit (.int .i64 x1320.ID)), (.lit (.int .i64 x1320.A)), (.lit (.int .i64 x1320.B)), (.lit (.int .i64 x1320.C)), (.lit (.int .i64 x1320.At.X)), (.lit (.int .i64 x1320.At.Y)), (.sl false (List.map c_GPoint x1320.Via)), (.lit (.string x1320.Name)), (.sl false (List.map c_i64 x1320.Parts))]]), (.blk 10 [[(.lit (.int .i64 v1394.1.Kind)), (.lit (.int .i64 v1394.1.ID)), (.lit (.int .i64 v1394.1.A)), (.lit (.int .i64 v1394.1.B)), (.lit (.int .i64 v1394.1.C)), (.lit (.int .i64 v1394.1.At.X)), (.lit (.int .i64 v1394.1.At.Y)), (.sl false (List.map c_GPoint v1394.1.Via)), (.lit (.string v1394.1.Name)), (.sl false (List.map c_i64 v1394.1.Parts))]]), (.blk 10 (List.map c_GEdit l1403))])), (73, (.ms 4 l1406.length 0 l1406.length), (some [(.blk 10 (List.map c_GEdit [] ++ [List.replicate 10 AV.undef])), (.blk 10 (List.map c_GEdit l1225)), (.blk 10 [[(.lit (.int .i64 x1320.Kind)), (.lit (.int .i64 x1320.ID)), (.lit (.int .i64 x1320.A)), (.lit (.int .i64 x1320.B)), (.lit (.int .i64 x1320.C)), (.lit (.int .i64 x1320.At.X)), (.lit (.int .i64 x1320.At.Y)), (.sl false (List.map c_GPoint x1320.Via)), (.lit (.string x1320.Name)), (.sl false (List.map c_i64 x1320.Parts))]]), (.blk 10 [[(.lit (.int .i64 v1394.1.Kind)), (.lit (.int .i64 v1394.1.ID)), (.lit (.int .i64 v1394.1.A)), (.lit (.int .i64 v1394.1.B)), (.lit (.int .i64 v1394.1.C)), (.lit (.int .i64 v1394.1.At.X)), (.lit (.int .i64 v1394.1.At.Y)), (.sl false (List.map c_GPoint v1394.1.Via)), (.lit (.string v1394.1.Name)), (.sl false (List.map c_i64 v1394.1.Parts))]]), (.blk 10 (List.map c_GEdit l1406))]))], []⟩ [((.exit 2), f4_L1_E0 a1121 l1225 i1227 x1320 v1373)] [none, none] rfl (ps := [PropOf g1408, PropOf g1405, PropOf g1400, PropOf g1397, PropOf g1393, PropOf g1392, PropOf g1391, PropOf g1383, PropOf g1382, PropOf g1379, PropOf g1372, PropOf g1370, PropOf g1322, PropOf g1319, PropOf g1317]) (by kernel_rfl) ⟨g1408, g1405, g1400, g1397, g1393, g1392, g1391, g1383, g1382, g1379, g1372, g1370, g1322, g1319, g1317, trivial⟩ (by simp [cleanX, cleanQ, cleanObj, clean1, clean2, f4_L0_S, clean_map (c_GEdit_clean 1), c_GEdit_clean 1]) rfl)).trans (f4_L0_ok n a1121 m l1406 l1406.length (IntKind.i64.wrap (i1227 + 1)) r h)
          · replace h := (cnd_f h1396).trans h
            have g1409 := by have q := f18_ok n x1380 x1320 _ e1395; rw [h1396] at q; exact q
            rcases Bool.eq_false_or_eq_true (List.isEmpty (List.take v1373 l1225)) with h1410 | h1410
            · replace h := (cnd_t h1410).trans h
              have g1411 := rd_app (rd_msK (H := [(.blk 10 (List.map c_GEdit [] ++ [List.replicate 10 AV.undef])), (.blk 10 (List.map c_GEdit l1225)), (.blk 10 [[(.lit (.int .i64 x1320.Kind)), (.lit (.int .i64 x1320.ID)), (.lit (.int .i64 x1320.A)), (.lit (.int .i64 x1320.B)), (.lit (.int .i64 x1320.C)), (.lit (.int .i64 x1320.At.X)), (.lit (.int .i64 x1320.At.Y)), (.sl false (List.map c_GPoint x1320.Via)), (.lit (.string x1320.Name)), (.sl false (List.map c_i64 x1320.Parts))]]), (.blk 10 [[(.lit (.int .i64 v1394.1.Kind)), (.lit (.int .i64 v1394.1.ID)), (.lit (.int .i64 v1394.1.A)), (.lit (.int .i64 v1394.1.B)), (.lit (.int .i64 v1394.1.C)), (.lit (.int .i64 v1394.1.At.X)), (.lit (.int .i64 v1394.1.At.Y)), (.sl false (List.map c_GPoint v1394.1.Via)), (.lit (.string v1394.1.Name)), (.sl false (List.map c_i64 v1394.1.Parts))]])]) (id := 1) (s := 10) (c := c_GEdit) (l := l1225) (k := v1373) rfl) (app_e (fl := 0) (H := [(.blk 10 (List.map c_GEdit [] ++ [List.replicate 10 AV.undef])), (.blk 10 (List.map c_GEdit l1225)), (.blk 10 [[(.lit (.int .i64 x1320.Kind)), (.lit (.int .i64 x1320.ID)), (.lit (.int .i64 x1320.A)), (.lit (.int .i64 x1320.B)), (.lit (.int .i64 x1320.C)), (.lit (.int .i64 x1320.At.X)), (.lit (.int .i64 x1320.At.Y)), (.sl false (List.map c_GPoint x1320.Via)), (.lit (.string x1320.Name)), (.sl false (List.map c_i64 x1320.Parts))]]), (.blk 10 [[(.lit (.int .i64 v1394.1.Kind)), (.lit (.int .i64 v1394.1.ID)), (.lit (.int .i64 v1394.1.A)), (.lit (.int .i64 v1394.1.B)), (.lit (.int .i64 v1394.1.C)), (.lit (.int .i64 v1394.1.At.X)), (.lit (.int .i64 v1394.1.At.Y)), (.sl false (List.map c_GPoint v1394.1.Via)), (.lit (.string v1394.1.Name)), (.sl false (List.map c_i64 v1394.1.Parts))]])]) (s := 10) (bytes := 120) (c := c_GEdit) (x := (.sl true [])) h1410 c_GEdit_len (by omega) (.inr rfl))
              exact (congrArg (maskV [false, false, false, true] [false, false, true] 3 0 1) (next_mV (live := [true, false, false, true, true]) (t := 3) (st' := f4_L0_S a1121 [x1320] 1 (IntKind.i64.wrap (i1227 + 1))) ⟨[(11, (.lit (.int .i64 ((a1121.length : Nat) : Int))), none), (12, (.lit (.bool true)), none), (17, (.rptr [(.lit (.int .i64 x1320.Kind)), (.lit (.int .i64 x1320.ID)), (.lit (.int .i64 x1320.A)), (.lit (.int .i64 x1320.B)), (.lit (.int .i64 x1320.C)), (.lit (.int .i64 x1320.At.X)), (.lit (.int .i64 x1320.At.Y)), (.sl false (List.map c_GPoint x1320.Via)), (.lit (.string x1320.Name)), (.sl false (List.map c_i64 x1320.Parts))]), none), (39, (.lit (.bool false)), none), (49, (.ptr 1 l1225.length (0 + Int.toNat (IntKind.i64.wrap (((v1373 : Nat) : Int) - 1))) 0), none), (50, (.agg [(.lit (.int .i64 x1380.Kind)), (.lit (.int .i64 x1380.ID)), (.lit (.int .i64 x1380.A)), (.lit (.int .i64 x1380.B)), (.lit (.int .i64 x1380.C)), (.lit (.int .i64 x1380.At.X)), (.lit (.int .i64 x1380.At.Y)), (.sl false (List.map c_GPoint x1380.Via)), (.lit (.string x1380.Name)), (.sl false (List.map c_i64 x1380.Parts))]), none), (52, (.lit (.bool false)), none), (59, (.ptr 1 l1225.length (0 + Int.toNat (IntKind.i64.wrap (((v1373 : Nat) : Int) - 1))) 0), none), (60, (.agg [(.lit (.int .i64 x1380.Kind)), (.lit (.int .i64 x1380.ID)), (.lit (.int .i64 x1380.A)), (.lit (.int .i64 x1380.B)), (.lit (.int .i64 x1380.C)), (.lit (.int .i64 x1380.At.X)), (.lit (.int .i64 x1380.At.Y)), (.sl false (List.map c_GPoint x1380.Via)), (.lit (.string x1380.Name)), (.sl false (List.map c_i64 x1380.Parts))]), none), (62, (.tup [(.agg [(.lit (.int .i64 v1394.1.Kind)), (.lit (.int .i64 v1394.1.ID)), (.lit (.int .i64 v1394.1.A)), (.lit (.int .i64 v1394.1.B)), (.lit (.int .i64 v1394.1.C)), (.lit (.int .i64 v1394.1.At.X)), (.lit (.int .i64 v1394.1.At.Y)), (.sl false (List.map c_GPoint v1394.1.Via)), (.lit (.string v1394.1.Name)), (.sl false (List.map c_i64 v1394.1.Parts))]), (.lit (.bool false))]), none), (76, (.sl true []), none)], []⟩ [((.exit 2), f4_L1_E0 a1121 l1225 i1227 x1320 v1373)] [none, none] rfl (ps := [PropOf g1411, PropOf g1409, PropOf g1393, PropOf g1392, PropOf g1391, PropOf g1383, PropOf g1382, PropOf g1379, PropOf g1372, PropOf g1370, PropOf g1322, PropOf g1319, PropOf g1317]) (by kernel_rfl) ⟨g1411, g1409, g1393, g1392, g1391, g1383, g1382, g1379, g1372, g1370, g1322, g1319, g1317, trivial⟩ (by simp [cleanX, cleanQ, cleanObj, clean1, clean2, f4_L0_S, clean_map (c_GEdit_clean 1), c_GEdit_clean 1]) rfl)).trans (f4_L0_ok n a1121 m [x1320] 1 (IntKind.i64.wrap (i1227 + 1)) r h)
            · replace h := (cnd_f h1410).trans h
              obtain ⟨l1412, e1413, h⟩ := bnd_some h
              have g1414 := rd_app (rd_msK (H := [(.blk 10 (List.map c_GEdit [] ++ [List.replicate 10 AV.undef])), (.blk 10 (List.map c_GEdit l1225)), (.blk 10 [[(.lit (.int .i64 x1320.Kind)), (.lit (.int .i64 x1320.ID)), (.lit (.int .i64 x1320.A)), (.lit (.int .i64 x1320.B)), (.lit (.int .i64 x1320.C)), (.lit (.int .i64 x1320.At.X)), (.lit (.int .i64 x1320.At.Y)), (.sl false (List.map c_GPoint x1320.Via)), (.lit (.string x1320.Name)), (.sl false (List.map c_i64 x1320.Parts))]]), (.blk 10 [[(.lit (.int .i64 v1394.1.Kind)), (.lit (.int .i64 v1394.1.ID)), (.lit (.int .i64 v1394.1.A)), (.lit (.int .i64 v1394.1.B)), (.lit (.int .i64 v1394.1.C)), (.lit (.int .i64 v1394.1.At.X)), (.lit (.int .i64 v1394.1.At.Y)), (.sl false (List.map c_GPoint v1394.1.Via)), (.lit (.string v1394.1.Name)), (.sl false (List.map c_i64 v1394.1.Parts))]])]) (id := 1) (s := 10) (c := c_GEdit) (l := l1225) (k := v1373) rfl) (app_n (fl := 0) (H := [(.blk 10 (List.map c_GEdit [] ++ [List.replicate 10 AV.undef])), (.blk 10 (List.map c_GEdit l1225)), (.blk 10 [[(.lit (.int .i64 x1320.Kind)), (.lit (.int .i64 x1320.ID)), (.lit (.int .i64 x1320.A)), (.lit (.int .i64 x1320.B)), (.lit (.int .i64 x1320.C)), (.lit (.int .i64 x1320.At.X)), (.lit (.int .i64 x1320.At.Y)), (.sl false (List.map c_GPoint x1320.Via)), (.lit (.string x1320.Name)), (.sl false (List.map c_i64 x1320.Parts))]]), (.blk 10 [[(.lit (.int .i64 v1394.1.Kind)), (.lit (.int .i64 v1394.1.ID)), (.lit (.int .i64 v1394.1.A)), (.lit (.int .i64 v1394.1.B)), (.lit (.int .i64 v1394.1.C)), (.lit (.int .i64 v1394.1.At.X)), (.lit (.int .i64 v1394.1.At.Y)), (.sl false (List.map c_GPoint v1394.1.Via)), (.lit (.string v1394.1.Name)), (.sl false (List.map c_i64 v1394.1.Parts))]])]) (s := 10) (bytes := 120) (c := c_GEdit) (x := (.sl true [])) e1413 h1410 c_GEdit_len (by omega) (by omega) (.inr rfl))
              obtain ⟨l1415, e1416, h⟩ := bnd_some h
              have g1417 := app_ms (fl := 0) (H := [(.blk 10 (List.map c_GEdit [] ++ [List.replicate 10 AV.undef])), (.blk 10 (List.map c_GEdit l1225)), (.blk 10 [[(.lit (.int .i64 x1320.Kind)), (.lit (.int .i64 x1320.ID)), (.lit (.int .i64 x1320.A)), (.lit (.int .i64 x1320.B)), (.lit (.int .i64 x1320.C)), (.lit (.int .i64 x1320.At.X)), (.lit (.int .i64 x1320.At.Y)), (.sl false (List.map c_GPoint x1320.Via)), (.lit (.string x1320.Name)), (.sl false (List.map c_i64 x1320.Parts))]]), (.blk 10 [[(.lit (.int .i64 v1394.1.Kind)), (.lit (.int .i64 v1394.1.ID)), (.lit (.int .i64 v1394.1.A)), (.lit (.int .i64 v1394.1.B)), (.lit (.int .i64 v1394.1.C)), (.lit (.int .i64 v1394.1.At.X)), (.lit (.int .i64 v1394.1.At.Y)), (.sl false (List.map c_GPoint v1394.1.Via)), (.lit (.string v1394.1.Name)), (.sl false (List.map c_i64 v1394.1.Parts))]]), (.blk 10 (List.map c_GEdit l1412))]) (id := 4) (s := 10) (bytes := 120) (c := c_GEdit) (l := l1412) e1416 rfl c_GEdit_len (by omega) (by omega) (by omega)
              exact (congrArg (maskV [false, false, false, true] [false, false, true] 3 0 1) (next_mV (live := [true, false, false, true, true]) (t := 3) (st' := f4_L0_S a1121 l1415 l1415.length (IntKind.i64.wrap (i1227 + 1))) ⟨[(11, (.lit (.int .i64 ((a1121.length : Nat) : Int))), none), (12, (.lit (.bool true)), none), (17, (.rptr [(.lit (.int .i64 x1320.Kind)), (.lit (.int .i64 x1320.ID)), (.lit (.int .i64 x1320.A)), (.lit (.int .i64 x1320.B)), (.lit (.int .i64 x1320.C)), (.lit (.int .i64 x1320.At.X)), (.lit (.int .i64 x1320.At.Y)), (.sl false (List.map c_GPoint x1320.Via)), (.lit (.string x1320.Name)), (.sl false (List.map c_i64 x1320.Parts))]), none), (39, (.lit (.bool false)), none), (49, (.ptr 1 l1225.length (0 + Int.toNat (IntKind.i64.wrap (((v1373 : Nat) : Int) - 1))) 0), none), (50, (.agg [(.lit (.int .i64 x1380.Kind)), (.lit (.int .i64 x1380.ID)), (.lit (.int .i64 x1380.A)), (.lit (.int .i64 x1380.B)), (.lit (.int .i64 x1380.C)), (.lit (.int .i64 x1380.At.X)), (.lit (.int .i64 x1380.At.Y)), (.sl false (List.map c_GPoint x1380.Via)), (.lit (.string x1380.Name)), (.sl false (List.map c_i64 x1380.Parts))]), none), (52, (.lit (.bool false)), none), (59, (.ptr 1 l1225.length (0 + Int.toNat (IntKind.i64.wrap (((v1373 : Nat) : Int) - 1))) 0), none), (60, (.agg [(.lit (.int .i64 x1380.Kind)), (.lit (.int .i64 x1380.ID)), (.lit (.int .i64 x1380.A)), (.lit (.int .i64 x1380.B)), (.lit (.int .i64 x1380.C)), (.lit (.int .i64 x1380.At.X)), (.lit (.int .i64 x1380.At.Y)), (.sl false (List.map c_GPoint x1380.Via)), (.lit (.string x1380.Name)), (.sl false (List.map c_i64 x1380.Parts))]), none), (62, (.tup [(.agg [(.lit (.int .i64 v1394.1.Kind)), (.lit (.int .i64 v1394.1.ID)), (.lit (.int .i64 v1394.1.A)), (.lit (.int .i64 v1394.1.B)), (.lit (.int .i64 v1394.1.C)), (.lit (.int .i64 v1394.1.At.X)), (.lit (.int .i64 v1394.1.At.Y)), (.sl false (List.map c_GPoint v1394.1.Via)), (.lit (.string v1394.1.Name)), (.sl false (List.map c_i64 v1394.1.Parts))]), (.lit (.bool false))]), none), (76, (.ms 4 l1412.length 0 l1412.length), (some [(.blk 10 (List.map c_GEdit [] ++ [List.replicate 10 AV.undef])), (.blk 10 (List.map c_GEdit l1225)), (.blk 10 [[(.lit (.int .i64 x1320.Kind)), (.lit (.int .i64 x1320.ID)), (.lit (.int .i64 x1320.A)), (.lit (.int .i64 x1320.B)), (.lit (.int .i64 x1320.C)), (.lit (.int .i64 x1320.At.X)), (.lit (.int .i64 x1320.At.Y)), (.sl false (List.map c_GPoint x1320.Via)), (.lit (.string x1320.Name)), (.sl false (List.map c_i64 x1320.Parts))]]), (.blk 10 [[(.lit (.int .i64 v1394.1.Kind)), (.lit (.int .i64 v1394.1.ID)), (.lit (.int .i64 v1394.1.A)), (.lit (.int .i64 v1394.1.B)), (.lit (.int .i64 v1394.1.C)), (.lit (.int .i64 v1394.1.At.X)), (.lit (.int .i64 v1394.1.At.Y)), (.sl false (List.map c_GPoint v1394.1.Via)), (.lit (.string v1394.1.Name)), (.sl false (List.map c_i64 v1394.1.Parts))]]), (.blk 10 (List.map c_GEdit l1412))])), (79, (.ms 4 l1415.length 0 l1415.length), (some [(.blk 10 (List.map c_GEdit [] ++ [List.replicate 10 AV.undef])), (.blk 10 (List.map c_GEdit l1225)), (.blk 10 [[(.lit (.int .i64 x1320.Kind)), (.lit (.int .i64 x1320.ID)), (.lit (.int .i64 x1320.A)), (.lit (.int .i64 x1320.B)), (.lit (.int .i64 x1320.C)), (.lit (.int .i64 x1320.At.X)), (.lit (.int .i64 x1320.At.Y)), (.sl false (List.map c_GPoint x1320.Via)), (.lit (.string x1320.Name)), (.sl false (List.map c_i64 x1320.Parts))]]), (.blk 10 [[(.lit (.int .i64 v1394.1.Kind)), (.lit (.int .i64 v1394.1.ID)), (.lit (.int .i64 v1394.1.A)), (.lit (.int .i64 v1394.1.B)), (.lit (.int .i64 v1394.1.C)), (.lit (.int .i64 v1394.1.At.X)), (.lit (.int .i64 v1394.1.At.Y)), (.sl false (List.map c_GPoint v1394.1.Via)), (.lit (.string v1394.1.Name)), (.sl false (List.map c_i64 v1394.1.Parts))]]), (.blk 10 (List.map c_GEdit l1415))]))], []⟩ [((.exit 2), f4_L1_E0 a1121 l1225 i1227 x1320 v1373)] [none, none] rfl (ps := [PropOf g1417, PropOf g1414, PropOf g1409, PropOf g1393, PropOf g1392, PropOf g1391, PropOf g1383, PropOf g1382, PropOf g1379, PropOf g1372, PropOf g1370, PropOf g1322, PropOf g1319, PropOf g1317]) (by kernel_rfl) ⟨g1417, g1414, g1409, g1393, g1392, g1391, g1383, g1382, g1379, g1372, g1370, g1322, g1319, g1317, trivial⟩ (by simp [cleanX, cleanQ, cleanObj, clean1, clean2, f4_L0_S, clean_map (c_GEdit_clean 1), c_GEdit_clean 1]) rfl)).trans (f4_L0_ok n a1121 m l1415 l1415.length (IntKind.i64.wrap (i1227 + 1)) r h)
    · replace h := (cnd_f h1318).trans h
      have g1418 := bool_eq h1318
      have hr := Option.some.inj h
      subst hr
      exact last_mV (live := [true, false, false, true, true]) (t := 3) (st' := f4_L0_E0 a1121 l1225 k1226) ⟨[(11, (.lit (.int .i64 ((a1121.length : Nat) : Int))), none), (12, (.lit (.bool false)), none)], []⟩ [] [] rfl (ps := [PropOf g1418, PropOf g1317]) (by kernel_rfl) ⟨g1418, g1317, trivial⟩ (by simp [cleanX, cleanQ, cleanObj, clean1, clean2, f4_L0_E0, clean_map (c_GEdit_clean 1), c_GEdit_clean 1])
def f4 : Nat → (List GEdit) → Option (List GEdit)
  | 0, _ => none
  | n + 1, a1121 => (bnd (f4_L0 n a1121 n [] 0 0) fun v1423 => (some (List.take v1423.2 v1423.1)))
theorem f4_ok (n : Nat) (a1121 : (List GEdit)) (r : (List GEdit)) (h : f4 n a1121 = some r) : pv PP T n 4 [(.sl false (List.map c_GEdit a1121))] = some (.sl false (List.map c_GEdit r)) := by
  cases n with
  | zero => cases h
  | succ n =>
    rw [f4] at h
    have g1420 := own_ok (fl := 0) (t := 3) (id := 0) (s := 10) (k := 0) (tm := [(.sl false (List.map c_GEdit a1121)), (.lit undefV), (.sl false []), (.ms 0 0 0 0), (.lit (.int .i64 0)), (.lit undefV), (.lit undefV), (.lit undefV), (.lit undefV), (.lit undefV), (.lit undefV), (.lit undefV), (.lit undefV), (.lit undefV), (.lit undefV), (.lit undefV), (.lit undefV), (.lit undefV), (.lit undefV), (.lit undefV), (.lit undefV), (.lit undefV), (.lit undefV), (.lit undefV), (.lit undefV), (.lit undefV), (.lit undefV), (.lit undefV), (.lit undefV), (.lit undefV), (.lit undefV), (.lit undefV), (.lit undefV), (.lit undefV), (.lit undefV), (.lit undefV), (.lit undefV), (.lit undefV), (.lit undefV), (.lit undefV), (.lit undefV), (.lit undefV), (.lit undefV), (.lit undefV), (.lit undefV), (.lit undefV), (.lit undefV), (.lit undefV), (.lit undefV), (.lit undefV), (.lit undefV), (.lit undefV), (.lit undefV), (.lit undefV), (.lit undefV), (.lit undefV), (.lit undefV), (.lit undefV), (.lit undefV), (.lit undefV), (.lit undefV), (.lit undefV), (.lit undefV), (.lit undefV), (.lit undefV), (.lit undefV), (.lit undefV), (.lit undefV), (.lit undefV), (.lit undefV), (.lit undefV), (.lit undefV), (.lit undefV), (.lit undefV), (.lit undefV), (.lit undefV), (.lit undefV), (.lit undefV), (.lit undefV), (.lit undefV), (.lit undefV)]) (H := [(.blk 10 (List.map c_GEdit []))]) (l := ([] : List GEdit)) (c := c_GEdit) rfl (by omega) rfl
    have g1419 : cleanQ true 0 1 [(.blk 10 (List.map c_GEdit [] ++ [List.replicate 10 AV.undef])), (.blk 10 (List.map c_GEdit []))] := (by simp [cleanX, cleanQ, cleanObj, clean1, clean2, clean_map (c_GEdit_clean 1), c_GEdit_clean 1])
    obtain ⟨v1423, e1421, h⟩ := bnd_some h
    have g1422 := f4_L0_ok n a1121 n [] 0 0 _ e1421
    have hr := Option.some.inj h
    subst hr
    refine pv_evF (evF_o (F := F4) ⟨[], []⟩ [(.normal, ⟨[(.sl false (List.map c_GEdit a1121)), (.lit undefV), (.sl false []), (.ms 1 0 0 0), (.lit (.int .i64 0)), (.lit undefV), (.lit undefV), (.lit undefV), (.lit undefV), (.lit undefV), (.lit undefV), (.lit undefV), (.lit undefV), (.lit undefV), (.lit undefV), (.lit undefV), (.lit undefV), (.lit undefV), (.lit undefV), (.lit undefV), (.lit undefV), (.lit undefV), (.lit undefV), (.lit undefV), (.lit undefV), (.lit undefV), (.lit undefV), (.lit undefV), (.lit undefV), (.lit undefV), (.lit undefV), (.lit undefV), (.lit undefV), (.lit undefV), (.lit undefV), (.lit undefV), (.lit undefV), (.lit undefV), (.lit undefV), (.lit undefV), (.lit undefV), (.lit undefV), (.lit undefV), (.lit undefV), (.lit undefV), (.lit undefV), (.lit undefV), (.lit undefV), (.lit undefV), (.lit undefV), (.lit undefV), (.lit undefV), (.lit undefV), (.lit undefV), (.lit undefV), (.lit undefV), (.lit undefV), (.lit undefV), (.lit undefV), (.lit undefV), (.lit undefV), (.lit undefV), (.lit undefV), (.lit undefV), (.lit undefV), (.lit undefV), (.lit undefV), (.lit undefV), (.lit undefV), (.lit undefV), (.lit undefV), (.lit undefV), (.lit undefV), (.lit undefV), (.lit undefV), (.lit undefV), (.lit undefV), (.lit undefV), (.lit undefV), (.lit undefV), (.lit undefV)], [(.blk 10 (List.map c_GEdit [] ++ [List.replicate 10 AV.undef])), (.blk 10 (List.map c_GEdit []))]⟩), ((.exit 0), f4_L0_E0 a1121 v1423.1 v1423.2)] [] rfl (r := (.ms 1 v1423.1.length 0 v1423.2)) (H' := [(.blk 10 (List.map c_GEdit [] ++ [List.replicate 10 AV.undef])), (.blk 10 (List.map c_GEdit v1423.1))]) (ps := [PropOf g1422, PropOf g1419, PropOf g1420]) (by kernel_rfl) ⟨g1422, g1419, g1420, trivial⟩) ?_
    show (seal1 [(.blk 10 (List.map c_GEdit [] ++ [List.replicate 10 AV.undef])), (.blk 10 (List.map c_GEdit v1423.1))] 0 (.ms 1 v1423.1.length 0 v1423.2)) = _
    rw [seal1_msK (H := [(.blk 10 (List.map c_GEdit [] ++ [List.replicate 10 AV.undef])), (.blk 10 (List.map c_GEdit v1423.1))]) (id := 1) (s := 10) (c := c_GEdit) (l := v1423.1) (k := v1423.2) rfl (c_GEdit_seal _ _ _)]
    first | done | rfl
end Go.Proofs.YtanonfpdkoijnaaGreatDoor.Av
