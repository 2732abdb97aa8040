/- A part of the proof of TxnChecksCardSaid: an evaluator of the program, proved sound, and what it says. -/
import Derived.Test.YtmflphfmefakfaaGreatDoorVtTl1
set_option linter.all false
namespace Go.Proofs.YtmflphfmefakfaaGreatDoor.Av
open Go
set_option linter.unusedVariables false
set_option linter.unusedSimpArgs false
theorem f37_ok (n : Nat) (a2873 : GEdit) (r : Bool) (h : f37 n a2873 = some r) : pv PP T n 37 [(.agg (c_GEdit a2873))] = some (bv r) := by
 cases n with
 | zero => cases h
 | succ n =>
  rw [f37] at h
  obtain ⟨v2874, e2875, h⟩ := bnd_some h
  rcases cnd_or h with ⟨h2876, h⟩ | ⟨h2876, h⟩
  rotate_left
  ·have g3294 := by have q := f61_ok n a2873.ID _ e2875; rw [h2876] at q; exact q
   obtain rfl := si h
   exact pz F37 ⟨[ff 7], []⟩ (Z g3294 Z0)
  have g2877 := by have q := f61_ok n a2873.ID _ e2875; rw [h2876] at q; exact q
  rcases cnd_or h with ⟨h2878, h⟩ | ⟨h2878, h⟩
  ·have g2879 := bool_eq h2878
   obtain ⟨v2880, e2881, h⟩ := bnd_some h
   rcases cnd_or h with ⟨h2882, h⟩ | ⟨h2882, h⟩
   rotate_left
   ·have g2990 := by have q := f61_ok n a2873.A _ e2881; rw [h2882] at q; exact q
    obtain rfl := si h
    exact pz F37 ⟨[tt 7, tt 12, ff 16], []⟩ (W2 g2990 g2879 <| Z g2877 Z0)
   have g2883 := by have q := f61_ok n a2873.A _ e2881; rw [h2882] at q; exact q
   obtain ⟨v2884, e2885, h⟩ := bnd_some h
   rcases cnd_or h with ⟨h2886, h⟩ | ⟨h2886, h⟩
   rotate_left
   ·have g2989 := by have q := f61_ok n a2873.B _ e2885; rw [h2886] at q; exact q
    obtain rfl := si h
    exact pz F37 ⟨[tt 7, tt 12, tt 16, ff 21], []⟩ (W4 g2989 g2883 g2879 g2877 Z0)
   have g2887 := by have q := f61_ok n a2873.B _ e2885; rw [h2886] at q; exact q
   have h2888 : (a2873.Kind == 12) = false := by have q0 := eq_of_beq h2878; exact beq_eq_false_iff_ne.2 (by omega)
   have g2889 := bool_eq h2888
   rcases cnd_or h with ⟨h2890, h⟩ | ⟨h2890, h⟩
   ·have g2891 := bool_eq h2890
    obtain rfl := si h
    exact pz F37 ⟨[tt 7, tt 12, tt 16, tt 21, ff 29, tt 39], []⟩ (W4 g2891 g2889 g2887 g2883 <| W2 g2879 g2877 Z0)
   have g2892 := bool_eq h2890
   rcases cnd_or h with ⟨h2893, h⟩ | ⟨h2893, h⟩
   ·have g2894 := bool_eq h2893
    obtain rfl := si h
    exact pz F37 ⟨[tt 7, tt 12, tt 16, tt 21, ff 29, ff 39, tt 43], []⟩ (W4 g2894 g2892 g2889 g2887 <| W2 g2883 g2879 <| Z g2877 Z0)
   have g2895 := bool_eq h2893
   have h2896 : (a2873.Kind == 7) = false := by have q0 := eq_of_beq h2878; exact beq_eq_false_iff_ne.2 (by omega)
   have g2897 := bool_eq h2896
   have h2898 : (a2873.Kind == 10) = false := by have q0 := eq_of_beq h2878; exact beq_eq_false_iff_ne.2 (by omega)
   have g2899 := bool_eq h2898
   have g2937 : cleanQ false 0 1 [(.blk 10 [(c_GEdit a2873)])] := trivial
   rcases bnd2_some h with ⟨v2940, e2938, h⟩ | ⟨v2941, e2938, h⟩
   ·have g2939 := f37_L0_ok n a2873 n 0 _ e2938
    obtain rfl := si h
    exact pv_z (F := F37) ⟨[tt 7, tt 12, tt 16, tt 21, ff 29, ff 39, ff 43, ff 48, ff 52], []⟩ [(.ret, f37_L0_E0 a2873)] [] rfl (W8 g2939 g2937 g2899 g2897 g2895 g2892 g2889 g2887 <| W2 g2883 g2879 <| Z g2877 Z0) (by kernel_rfl)
   have g2939 := f37_L0_ok n a2873 n 0 _ e2938
   have g2979 : cleanQ false 0 1 [(.blk 10 [(c_GEdit a2873)])] := trivial
   rcases bnd2_some h with ⟨v2982, e2980, h⟩ | ⟨v2983, e2980, h⟩
   ·have g2981 := f37_L1_ok n a2873 n 0 _ e2980
    obtain rfl := si h
    exact pv_z (F := F37) ⟨[tt 7, tt 12, tt 16, tt 21, ff 29, ff 39, ff 43, ff 48, ff 52], []⟩ [((.exit 0), f37_L0_E1 a2873), (.ret, f37_L1_E0 a2873)] [] rfl (W8 g2981 g2979 g2939 g2937 g2899 g2897 g2895 g2892 <| W4 g2889 g2887 g2883 g2879 <| Z g2877 Z0) (by kernel_rfl)
   have g2981 := f37_L1_ok n a2873 n 0 _ e2980
   obtain ⟨v2984, e2985, h⟩ := bnd_some h
   rcases cnd_or h with ⟨h2986, h⟩ | ⟨h2986, h⟩
   ·have g2987 := by have q := f62_ok n a2873.At _ e2985; rw [h2986] at q; exact q
    obtain rfl := si h
    exact pv_z (F := F37) ⟨[tt 7, tt 12, tt 16, tt 21, ff 29, ff 39, ff 43, ff 48, ff 52, tt 95], []⟩ [((.exit 0), f37_L0_E1 a2873), ((.exit 2), f37_L1_E1 a2873)] [] rfl (W8 g2987 g2981 g2979 g2939 g2937 g2899 g2897 g2895 <| W4 g2892 g2889 g2887 g2883 <| W2 g2879 g2877 Z0) (by kernel_rfl)
   have g2988 := by have q := f62_ok n a2873.At _ e2985; rw [h2986] at q; exact q
   obtain rfl := si h
   exact pv_z (F := F37) ⟨[tt 7, tt 12, tt 16, tt 21, ff 29, ff 39, ff 43, ff 48, ff 52, ff 95], []⟩ [((.exit 0), f37_L0_E1 a2873), ((.exit 2), f37_L1_E1 a2873)] [] rfl (W8 g2988 g2981 g2979 g2939 g2937 g2899 g2897 g2895 <| W4 g2892 g2889 g2887 g2883 <| W2 g2879 g2877 Z0) (by kernel_rfl)
  have g2991 := bool_eq h2878
  rcases cnd_or h with ⟨h2992, h⟩ | ⟨h2992, h⟩
  ·have g2993 := bool_eq h2992
   obtain ⟨v2994, e2995, h⟩ := bnd_some h
   rcases cnd_or h with ⟨h2996, h⟩ | ⟨h2996, h⟩
   rotate_left
   ·have g3073 := by have q := f61_ok n a2873.A _ e2995; rw [h2996] at q; exact q
    obtain rfl := si h
    exact pz F37 ⟨[tt 7, ff 12, tt 29, ff 33], []⟩ (W4 g3073 g2993 g2991 g2877 Z0)
   have g2997 := by have q := f61_ok n a2873.A _ e2995; rw [h2996] at q; exact q
   rcases cnd_or h with ⟨h2998, h⟩ | ⟨h2998, h⟩
   ·have g2999 := bool_eq h2998
    obtain rfl := si h
    exact pz F37 ⟨[tt 7, ff 12, tt 29, tt 33, tt 39], []⟩ (W4 g2999 g2997 g2993 g2991 <| Z g2877 Z0)
   have g3000 := bool_eq h2998
   rcases cnd_or h with ⟨h3001, h⟩ | ⟨h3001, h⟩
   ·have g3002 := bool_eq h3001
    obtain rfl := si h
    exact pz F37 ⟨[tt 7, ff 12, tt 29, tt 33, ff 39, tt 43], []⟩ (W4 g3002 g3000 g2997 g2993 <| W2 g2991 g2877 Z0)
   have g3003 := bool_eq h3001
   have h3004 : (a2873.Kind == 7) = false := by have q0 := eq_of_beq h2992; exact beq_eq_false_iff_ne.2 (by omega)
   have g3005 := bool_eq h3004
   have h3006 : (a2873.Kind == 10) = false := by have q0 := eq_of_beq h2992; exact beq_eq_false_iff_ne.2 (by omega)
   have g3007 := bool_eq h3006
   have g3033 : cleanQ false 0 1 [(.blk 10 [(c_GEdit a2873)])] := trivial
   rcases bnd2_some h with ⟨v3036, e3034, h⟩ | ⟨v3037, e3034, h⟩
   ·have g3035 := f37_L0_ok n a2873 n 0 _ e3034
    obtain rfl := si h
    exact pv_z (F := F37) ⟨[tt 7, ff 12, tt 29, tt 33, ff 39, ff 43, ff 48, ff 52], []⟩ [(.ret, f37_L0_E0 a2873)] [] rfl (W8 g3035 g3033 g3007 g3005 g3003 g3000 g2997 g2993 <| W2 g2991 g2877 Z0) (by kernel_rfl)
   have g3035 := f37_L0_ok n a2873 n 0 _ e3034
   have g3063 : cleanQ false 0 1 [(.blk 10 [(c_GEdit a2873)])] := trivial
   rcases bnd2_some h with ⟨v3066, e3064, h⟩ | ⟨v3067, e3064, h⟩
   ·have g3065 := f37_L1_ok n a2873 n 0 _ e3064
    obtain rfl := si h
    exact pv_z (F := F37) ⟨[tt 7, ff 12, tt 29, tt 33, ff 39, ff 43, ff 48, ff 52], []⟩ [((.exit 0), f37_L0_E1 a2873), (.ret, f37_L1_E0 a2873)] [] rfl (W8 g3065 g3063 g3035 g3033 g3007 g3005 g3003 g3000 <| W4 g2997 g2993 g2991 g2877 Z0) (by kernel_rfl)
   have g3065 := f37_L1_ok n a2873 n 0 _ e3064
   obtain ⟨v3068, e3069, h⟩ := bnd_some h
   rcases cnd_or h with ⟨h3070, h⟩ | ⟨h3070, h⟩
   ·have g3071 := by have q := f62_ok n a2873.At _ e3069; rw [h3070] at q; exact q
    obtain rfl := si h
    exact pv_z (F := F37) ⟨[tt 7, ff 12, tt 29, tt 33, ff 39, ff 43, ff 48, ff 52, tt 95], []⟩ [((.exit 0), f37_L0_E1 a2873), ((.exit 2), f37_L1_E1 a2873)] [] rfl (W8 g3071 g3065 g3063 g3035 g3033 g3007 g3005 g3003 <| W4 g3000 g2997 g2993 g2991 <| Z g2877 Z0) (by kernel_rfl)
   have g3072 := by have q := f62_ok n a2873.At _ e3069; rw [h3070] at q; exact q
   obtain rfl := si h
   exact pv_z (F := F37) ⟨[tt 7, ff 12, tt 29, tt 33, ff 39, ff 43, ff 48, ff 52, ff 95], []⟩ [((.exit 0), f37_L0_E1 a2873), ((.exit 2), f37_L1_E1 a2873)] [] rfl (W8 g3072 g3065 g3063 g3035 g3033 g3007 g3005 g3003 <| W4 g3000 g2997 g2993 g2991 <| Z g2877 Z0) (by kernel_rfl)
  have g3074 := bool_eq h2992
  rcases cnd_or h with ⟨h3075, h⟩ | ⟨h3075, h⟩
  ·have g3076 := bool_eq h3075
   obtain rfl := si h
   exact pz F37 ⟨[tt 7, ff 12, ff 29, tt 39], []⟩ (W4 g3076 g3074 g2991 g2877 Z0)
  have g3077 := bool_eq h3075
  rcases cnd_or h with ⟨h3078, h⟩ | ⟨h3078, h⟩
  ·have g3079 := bool_eq h3078
   obtain rfl := si h
   exact pz F37 ⟨[tt 7, ff 12, ff 29, ff 39, tt 43], []⟩ (W4 g3079 g3077 g3074 g2991 <| Z g2877 Z0)
  have g3080 := bool_eq h3078
  rcases cnd_or h with ⟨h3081, h⟩ | ⟨h3081, h⟩
  ·have g3082 := bool_eq h3081
   rcases cnd_or h with ⟨h3083, h⟩ | ⟨h3083, h⟩
   ·have g3084 := bool_eq h3083
    obtain rfl := si h
    exact pz F37 ⟨[tt 7, ff 12, ff 29, ff 39, ff 43, tt 48, tt 57], []⟩ (W4 g3084 g3082 g3080 g3077 <| W2 g3074 g2991 <| Z g2877 Z0)
   have g3085 := bool_eq h3083
   rcases cnd_or h with ⟨h3086, h⟩ | ⟨h3086, h⟩
   ·have g3087 := bool_eq h3086
    obtain rfl := si h
    exact pz F37 ⟨[tt 7, ff 12, ff 29, ff 39, ff 43, tt 48, ff 57, tt 61], []⟩ (W8 g3087 g3085 g3082 g3080 g3077 g3074 g2991 g2877 Z0)
   have g3088 := bool_eq h3086
   have g3114 : cleanQ false 0 1 [(.blk 10 [(c_GEdit a2873)])] := trivial
   rcases bnd2_some h with ⟨v3117, e3115, h⟩ | ⟨v3118, e3115, h⟩
   ·have g3116 := f37_L0_ok n a2873 n 0 _ e3115
    obtain rfl := si h
    exact pv_z (F := F37) ⟨[tt 7, ff 12, ff 29, ff 39, ff 43, tt 48, ff 57, ff 61], []⟩ [(.ret, f37_L0_E0 a2873)] [] rfl (W8 g3116 g3114 g3088 g3085 g3082 g3080 g3077 g3074 <| W2 g2991 g2877 Z0) (by kernel_rfl)
   have g3116 := f37_L0_ok n a2873 n 0 _ e3115
   have g3144 : cleanQ false 0 1 [(.blk 10 [(c_GEdit a2873)])] := trivial
   rcases bnd2_some h with ⟨v3147, e3145, h⟩ | ⟨v3148, e3145, h⟩
   ·have g3146 := f37_L1_ok n a2873 n 0 _ e3145
    obtain rfl := si h
    exact pv_z (F := F37) ⟨[tt 7, ff 12, ff 29, ff 39, ff 43, tt 48, ff 57, ff 61], []⟩ [((.exit 0), f37_L0_E1 a2873), (.ret, f37_L1_E0 a2873)] [] rfl (W8 g3146 g3144 g3116 g3114 g3088 g3085 g3082 g3080 <| W4 g3077 g3074 g2991 g2877 Z0) (by kernel_rfl)
   have g3146 := f37_L1_ok n a2873 n 0 _ e3145
   obtain ⟨v3149, e3150, h⟩ := bnd_some h
   rcases cnd_or h with ⟨h3151, h⟩ | ⟨h3151, h⟩
   ·have g3152 := by have q := f62_ok n a2873.At _ e3150; rw [h3151] at q; exact q
    obtain rfl := si h
    exact pv_z (F := F37) ⟨[tt 7, ff 12, ff 29, ff 39, ff 43, tt 48, ff 57, ff 61, tt 95], []⟩ [((.exit 0), f37_L0_E1 a2873), ((.exit 2), f37_L1_E1 a2873)] [] rfl (W8 g3152 g3146 g3144 g3116 g3114 g3088 g3085 g3082 <| W4 g3080 g3077 g3074 g2991 <| Z g2877 Z0) (by kernel_rfl)
   have g3153 := by have q := f62_ok n a2873.At _ e3150; rw [h3151] at q; exact q
   obtain rfl := si h
   exact pv_z (F := F37) ⟨[tt 7, ff 12, ff 29, ff 39, ff 43, tt 48, ff 57, ff 61, ff 95], []⟩ [((.exit 0), f37_L0_E1 a2873), ((.exit 2), f37_L1_E1 a2873)] [] rfl (W8 g3153 g3146 g3144 g3116 g3114 g3088 g3085 g3082 <| W4 g3080 g3077 g3074 g2991 <| Z g2877 Z0) (by kernel_rfl)
  have g3154 := bool_eq h3081
  rcases cnd_or h with ⟨h3155, h⟩ | ⟨h3155, h⟩
  rotate_left
  ·have g3228 := bool_eq h3155
   have g3254 : cleanQ false 0 1 [(.blk 10 [(c_GEdit a2873)])] := trivial
   rcases bnd2_some h with ⟨v3257, e3255, h⟩ | ⟨v3258, e3255, h⟩
   ·have g3256 := f37_L0_ok n a2873 n 0 _ e3255
    obtain rfl := si h
    exact pv_z (F := F37) ⟨[tt 7, ff 12, ff 29, ff 39, ff 43, ff 48, ff 52], []⟩ [(.ret, f37_L0_E0 a2873)] [] rfl (W8 g3256 g3254 g3228 g3154 g3080 g3077 g3074 g2991 <| Z g2877 Z0) (by kernel_rfl)
   have g3256 := f37_L0_ok n a2873 n 0 _ e3255
   have g3284 : cleanQ false 0 1 [(.blk 10 [(c_GEdit a2873)])] := trivial
   rcases bnd2_some h with ⟨v3287, e3285, h⟩ | ⟨v3288, e3285, h⟩
   ·have g3286 := f37_L1_ok n a2873 n 0 _ e3285
    obtain rfl := si h
    exact pv_z (F := F37) ⟨[tt 7, ff 12, ff 29, ff 39, ff 43, ff 48, ff 52], []⟩ [((.exit 0), f37_L0_E1 a2873), (.ret, f37_L1_E0 a2873)] [] rfl (W8 g3286 g3284 g3256 g3254 g3228 g3154 g3080 g3077 <| W2 g3074 g2991 <| Z g2877 Z0) (by kernel_rfl)
   have g3286 := f37_L1_ok n a2873 n 0 _ e3285
   obtain ⟨v3289, e3290, h⟩ := bnd_some h
   rcases cnd_or h with ⟨h3291, h⟩ | ⟨h3291, h⟩
   ·have g3292 := by have q := f62_ok n a2873.At _ e3290; rw [h3291] at q; exact q
    obtain rfl := si h
    exact pv_z (F := F37) ⟨[tt 7, ff 12, ff 29, ff 39, ff 43, ff 48, ff 52, tt 95], []⟩ [((.exit 0), f37_L0_E1 a2873), ((.exit 2), f37_L1_E1 a2873)] [] rfl (W8 g3292 g3286 g3284 g3256 g3254 g3228 g3154 g3080 <| W4 g3077 g3074 g2991 g2877 Z0) (by kernel_rfl)
   have g3293 := by have q := f62_ok n a2873.At _ e3290; rw [h3291] at q; exact q
   obtain rfl := si h
   exact pv_z (F := F37) ⟨[tt 7, ff 12, ff 29, ff 39, ff 43, ff 48, ff 52, ff 95], []⟩ [((.exit 0), f37_L0_E1 a2873), ((.exit 2), f37_L1_E1 a2873)] [] rfl (W8 g3293 g3286 g3284 g3256 g3254 g3228 g3154 g3080 <| W4 g3077 g3074 g2991 g2877 Z0) (by kernel_rfl)
  have g3156 := bool_eq h3155
  rcases cnd_or h with ⟨h3157, h⟩ | ⟨h3157, h⟩
  ·have g3158 := bool_eq h3157
   obtain rfl := si h
   exact pz F37 ⟨[tt 7, ff 12, ff 29, ff 39, ff 43, ff 48, tt 52, tt 57], []⟩ (W8 g3158 g3156 g3154 g3080 g3077 g3074 g2991 g2877 Z0)
  have g3159 := bool_eq h3157
  rcases cnd_or h with ⟨h3160, h⟩ | ⟨h3160, h⟩
  ·have g3161 := bool_eq h3160
   obtain rfl := si h
   exact pz F37 ⟨[tt 7, ff 12, ff 29, ff 39, ff 43, ff 48, tt 52, ff 57, tt 61], []⟩ (W8 g3161 g3159 g3156 g3154 g3080 g3077 g3074 g2991 <| Z g2877 Z0)
  have g3162 := bool_eq h3160
  have g3188 : cleanQ false 0 1 [(.blk 10 [(c_GEdit a2873)])] := trivial
  rcases bnd2_some h with ⟨v3191, e3189, h⟩ | ⟨v3192, e3189, h⟩
  ·have g3190 := f37_L0_ok n a2873 n 0 _ e3189
   obtain rfl := si h
   exact pv_z (F := F37) ⟨[tt 7, ff 12, ff 29, ff 39, ff 43, ff 48, tt 52, ff 57, ff 61], []⟩ [(.ret, f37_L0_E0 a2873)] [] rfl (W8 g3190 g3188 g3162 g3159 g3156 g3154 g3080 g3077 <| W2 g3074 g2991 <| Z g2877 Z0) (by kernel_rfl)
  have g3190 := f37_L0_ok n a2873 n 0 _ e3189
  have g3218 : cleanQ false 0 1 [(.blk 10 [(c_GEdit a2873)])] := trivial
  rcases bnd2_some h with ⟨v3221, e3219, h⟩ | ⟨v3222, e3219, h⟩
  ·have g3220 := f37_L1_ok n a2873 n 0 _ e3219
   obtain rfl := si h
   exact pv_z (F := F37) ⟨[tt 7, ff 12, ff 29, ff 39, ff 43, ff 48, tt 52, ff 57, ff 61], []⟩ [((.exit 0), f37_L0_E1 a2873), (.ret, f37_L1_E0 a2873)] [] rfl (W8 g3220 g3218 g3190 g3188 g3162 g3159 g3156 g3154 <| W4 g3080 g3077 g3074 g2991 <| Z g2877 Z0) (by kernel_rfl)
  have g3220 := f37_L1_ok n a2873 n 0 _ e3219
  obtain ⟨v3223, e3224, h⟩ := bnd_some h
  rcases cnd_or h with ⟨h3225, h⟩ | ⟨h3225, h⟩
  ·have g3226 := by have q := f62_ok n a2873.At _ e3224; rw [h3225] at q; exact q
   obtain rfl := si h
   exact pv_z (F := F37) ⟨[tt 7, ff 12, ff 29, ff 39, ff 43, ff 48, tt 52, ff 57, ff 61, tt 95], []⟩ [((.exit 0), f37_L0_E1 a2873), ((.exit 2), f37_L1_E1 a2873)] [] rfl (W8 g3226 g3220 g3218 g3190 g3188 g3162 g3159 g3156 <| W4 g3154 g3080 g3077 g3074 <| W2 g2991 g2877 Z0) (by kernel_rfl)
  have g3227 := by have q := f62_ok n a2873.At _ e3224; rw [h3225] at q; exact q
  obtain rfl := si h
  exact pv_z (F := F37) ⟨[tt 7, ff 12, ff 29, ff 39, ff 43, ff 48, tt 52, ff 57, ff 61, ff 95], []⟩ [((.exit 0), f37_L0_E1 a2873), ((.exit 2), f37_L1_E1 a2873)] [] rfl (W8 g3227 g3220 g3218 g3190 g3188 g3162 g3159 g3156 <| W4 g3154 g3080 g3077 g3074 <| W2 g2991 g2877 Z0) (by kernel_rfl)
def f14_L0_S (a3295 : GEdit) (i3342 : Int) : St := ⟨[U, (.ptr 0 1 0 0), U, (iv i3342), U, U, U, U, U, U, U, U, U, U, U, U, U, U, U, U, U, U, U, U, U, U, U, U, U, U, U, U, U, U, U, U, U, U, U, U, U, U, U, U, U, U, U, U, U, U, U, U, U, U, U, U, U, U, U, U, U, U, U, U, U, U, U, U, U, U], [(.blk 10 [(c_GEdit a3295)])]⟩
def f14_L0_E0 (a3295 : GEdit) : St := ⟨[U, U, (iv 10), U, U, U, U, U, U, U, U, U, U, U, U, U, U, U, U, U, U, U, U, U, U, U, U, U, U, U, U, U, U, U, U, U, U, U, U, U, U, U, U, U, U, U, U, U, U, U, U, U, U, U, U, U, U, U, U, U, U, U, U, U, U, U, U, U, U, U], [(.blk 10 [(c_GEdit a3295)])]⟩
def f14_L0_E1 (a3295 : GEdit) : St := ⟨[U, (.ptr 0 1 0 0), U, U, U, U, U, U, U, U, U, U, U, U, U, U, U, U, U, U, U, U, U, U, U, U, U, U, U, U, U, U, U, U, U, U, U, U, U, U, U, U, U, U, U, U, U, U, U, U, U, U, U, U, U, U, U, U, U, U, U, U, U, U, U, U, U, U, U, U], [(.blk 10 [(c_GEdit a3295)])]⟩
def f14_L0 (n : Nat) (a3295 : GEdit) : Nat → Int → Option (Unit ⊕ Unit)
 | 0, _ => none
 | m + 1, i3342 => (cnd (decide (i3342 < ((a3295.Parts.length : Nat) : Int))) (bnd (idx a3295.Parts (IntKind.i64.wrap (i3342 - 1))) fun x3359 => (bnd (idx a3295.Parts i3342) fun x3362 => (cnd (decide (x3359 ≥ x3362)) (some (Sum.inl ())) (f14_L0 n a3295 m (IntKind.i64.wrap (i3342 + 1)))))) (some (Sum.inr ())))
theorem f14_L0_ok (n : Nat) (a3295 : GEdit) : ∀ (m : Nat) (i3342 : Int) (r : (Unit ⊕ Unit)), f14_L0 n a3295 m i3342 = some r → maskR [false, true] [false, false, true] false 0 1 (evLoopH (headSt (some [false, true, false, true]) false 0 1) (evC PP (evF PP T n) n 0 L14_0) m (f14_L0_S a3295 i3342)) = (match r with | .inl r => some (.ret, f14_L0_E0 a3295) | .inr r => some ((.exit 0), f14_L0_E1 a3295))
 | 0, _, _, h => by cases h
 | m + 1, i3342, r, h => by
  rw [f14_L0] at h
  have g3356 := len_sl (P := PP) (cf := evF PP T n) (fl := 0) (H := [(.blk 10 [(c_GEdit a3295)])]) (f := false) (c := c_i64) (l := a3295.Parts)
  rcases cnd_or h with ⟨h3357, h⟩ | ⟨h3357, h⟩
  rotate_left
  ·have g3368 := bool_eq h3357
   obtain rfl := si h
   exact last_z (live := some [false, true, false, true]) (tr' := false) (st' := f14_L0_E1 a3295) ⟨[(45, (iv ((a3295.Parts.length : Nat) : Int)), none), ff 46], []⟩ [] [] rfl (W2 g3368 g3356 Z0) (by kernel_rfl) trivial
  have g3358 := bool_eq h3357
  obtain ⟨x3359, e3360, h⟩ := bnd_some h
  have g3361 := idxl (H := [(.blk 10 [(c_GEdit a3295)])]) (f := false) (c := c_i64) e3360 (c_i64_len _)
  obtain ⟨x3362, e3363, h⟩ := bnd_some h
  have g3364 := idxl (H := [(.blk 10 [(c_GEdit a3295)])]) (f := false) (c := c_i64) e3363 (c_i64_len _)
  rcases cnd_or h with ⟨h3365, h⟩ | ⟨h3365, h⟩
  ·have g3366 := bool_eq h3365
   obtain rfl := si h
   exact last_z (live := some [false, true, false, true]) (tr' := false) (st' := f14_L0_E0 a3295) ⟨[(45, (iv ((a3295.Parts.length : Nat) : Int)), none), tt 46, (53, (.rptr [(iv x3359)]), none), (58, (.rptr [(iv x3362)]), none), tt 60], []⟩ [] [] rfl (W4 g3366 g3364 g3361 g3358 <| Z g3356 Z0) (by kernel_rfl) trivial
  have g3367 := bool_eq h3365
  exact (congrArg (maskR [false, true] [false, false, true] false 0 1) (next_z (live := some [false, true, false, true]) (tr := false) (st' := f14_L0_S a3295 (IntKind.i64.wrap (i3342 + 1))) ⟨[(45, (iv ((a3295.Parts.length : Nat) : Int)), none), tt 46, (53, (.rptr [(iv x3359)]), none), (58, (.rptr [(iv x3362)]), none), ff 60], []⟩ [] [] rfl (W4 g3367 g3364 g3361 g3358 <| Z g3356 Z0) (by kernel_rfl) trivial rfl)).trans (f14_L0_ok n a3295 m (IntKind.i64.wrap (i3342 + 1)) r h)
def f14 : Nat → GEdit → Option Int
 | 0, _ => none
 | n + 1, a3295 => (cnd (decide (a3295.Kind < 1)) (some 9) (cnd (decide (a3295.Kind > 12)) (some 9) (cnd (a3295.Kind == 7) (bnd (f34 n a3295.A) fun v3304 => (cnd (v3304 == 0) (some 9) (bnd (f35 n a3295.Kind) fun v3310 => (bnd (f36 n a3295 v3310) fun v3313 => (cnd (v3313) (cnd (decide (((a3295.Via.length : Nat) : Int) > 64)) (some 3) (cnd (decide (((a3295.Parts.length : Nat) : Int) > 64)) (some 3) (bnd (f37 n a3295) fun v3325 => (cnd (v3325) (bnd2 (f14_L0 n a3295 n 1) (fun v3372 => (some 10)) (fun v3373 => (cnd (decide (a3295.Name = (⟨#[]⟩ : ByteArray))) (some 0) (bnd (f13 n a3295.Name) fun v3377 => (cnd (v3377 != 0) (some 14) (some 0)))))) (some 2))))) (some 1)))))) (bnd (f35 n a3295.Kind) fun v3386 => (bnd (f36 n a3295 v3386) fun v3389 => (cnd (v3389) (cnd (decide (((a3295.Via.length : Nat) : Int) > 64)) (some 3) (cnd (decide (((a3295.Parts.length : Nat) : Int) > 64)) (some 3) (bnd (f37 n a3295) fun v3401 => (cnd (v3401) (bnd2 (f14_L0 n a3295 n 1) (fun v3435 => (some 10)) (fun v3436 => (cnd (decide (a3295.Name = (⟨#[]⟩ : ByteArray))) (some 0) (bnd (f13 n a3295.Name) fun v3440 => (cnd (v3440 != 0) (some 14) (some 0)))))) (some 2))))) (some 1)))))))
theorem f14_ok (n : Nat) (a3295 : GEdit) (r : Int) (h : f14 n a3295 = some r) : pv PP T n 14 [(.agg (c_GEdit a3295))] = some (iv r) := by
 cases n with
 | zero => cases h
 | succ n =>
  rw [f14] at h
  rcases cnd_or h with ⟨h3296, h⟩ | ⟨h3296, h⟩
  ·have g3297 := bool_eq h3296
   obtain rfl := si h
   exact pz F14 ⟨[tt 6], []⟩ (Z g3297 Z0)
  have g3298 := bool_eq h3296
  rcases cnd_or h with ⟨h3299, h⟩ | ⟨h3299, h⟩
  ·have g3300 := bool_eq h3299
   obtain rfl := si h
   exact pz F14 ⟨[ff 6, tt 10], []⟩ (W2 g3300 g3298 Z0)
  have g3301 := bool_eq h3299
  rcases cnd_or h with ⟨h3302, h⟩ | ⟨h3302, h⟩
  rotate_left
  ·have g3385 := bool_eq h3302
   obtain ⟨v3386, e3387, h⟩ := bnd_some h
   have g3388 := f35_ok n a3295.Kind _ e3387
   obtain ⟨v3389, e3390, h⟩ := bnd_some h
   rcases cnd_or h with ⟨h3391, h⟩ | ⟨h3391, h⟩
   rotate_left
   ·have g3447 := by have q := f36_ok n a3295 v3386 _ e3390; rw [h3391] at q; exact q
    obtain rfl := si h
    exact pz F14 ⟨[ff 6, ff 10, ff 15, (26, (sv v3386), none), ff 27], []⟩ (W4 g3447 g3388 g3385 g3301 <| Z g3298 Z0)
   have g3392 := by have q := f36_ok n a3295 v3386 _ e3390; rw [h3391] at q; exact q
   have g3393 := len_sl (P := PP) (cf := evF PP T n) (fl := 0) (H := [(.blk 10 [(c_GEdit a3295)])]) (f := false) (c := c_GPoint) (l := a3295.Via)
   rcases cnd_or h with ⟨h3394, h⟩ | ⟨h3394, h⟩
   ·have g3395 := bool_eq h3394
    obtain rfl := si h
    exact pz F14 ⟨[ff 6, ff 10, ff 15, (26, (sv v3386), none), tt 27, (31, (iv ((a3295.Via.length : Nat) : Int)), none), tt 32], []⟩ (W4 g3395 g3393 g3392 g3388 <| W2 g3385 g3301 <| Z g3298 Z0)
   have g3396 := bool_eq h3394
   have g3397 := len_sl (P := PP) (cf := evF PP T n) (fl := 0) (H := [(.blk 10 [(c_GEdit a3295)])]) (f := false) (c := c_i64) (l := a3295.Parts)
   rcases cnd_or h with ⟨h3398, h⟩ | ⟨h3398, h⟩
   ·have g3399 := bool_eq h3398
    obtain rfl := si h
    exact pz F14 ⟨[ff 6, ff 10, ff 15, (26, (sv v3386), none), tt 27, (31, (iv ((a3295.Via.length : Nat) : Int)), none), ff 32, (36, (iv ((a3295.Parts.length : Nat) : Int)), none), tt 37], []⟩ (W8 g3399 g3397 g3396 g3393 g3392 g3388 g3385 g3301 <| Z g3298 Z0)
   have g3400 := bool_eq h3398
   obtain ⟨v3401, e3402, h⟩ := bnd_some h
   rcases cnd_or h with ⟨h3403, h⟩ | ⟨h3403, h⟩
   rotate_left
   ·have g3446 := by have q := f37_ok n a3295 _ e3402; rw [h3403] at q; exact q
    obtain rfl := si h
    exact pz F14 ⟨[ff 6, ff 10, ff 15, (26, (sv v3386), none), tt 27, (31, (iv ((a3295.Via.length : Nat) : Int)), none), ff 32, (36, (iv ((a3295.Parts.length : Nat) : Int)), none), ff 37, ff 40], []⟩ (W8 g3446 g3400 g3397 g3396 g3393 g3392 g3388 g3385 <| W2 g3301 g3298 Z0)
   have g3404 := by have q := f37_ok n a3295 _ e3402; rw [h3403] at q; exact q
   have g3432 : cleanQ false 0 1 [(.blk 10 [(c_GEdit a3295)])] := trivial
   rcases bnd2_some h with ⟨v3435, e3433, h⟩ | ⟨v3436, e3433, h⟩
   ·have g3434 := f14_L0_ok n a3295 n 1 _ e3433
    obtain rfl := si h
    exact pv_z (F := F14) ⟨[ff 6, ff 10, ff 15, (26, (sv v3386), none), tt 27, (31, (iv ((a3295.Via.length : Nat) : Int)), none), ff 32, (36, (iv ((a3295.Parts.length : Nat) : Int)), none), ff 37, tt 40], []⟩ [(.ret, f14_L0_E0 a3295)] [] rfl (W8 g3434 g3432 g3404 g3400 g3397 g3396 g3393 g3392 <| W4 g3388 g3385 g3301 g3298 Z0) (by kernel_rfl)
   have g3434 := f14_L0_ok n a3295 n 1 _ e3433
   rcases cnd_or h with ⟨h3437, h⟩ | ⟨h3437, h⟩
   ·have g3438 := c_str_neq (P := PP) (cf := evF PP T n) (fl := 0) (H := [(.blk 10 [(c_GEdit a3295)])]) (t := 9) h3437
    obtain rfl := si h
    exact pv_z (F := F14) ⟨[ff 6, ff 10, ff 15, (26, (sv v3386), none), tt 27, (31, (iv ((a3295.Via.length : Nat) : Int)), none), ff 32, (36, (iv ((a3295.Parts.length : Nat) : Int)), none), ff 37, tt 40, ff 63], []⟩ [((.exit 0), f14_L0_E1 a3295)] [] rfl (W8 g3438 g3434 g3432 g3404 g3400 g3397 g3396 g3393 <| W4 g3392 g3388 g3385 g3301 <| Z g3298 Z0) (by kernel_rfl)
   have g3439 := c_str_neq (P := PP) (cf := evF PP T n) (fl := 0) (H := [(.blk 10 [(c_GEdit a3295)])]) (t := 9) h3437
   obtain ⟨v3440, e3441, h⟩ := bnd_some h
   have g3442 := f13_ok n a3295.Name _ e3441
   rcases cnd_or h with ⟨h3443, h⟩ | ⟨h3443, h⟩
   ·have g3444 := bool_eq h3443
    obtain rfl := si h
    exact pv_z (F := F14) ⟨[ff 6, ff 10, ff 15, (26, (sv v3386), none), tt 27, (31, (iv ((a3295.Via.length : Nat) : Int)), none), ff 32, (36, (iv ((a3295.Parts.length : Nat) : Int)), none), ff 37, tt 40, tt 63, (67, (iv v3440), none), tt 68], []⟩ [((.exit 0), f14_L0_E1 a3295)] [] rfl (W8 g3444 g3442 g3439 g3434 g3432 g3404 g3400 g3397 <| W4 g3396 g3393 g3392 g3388 <| W2 g3385 g3301 <| Z g3298 Z0) (by kernel_rfl)
   have g3445 := bool_eq h3443
   obtain rfl := si h
   exact pv_z (F := F14) ⟨[ff 6, ff 10, ff 15, (26, (sv v3386), none), tt 27, (31, (iv ((a3295.Via.length : Nat) : Int)), none), ff 32, (36, (iv ((a3295.Parts.length : Nat) : Int)), none), ff 37, tt 40, tt 63, (67, (iv v3440), none), ff 68], []⟩ [((.exit 0), f14_L0_E1 a3295)] [] rfl (W8 g3445 g3442 g3439 g3434 g3432 g3404 g3400 g3397 <| W4 g3396 g3393 g3392 g3388 <| W2 g3385 g3301 <| Z g3298 Z0) (by kernel_rfl)
  have g3303 := bool_eq h3302
  obtain ⟨v3304, e3305, h⟩ := bnd_some h
  have g3306 := f34_ok n a3295.A _ e3305
  rcases cnd_or h with ⟨h3307, h⟩ | ⟨h3307, h⟩
  ·have g3308 := bool_eq h3307
   obtain rfl := si h
   exact pz F14 ⟨[ff 6, ff 10, tt 15, (19, (iv v3304), none), tt 20], []⟩ (W4 g3308 g3306 g3303 g3301 <| Z g3298 Z0)
  have g3309 := bool_eq h3307
  obtain ⟨v3310, e3311, h⟩ := bnd_some h
  have g3312 := f35_ok n a3295.Kind _ e3311
  obtain ⟨v3313, e3314, h⟩ := bnd_some h
  rcases cnd_or h with ⟨h3315, h⟩ | ⟨h3315, h⟩
  rotate_left
  ·have g3384 := by have q := f36_ok n a3295 v3310 _ e3314; rw [h3315] at q; exact q
   obtain rfl := si h
   exact pz F14 ⟨[ff 6, ff 10, tt 15, (19, (iv v3304), none), ff 20, (26, (sv v3310), none), ff 27], []⟩ (W4 g3384 g3312 g3309 g3306 <| W2 g3303 g3301 <| Z g3298 Z0)
  have g3316 := by have q := f36_ok n a3295 v3310 _ e3314; rw [h3315] at q; exact q
  have g3317 := len_sl (P := PP) (cf := evF PP T n) (fl := 0) (H := [(.blk 10 [(c_GEdit a3295)])]) (f := false) (c := c_GPoint) (l := a3295.Via)
  rcases cnd_or h with ⟨h3318, h⟩ | ⟨h3318, h⟩
  ·have g3319 := bool_eq h3318
   obtain rfl := si h
   exact pz F14 ⟨[ff 6, ff 10, tt 15, (19, (iv v3304), none), ff 20, (26, (sv v3310), none), tt 27, (31, (iv ((a3295.Via.length : Nat) : Int)), none), tt 32], []⟩ (W8 g3319 g3317 g3316 g3312 g3309 g3306 g3303 g3301 <| Z g3298 Z0)
  have g3320 := bool_eq h3318
  have g3321 := len_sl (P := PP) (cf := evF PP T n) (fl := 0) (H := [(.blk 10 [(c_GEdit a3295)])]) (f := false) (c := c_i64) (l := a3295.Parts)
  rcases cnd_or h with ⟨h3322, h⟩ | ⟨h3322, h⟩
  ·have g3323 := bool_eq h3322
   obtain rfl := si h
   exact pz F14 ⟨[ff 6, ff 10, tt 15, (19, (iv v3304), none), ff 20, (26, (sv v3310), none), tt 27, (31, (iv ((a3295.Via.length : Nat) : Int)), none), ff 32, (36, (iv ((a3295.Parts.length : Nat) : Int)), none), tt 37], []⟩ (W8 g3323 g3321 g3320 g3317 g3316 g3312 g3309 g3306 <| W2 g3303 g3301 <| Z g3298 Z0)
  have g3324 := bool_eq h3322
  obtain ⟨v3325, e3326, h⟩ := bnd_some h
  rcases cnd_or h with ⟨h3327, h⟩ | ⟨h3327, h⟩
  rotate_left
  ·have g3383 := by have q := f37_ok n a3295 _ e3326; rw [h3327] at q; exact q
   obtain rfl := si h
   exact pz F14 ⟨[ff 6, ff 10, tt 15, (19, (iv v3304), none), ff 20, (26, (sv v3310), none), tt 27, (31, (iv ((a3295.Via.length : Nat) : Int)), none), ff 32, (36, (iv ((a3295.Parts.length : Nat) : Int)), none), ff 37, ff 40], []⟩ (W8 g3383 g3324 g3321 g3320 g3317 g3316 g3312 g3309 <| W4 g3306 g3303 g3301 g3298 Z0)
  have g3328 := by have q := f37_ok n a3295 _ e3326; rw [h3327] at q; exact q
  have g3369 : cleanQ false 0 1 [(.blk 10 [(c_GEdit a3295)])] := trivial
  rcases bnd2_some h with ⟨v3372, e3370, h⟩ | ⟨v3373, e3370, h⟩
  ·have g3371 := f14_L0_ok n a3295 n 1 _ e3370
   obtain rfl := si h
   exact pv_z (F := F14) ⟨[ff 6, ff 10, tt 15, (19, (iv v3304), none), ff 20, (26, (sv v3310), none), tt 27, (31, (iv ((a3295.Via.length : Nat) : Int)), none), ff 32, (36, (iv ((a3295.Parts.length : Nat) : Int)), none), ff 37, tt 40], []⟩ [(.ret, f14_L0_E0 a3295)] [] rfl (W8 g3371 g3369 g3328 g3324 g3321 g3320 g3317 g3316 <| W4 g3312 g3309 g3306 g3303 <| W2 g3301 g3298 Z0) (by kernel_rfl)
  have g3371 := f14_L0_ok n a3295 n 1 _ e3370
  rcases cnd_or h with ⟨h3374, h⟩ | ⟨h3374, h⟩
  ·have g3375 := c_str_neq (P := PP) (cf := evF PP T n) (fl := 0) (H := [(.blk 10 [(c_GEdit a3295)])]) (t := 9) h3374
   obtain rfl := si h
   exact pv_z (F := F14) ⟨[ff 6, ff 10, tt 15, (19, (iv v3304), none), ff 20, (26, (sv v3310), none), tt 27, (31, (iv ((a3295.Via.length : Nat) : Int)), none), ff 32, (36, (iv ((a3295.Parts.length : Nat) : Int)), none), ff 37, tt 40, ff 63], []⟩ [((.exit 0), f14_L0_E1 a3295)] [] rfl (W8 g3375 g3371 g3369 g3328 g3324 g3321 g3320 g3317 <| W4 g3316 g3312 g3309 g3306 <| W2 g3303 g3301 <| Z g3298 Z0) (by kernel_rfl)
  have g3376 := c_str_neq (P := PP) (cf := evF PP T n) (fl := 0) (H := [(.blk 10 [(c_GEdit a3295)])]) (t := 9) h3374
  obtain ⟨v3377, e3378, h⟩ := bnd_some h
  have g3379 := f13_ok n a3295.Name _ e3378
  rcases cnd_or h with ⟨h3380, h⟩ | ⟨h3380, h⟩
  ·have g3381 := bool_eq h3380
   obtain rfl := si h
   exact pv_z (F := F14) ⟨[ff 6, ff 10, tt 15, (19, (iv v3304), none), ff 20, (26, (sv v3310), none), tt 27, (31, (iv ((a3295.Via.length : Nat) : Int)), none), ff 32, (36, (iv ((a3295.Parts.length : Nat) : Int)), none), ff 37, tt 40, tt 63, (67, (iv v3377), none), tt 68], []⟩ [((.exit 0), f14_L0_E1 a3295)] [] rfl (W8 g3381 g3379 g3376 g3371 g3369 g3328 g3324 g3321 <| W8 g3320 g3317 g3316 g3312 g3309 g3306 g3303 g3301 <| Z g3298 Z0) (by kernel_rfl)
  have g3382 := bool_eq h3380
  obtain rfl := si h
  exact pv_z (F := F14) ⟨[ff 6, ff 10, tt 15, (19, (iv v3304), none), ff 20, (26, (sv v3310), none), tt 27, (31, (iv ((a3295.Via.length : Nat) : Int)), none), ff 32, (36, (iv ((a3295.Parts.length : Nat) : Int)), none), ff 37, tt 40, tt 63, (67, (iv v3377), none), ff 68], []⟩ [((.exit 0), f14_L0_E1 a3295)] [] rfl (W8 g3382 g3379 g3376 g3371 g3369 g3328 g3324 g3321 <| W8 g3320 g3317 g3316 g3312 g3309 g3306 g3303 g3301 <| Z g3298 Z0) (by kernel_rfl)
def f3_L0_S (a3448 : GTxn) (i3490 : Int) : St := ⟨[U, (.ptr 0 1 0 0), U, U, (iv i3490), U, U, U, U, U, U, U, U, U, U, U, U, U, U, U, U, U, U, U, U, U, U, U, U, U, U, U, U, U, U, U, U, U, U, U, U, U, U, U, U, U, U, U, U, U, U, U, U, U, U, U, U, U, U, U, U, U, U, U, U, U, U, U, U], [(.blk 5 [(c_GTxn a3448)])]⟩
def f3_L0_E0 (a3448 : GTxn) (i3504 : Int) : St := ⟨[U, U, (iv i3504), U, U, U, U, U, U, U, U, U, U, U, U, U, U, U, U, U, U, U, U, U, U, U, U, U, U, U, U, U, U, U, U, U, U, U, U, U, U, U, U, U, U, U, U, U, U, U, U, U, U, U, U, U, U, U, U, U, U, U, U, U, U, U, U, U, U], [(.blk 5 [(c_GTxn a3448)])]⟩
def f3_L0_E1 (a3448 : GTxn) : St := ⟨[U, U, U, U, U, U, U, U, U, U, U, U, U, U, U, U, U, U, U, U, U, U, U, U, U, U, U, U, U, U, U, U, U, U, U, U, U, U, U, U, U, U, U, U, U, U, U, U, U, U, U, U, U, U, U, U, U, U, U, U, U, U, U, U, U, U, U, U, U], [(.blk 5 [(c_GTxn a3448)])]⟩
def f3_L0 (n : Nat) (a3448 : GTxn) : Nat → Int → Option (Int ⊕ Unit)
 | 0, _ => none
 | m + 1, i3490 => (cnd (decide (i3490 < ((a3448.Edits.length : Nat) : Int))) (bnd (idx a3448.Edits i3490) fun x3508 => (bnd (f14 n x3508) fun v3511 => (cnd (v3511 != 0) (some (Sum.inl v3511)) (f3_L0 n a3448 m (IntKind.i64.wrap (i3490 + 1)))))) (some (Sum.inr ())))
theorem f3_L0_ok (n : Nat) (a3448 : GTxn) : ∀ (m : Nat) (i3490 : Int) (r : (Int ⊕ Unit)), f3_L0 n a3448 m i3490 = some r → maskR [] [false, false, true] false 0 1 (evLoopH (headSt (some [false, true, false, false, true]) false 0 1) (evC PP (evF PP T n) n 0 L3_0) m (f3_L0_S a3448 i3490)) = (match r with | .inl r => some (.ret, f3_L0_E0 a3448 r) | .inr r => some ((.exit 0), f3_L0_E1 a3448))
 | 0, _, _, h => by cases h
 | m + 1, i3490, r, h => by
  rw [f3_L0] at h
  have g3505 := len_sl (P := PP) (cf := evF PP T n) (fl := 0) (H := [(.blk 5 [(c_GTxn a3448)])]) (f := false) (c := c_GEdit) (l := a3448.Edits)
  rcases cnd_or h with ⟨h3506, h⟩ | ⟨h3506, h⟩
  rotate_left
  ·have g3517 := bool_eq h3506
   obtain rfl := si h
   exact last_z (live := some [false, true, false, false, true]) (tr' := false) (st' := f3_L0_E1 a3448) ⟨[(56, (iv ((a3448.Edits.length : Nat) : Int)), none), ff 57], []⟩ [] [] rfl (W2 g3517 g3505 Z0) (by kernel_rfl) trivial
  have g3507 := bool_eq h3506
  obtain ⟨x3508, e3509, h⟩ := bnd_some h
  have g3510 := idxl (H := [(.blk 5 [(c_GTxn a3448)])]) (f := false) (c := c_GEdit) e3509 (c_GEdit_len _)
  obtain ⟨v3511, e3512, h⟩ := bnd_some h
  have g3513 := f14_ok n x3508 _ e3512
  rcases cnd_or h with ⟨h3514, h⟩ | ⟨h3514, h⟩
  ·have g3515 := bool_eq h3514
   obtain rfl := si h
   exact last_z (live := some [false, true, false, false, true]) (tr' := false) (st' := f3_L0_E0 a3448 v3511) ⟨[(56, (iv ((a3448.Edits.length : Nat) : Int)), none), tt 57, (63, (.rptr [(iv x3508.Kind), (iv x3508.ID), (iv x3508.A), (iv x3508.B), (iv x3508.C), (iv x3508.At.X), (iv x3508.At.Y), (.sl false (List.map c_GPoint x3508.Via)), (sv x3508.Name), (.sl false (List.map c_i64 x3508.Parts))]), none), (65, (iv v3511), none), tt 67], []⟩ [] [] rfl (W4 g3515 g3513 g3510 g3507 <| Z g3505 Z0) (by kernel_rfl) trivial
  have g3516 := bool_eq h3514
  exact (congrArg (maskR [] [false, false, true] false 0 1) (next_z (live := some [false, true, false, false, true]) (tr := false) (st' := f3_L0_S a3448 (IntKind.i64.wrap (i3490 + 1))) ⟨[(56, (iv ((a3448.Edits.length : Nat) : Int)), none), tt 57, (63, (.rptr [(iv x3508.Kind), (iv x3508.ID), (iv x3508.A), (iv x3508.B), (iv x3508.C), (iv x3508.At.X), (iv x3508.At.Y), (.sl false (List.map c_GPoint x3508.Via)), (sv x3508.Name), (.sl false (List.map c_i64 x3508.Parts))]), none), (65, (iv v3511), none), ff 67], []⟩ [] [] rfl (W4 g3516 g3513 g3510 g3507 <| Z g3505 Z0) (by kernel_rfl) trivial rfl)).trans (f3_L0_ok n a3448 m (IntKind.i64.wrap (i3490 + 1)) r h)
def f3 : Nat → GTxn → Option Int
 | 0, _ => none
 | n + 1, a3448 => (cnd (decide (a3448.Office < 1)) (some 2) (cnd (decide (a3448.Office > 8)) (some 2) (cnd (decide (a3448.Seq < 1)) (some 2) (cnd (decide (a3448.Seq > 1073741824)) (some 2) (cnd (decide (a3448.Time < 0)) (some 2) (cnd (decide (a3448.Time > 1073741824)) (some 2) (cnd (decide (a3448.Source = (⟨#[]⟩ : ByteArray))) (cnd (decide (((a3448.Edits.length : Nat) : Int) < 1)) (some 3) (cnd (decide (((a3448.Edits.length : Nat) : Int) > 64)) (some 3) (bnd2 (f3_L0 n a3448 n 0) (fun v3521 => (some v3521)) (fun v3522 => (some 0))))) (bnd (f13 n a3448.Source) fun v3524 => (cnd (v3524 != 0) (some v3524) (cnd (decide (((a3448.Edits.length : Nat) : Int) < 1)) (some 3) (cnd (decide (((a3448.Edits.length : Nat) : Int) > 64)) (some 3) (bnd2 (f3_L0 n a3448 n 0) (fun v3569 => (some v3569)) (fun v3570 => (some 0))))))))))))))
theorem f3_ok (n : Nat) (a3448 : GTxn) (r : Int) (h : f3 n a3448 = some r) : pv PP T n 3 [(.agg (c_GTxn a3448))] = some (iv r) := by
 cases n with
 | zero => cases h
 | succ n =>
  rw [f3] at h
  rcases cnd_or h with ⟨h3449, h⟩ | ⟨h3449, h⟩
  ·have g3450 := bool_eq h3449
   obtain rfl := si h
   exact pz F3 ⟨[tt 8], []⟩ (Z g3450 Z0)
  have g3451 := bool_eq h3449
  rcases cnd_or h with ⟨h3452, h⟩ | ⟨h3452, h⟩
  ·have g3453 := bool_eq h3452
   obtain rfl := si h
   exact pz F3 ⟨[ff 8, tt 12], []⟩ (W2 g3453 g3451 Z0)
  have g3454 := bool_eq h3452
  rcases cnd_or h with ⟨h3455, h⟩ | ⟨h3455, h⟩
  ·have g3456 := bool_eq h3455
   obtain rfl := si h
   exact pz F3 ⟨[ff 8, ff 12, tt 17], []⟩ (W2 g3456 g3454 <| Z g3451 Z0)
  have g3457 := bool_eq h3455
  rcases cnd_or h with ⟨h3458, h⟩ | ⟨h3458, h⟩
  ·have g3459 := bool_eq h3458
   obtain rfl := si h
   exact pz F3 ⟨[ff 8, ff 12, ff 17, tt 22], []⟩ (W4 g3459 g3457 g3454 g3451 Z0)
  have g3460 := bool_eq h3458
  rcases cnd_or h with ⟨h3461, h⟩ | ⟨h3461, h⟩
  ·have g3462 := bool_eq h3461
   obtain rfl := si h
   exact pz F3 ⟨[ff 8, ff 12, ff 17, ff 22, tt 27], []⟩ (W4 g3462 g3460 g3457 g3454 <| Z g3451 Z0)
  have g3463 := bool_eq h3461
  rcases cnd_or h with ⟨h3464, h⟩ | ⟨h3464, h⟩
  ·have g3465 := bool_eq h3464
   obtain rfl := si h
   exact pz F3 ⟨[ff 8, ff 12, ff 17, ff 22, ff 27, tt 32], []⟩ (W4 g3465 g3463 g3460 g3457 <| W2 g3454 g3451 Z0)
  have g3466 := bool_eq h3464
  rcases cnd_or h with ⟨h3467, h⟩ | ⟨h3467, h⟩
  ·have g3468 := c_str_neq (P := PP) (cf := evF PP T n) (fl := 0) (H := [(.blk 5 [(c_GTxn a3448)])]) (t := 9) h3467
   have g3469 := len_sl (P := PP) (cf := evF PP T n) (fl := 0) (H := [(.blk 5 [(c_GTxn a3448)])]) (f := false) (c := c_GEdit) (l := a3448.Edits)
   rcases cnd_or h with ⟨h3470, h⟩ | ⟨h3470, h⟩
   ·have g3471 := bool_eq h3470
    obtain rfl := si h
    exact pz F3 ⟨[ff 8, ff 12, ff 17, ff 22, ff 27, ff 32, ff 36, (45, (iv ((a3448.Edits.length : Nat) : Int)), none), tt 46], []⟩ (W8 g3471 g3469 g3468 g3466 g3463 g3460 g3457 g3454 <| Z g3451 Z0)
   have g3472 := bool_eq h3470
   have g3473 := len_sl (P := PP) (cf := evF PP T n) (fl := 0) (H := [(.blk 5 [(c_GTxn a3448)])]) (f := false) (c := c_GEdit) (l := a3448.Edits)
   rcases cnd_or h with ⟨h3474, h⟩ | ⟨h3474, h⟩
   ·have g3475 := bool_eq h3474
    obtain rfl := si h
    exact pz F3 ⟨[ff 8, ff 12, ff 17, ff 22, ff 27, ff 32, ff 36, (45, (iv ((a3448.Edits.length : Nat) : Int)), none), ff 46, (50, (iv ((a3448.Edits.length : Nat) : Int)), none), tt 51], []⟩ (W8 g3475 g3473 g3472 g3469 g3468 g3466 g3463 g3460 <| W2 g3457 g3454 <| Z g3451 Z0)
   have g3476 := bool_eq h3474
   have g3518 : cleanQ false 0 1 [(.blk 5 [(c_GTxn a3448)])] := trivial
   rcases bnd2_some h with ⟨v3521, e3519, h⟩ | ⟨v3522, e3519, h⟩
   rotate_left
   ·have g3520 := f3_L0_ok n a3448 n 0 _ e3519
    obtain rfl := si h
    exact pv_z (F := F3) ⟨[ff 8, ff 12, ff 17, ff 22, ff 27, ff 32, ff 36, (45, (iv ((a3448.Edits.length : Nat) : Int)), none), ff 46, (50, (iv ((a3448.Edits.length : Nat) : Int)), none), ff 51], []⟩ [((.exit 0), f3_L0_E1 a3448)] [] rfl (W8 g3520 g3518 g3476 g3473 g3472 g3469 g3468 g3466 <| W4 g3463 g3460 g3457 g3454 <| Z g3451 Z0) (by kernel_rfl)
   have g3520 := f3_L0_ok n a3448 n 0 _ e3519
   obtain rfl := si h
   exact pv_z (F := F3) ⟨[ff 8, ff 12, ff 17, ff 22, ff 27, ff 32, ff 36, (45, (iv ((a3448.Edits.length : Nat) : Int)), none), ff 46, (50, (iv ((a3448.Edits.length : Nat) : Int)), none), ff 51], []⟩ [(.ret, f3_L0_E0 a3448 v3521)] [] rfl (W8 g3520 g3518 g3476 g3473 g3472 g3469 g3468 g3466 <| W4 g3463 g3460 g3457 g3454 <| Z g3451 Z0) (by kernel_rfl)
  have g3523 := c_str_neq (P := PP) (cf := evF PP T n) (fl := 0) (H := [(.blk 5 [(c_GTxn a3448)])]) (t := 9) h3467
  obtain ⟨v3524, e3525, h⟩ := bnd_some h
  have g3526 := f13_ok n a3448.Source _ e3525
  rcases cnd_or h with ⟨h3527, h⟩ | ⟨h3527, h⟩
  ·have g3528 := bool_eq h3527
   obtain rfl := si h
   exact pz F3 ⟨[ff 8, ff 12, ff 17, ff 22, ff 27, ff 32, tt 36, (39, (iv v3524), none), tt 41], []⟩ (W8 g3528 g3526 g3523 g3466 g3463 g3460 g3457 g3454 <| Z g3451 Z0)
  have g3529 := bool_eq h3527
  have g3530 := len_sl (P := PP) (cf := evF PP T n) (fl := 0) (H := [(.blk 5 [(c_GTxn a3448)])]) (f := false) (c := c_GEdit) (l := a3448.Edits)
  rcases cnd_or h with ⟨h3531, h⟩ | ⟨h3531, h⟩
  ·have g3532 := bool_eq h3531
   obtain rfl := si h
   exact pz F3 ⟨[ff 8, ff 12, ff 17, ff 22, ff 27, ff 32, tt 36, (39, (iv v3524), none), ff 41, (45, (iv ((a3448.Edits.length : Nat) : Int)), none), tt 46], []⟩ (W8 g3532 g3530 g3529 g3526 g3523 g3466 g3463 g3460 <| W2 g3457 g3454 <| Z g3451 Z0)
  have g3533 := bool_eq h3531
  have g3534 := len_sl (P := PP) (cf := evF PP T n) (fl := 0) (H := [(.blk 5 [(c_GTxn a3448)])]) (f := false) (c := c_GEdit) (l := a3448.Edits)
  rcases cnd_or h with ⟨h3535, h⟩ | ⟨h3535, h⟩
  ·have g3536 := bool_eq h3535
   obtain rfl := si h
   exact pz F3 ⟨[ff 8, ff 12, ff 17, ff 22, ff 27, ff 32, tt 36, (39, (iv v3524), none), ff 41, (45, (iv ((a3448.Edits.length : Nat) : Int)), none), ff 46, (50, (iv ((a3448.Edits.length : Nat) : Int)), none), tt 51], []⟩ (W8 g3536 g3534 g3533 g3530 g3529 g3526 g3523 g3466 <| W4 g3463 g3460 g3457 g3454 <| Z g3451 Z0)
  have g3537 := bool_eq h3535
  have g3566 : cleanQ false 0 1 [(.blk 5 [(c_GTxn a3448)])] := trivial
  rcases bnd2_some h with ⟨v3569, e3567, h⟩ | ⟨v3570, e3567, h⟩
  rotate_left
  ·have g3568 := f3_L0_ok n a3448 n 0 _ e3567
   obtain rfl := si h
   exact pv_z (F := F3) ⟨[ff 8, ff 12, ff 17, ff 22, ff 27, ff 32, tt 36, (39, (iv v3524), none), ff 41, (45, (iv ((a3448.Edits.length : Nat) : Int)), none), ff 46, (50, (iv ((a3448.Edits.length : Nat) : Int)), none), ff 51], []⟩ [((.exit 0), f3_L0_E1 a3448)] [] rfl (W8 g3568 g3566 g3537 g3534 g3533 g3530 g3529 g3526 <| W4 g3523 g3466 g3463 g3460 <| W2 g3457 g3454 <| Z g3451 Z0) (by kernel_rfl)
  have g3568 := f3_L0_ok n a3448 n 0 _ e3567
  obtain rfl := si h
  exact pv_z (F := F3) ⟨[ff 8, ff 12, ff 17, ff 22, ff 27, ff 32, tt 36, (39, (iv v3524), none), ff 41, (45, (iv ((a3448.Edits.length : Nat) : Int)), none), ff 46, (50, (iv ((a3448.Edits.length : Nat) : Int)), none), ff 51], []⟩ [(.ret, f3_L0_E0 a3448 v3569)] [] rfl (W8 g3568 g3566 g3537 g3534 g3533 g3530 g3529 g3526 <| W4 g3523 g3466 g3463 g3460 <| W2 g3457 g3454 <| Z g3451 Z0) (by kernel_rfl)
end Go.Proofs.YtmflphfmefakfaaGreatDoor.Av
