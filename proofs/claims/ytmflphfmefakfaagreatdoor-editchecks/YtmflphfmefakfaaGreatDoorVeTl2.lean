/- A part of the proof of EditChecksCardSaid. -/
import Derived.Test.YtmflphfmefakfaaGreatDoorVeTl1
set_option linter.all false
namespace Go.Proofs.YtmflphfmefakfaaGreatDoor.Av
open Go
set_option linter.unusedVariables false
set_option linter.unusedSimpArgs false
theorem f2_ok (n : Nat) (a3155 : GEdit) (r : Int) (h : f2 n a3155 = some r) : pv PP T n 2 [(.agg (c_GEdit a3155))] = some (iv r) := by
 cases n with
 | zero => cases h
 | succ n =>
  rw [f2] at h
  rcases cnd_or h with ⟨h3156, h⟩ | ⟨h3156, h⟩
  ·have g3157 := bool_eq h3156
   cases h
   exact pz F2 ⟨[tt 6], []⟩ (Z g3157 Z0)
  have g3158 := bool_eq h3156
  rcases cnd_or h with ⟨h3159, h⟩ | ⟨h3159, h⟩
  ·have g3160 := bool_eq h3159
   cases h
   exact pz F2 ⟨[ff 6, tt 10], []⟩ (W2 g3160 g3158 Z0)
  have g3161 := bool_eq h3159
  rcases cnd_or h with ⟨h3162, h⟩ | ⟨h3162, h⟩
  rotate_left
  ·have g3245 := bool_eq h3162
   obtain ⟨v3246, e3247, h⟩ := bnd_some h
   have g3248 := f10_ok n a3155.Kind _ e3247
   obtain ⟨v3249, e3250, h⟩ := bnd_some h
   rcases cnd_or h with ⟨h3251, h⟩ | ⟨h3251, h⟩
   rotate_left
   ·have g3307 := by have q := f11_ok n a3155 v3246 _ e3250; rw [h3251] at q; exact q
    cases h
    exact pz F2 ⟨[ff 6, ff 10, ff 15, (26, (sv v3246), none), ff 27], []⟩ (W4 g3307 g3248 g3245 g3161 <| Z g3158 Z0)
   have g3252 := by have q := f11_ok n a3155 v3246 _ e3250; rw [h3251] at q; exact q
   have g3253 := len_sl (P := PP) (cf := evF PP T n) (fl := 0) (H := [(.blk 10 [(c_GEdit a3155)])]) (f := false) (c := c_GPoint) (l := a3155.Via)
   rcases cnd_or h with ⟨h3254, h⟩ | ⟨h3254, h⟩
   ·have g3255 := bool_eq h3254
    cases h
    exact pz F2 ⟨[ff 6, ff 10, ff 15, (26, (sv v3246), none), tt 27, (31, (iv ((a3155.Via.length : Nat) : Int)), none), tt 32], []⟩ (W4 g3255 g3253 g3252 g3248 <| W2 g3245 g3161 <| Z g3158 Z0)
   have g3256 := bool_eq h3254
   have g3257 := len_sl (P := PP) (cf := evF PP T n) (fl := 0) (H := [(.blk 10 [(c_GEdit a3155)])]) (f := false) (c := c_i64) (l := a3155.Parts)
   rcases cnd_or h with ⟨h3258, h⟩ | ⟨h3258, h⟩
   ·have g3259 := bool_eq h3258
    cases h
    exact pz F2 ⟨[ff 6, ff 10, ff 15, (26, (sv v3246), none), tt 27, (31, (iv ((a3155.Via.length : Nat) : Int)), none), ff 32, (36, (iv ((a3155.Parts.length : Nat) : Int)), none), tt 37], []⟩ (W8 g3259 g3257 g3256 g3253 g3252 g3248 g3245 g3161 <| Z g3158 Z0)
   have g3260 := bool_eq h3258
   obtain ⟨v3261, e3262, h⟩ := bnd_some h
   rcases cnd_or h with ⟨h3263, h⟩ | ⟨h3263, h⟩
   rotate_left
   ·have g3306 := by have q := f12_ok n a3155 _ e3262; rw [h3263] at q; exact q
    cases h
    exact pz F2 ⟨[ff 6, ff 10, ff 15, (26, (sv v3246), none), tt 27, (31, (iv ((a3155.Via.length : Nat) : Int)), none), ff 32, (36, (iv ((a3155.Parts.length : Nat) : Int)), none), ff 37, ff 40], []⟩ (W8 g3306 g3260 g3257 g3256 g3253 g3252 g3248 g3245 <| W2 g3161 g3158 Z0)
   have g3264 := by have q := f12_ok n a3155 _ e3262; rw [h3263] at q; exact q
   have g3292 : cleanQ false 0 1 [(.blk 10 [(c_GEdit a3155)])] := trivial
   rcases bnd2_some h with ⟨v3295, e3293, h⟩ | ⟨v3296, e3293, h⟩
   ·have g3294 := f2_L0_ok n a3155 n 1 _ e3293
    cases h
    exact pv_z (F := F2) ⟨[ff 6, ff 10, ff 15, (26, (sv v3246), none), tt 27, (31, (iv ((a3155.Via.length : Nat) : Int)), none), ff 32, (36, (iv ((a3155.Parts.length : Nat) : Int)), none), ff 37, tt 40], []⟩ [(.ret, f2_L0_E0 a3155)] [] rfl (W8 g3294 g3292 g3264 g3260 g3257 g3256 g3253 g3252 <| W4 g3248 g3245 g3161 g3158 Z0) (by kernel_rfl)
   have g3294 := f2_L0_ok n a3155 n 1 _ e3293
   rcases cnd_or h with ⟨h3297, h⟩ | ⟨h3297, h⟩
   ·have g3298 := c_str_neq (P := PP) (cf := evF PP T n) (fl := 0) (H := [(.blk 10 [(c_GEdit a3155)])]) (t := 9) h3297
    cases h
    exact pv_z (F := F2) ⟨[ff 6, ff 10, ff 15, (26, (sv v3246), none), tt 27, (31, (iv ((a3155.Via.length : Nat) : Int)), none), ff 32, (36, (iv ((a3155.Parts.length : Nat) : Int)), none), ff 37, tt 40, ff 63], []⟩ [((.exit 0), f2_L0_E1 a3155)] [] rfl (W8 g3298 g3294 g3292 g3264 g3260 g3257 g3256 g3253 <| W4 g3252 g3248 g3245 g3161 <| Z g3158 Z0) (by kernel_rfl)
   have g3299 := c_str_neq (P := PP) (cf := evF PP T n) (fl := 0) (H := [(.blk 10 [(c_GEdit a3155)])]) (t := 9) h3297
   obtain ⟨v3300, e3301, h⟩ := bnd_some h
   have g3302 := f13_ok n a3155.Name _ e3301
   rcases cnd_or h with ⟨h3303, h⟩ | ⟨h3303, h⟩
   ·have g3304 := bool_eq h3303
    cases h
    exact pv_z (F := F2) ⟨[ff 6, ff 10, ff 15, (26, (sv v3246), none), tt 27, (31, (iv ((a3155.Via.length : Nat) : Int)), none), ff 32, (36, (iv ((a3155.Parts.length : Nat) : Int)), none), ff 37, tt 40, tt 63, (67, (iv v3300), none), tt 68], []⟩ [((.exit 0), f2_L0_E1 a3155)] [] rfl (W8 g3304 g3302 g3299 g3294 g3292 g3264 g3260 g3257 <| W4 g3256 g3253 g3252 g3248 <| W2 g3245 g3161 <| Z g3158 Z0) (by kernel_rfl)
   have g3305 := bool_eq h3303
   cases h
   exact pv_z (F := F2) ⟨[ff 6, ff 10, ff 15, (26, (sv v3246), none), tt 27, (31, (iv ((a3155.Via.length : Nat) : Int)), none), ff 32, (36, (iv ((a3155.Parts.length : Nat) : Int)), none), ff 37, tt 40, tt 63, (67, (iv v3300), none), ff 68], []⟩ [((.exit 0), f2_L0_E1 a3155)] [] rfl (W8 g3305 g3302 g3299 g3294 g3292 g3264 g3260 g3257 <| W4 g3256 g3253 g3252 g3248 <| W2 g3245 g3161 <| Z g3158 Z0) (by kernel_rfl)
  have g3163 := bool_eq h3162
  obtain ⟨v3164, e3165, h⟩ := bnd_some h
  have g3166 := f9_ok n a3155.A _ e3165
  rcases cnd_or h with ⟨h3167, h⟩ | ⟨h3167, h⟩
  ·have g3168 := bool_eq h3167
   cases h
   exact pz F2 ⟨[ff 6, ff 10, tt 15, (19, (iv v3164), none), tt 20], []⟩ (W4 g3168 g3166 g3163 g3161 <| Z g3158 Z0)
  have g3169 := bool_eq h3167
  obtain ⟨v3170, e3171, h⟩ := bnd_some h
  have g3172 := f10_ok n a3155.Kind _ e3171
  obtain ⟨v3173, e3174, h⟩ := bnd_some h
  rcases cnd_or h with ⟨h3175, h⟩ | ⟨h3175, h⟩
  rotate_left
  ·have g3244 := by have q := f11_ok n a3155 v3170 _ e3174; rw [h3175] at q; exact q
   cases h
   exact pz F2 ⟨[ff 6, ff 10, tt 15, (19, (iv v3164), none), ff 20, (26, (sv v3170), none), ff 27], []⟩ (W4 g3244 g3172 g3169 g3166 <| W2 g3163 g3161 <| Z g3158 Z0)
  have g3176 := by have q := f11_ok n a3155 v3170 _ e3174; rw [h3175] at q; exact q
  have g3177 := len_sl (P := PP) (cf := evF PP T n) (fl := 0) (H := [(.blk 10 [(c_GEdit a3155)])]) (f := false) (c := c_GPoint) (l := a3155.Via)
  rcases cnd_or h with ⟨h3178, h⟩ | ⟨h3178, h⟩
  ·have g3179 := bool_eq h3178
   cases h
   exact pz F2 ⟨[ff 6, ff 10, tt 15, (19, (iv v3164), none), ff 20, (26, (sv v3170), none), tt 27, (31, (iv ((a3155.Via.length : Nat) : Int)), none), tt 32], []⟩ (W8 g3179 g3177 g3176 g3172 g3169 g3166 g3163 g3161 <| Z g3158 Z0)
  have g3180 := bool_eq h3178
  have g3181 := len_sl (P := PP) (cf := evF PP T n) (fl := 0) (H := [(.blk 10 [(c_GEdit a3155)])]) (f := false) (c := c_i64) (l := a3155.Parts)
  rcases cnd_or h with ⟨h3182, h⟩ | ⟨h3182, h⟩
  ·have g3183 := bool_eq h3182
   cases h
   exact pz F2 ⟨[ff 6, ff 10, tt 15, (19, (iv v3164), none), ff 20, (26, (sv v3170), none), tt 27, (31, (iv ((a3155.Via.length : Nat) : Int)), none), ff 32, (36, (iv ((a3155.Parts.length : Nat) : Int)), none), tt 37], []⟩ (W8 g3183 g3181 g3180 g3177 g3176 g3172 g3169 g3166 <| W2 g3163 g3161 <| Z g3158 Z0)
  have g3184 := bool_eq h3182
  obtain ⟨v3185, e3186, h⟩ := bnd_some h
  rcases cnd_or h with ⟨h3187, h⟩ | ⟨h3187, h⟩
  rotate_left
  ·have g3243 := by have q := f12_ok n a3155 _ e3186; rw [h3187] at q; exact q
   cases h
   exact pz F2 ⟨[ff 6, ff 10, tt 15, (19, (iv v3164), none), ff 20, (26, (sv v3170), none), tt 27, (31, (iv ((a3155.Via.length : Nat) : Int)), none), ff 32, (36, (iv ((a3155.Parts.length : Nat) : Int)), none), ff 37, ff 40], []⟩ (W8 g3243 g3184 g3181 g3180 g3177 g3176 g3172 g3169 <| W4 g3166 g3163 g3161 g3158 Z0)
  have g3188 := by have q := f12_ok n a3155 _ e3186; rw [h3187] at q; exact q
  have g3229 : cleanQ false 0 1 [(.blk 10 [(c_GEdit a3155)])] := trivial
  rcases bnd2_some h with ⟨v3232, e3230, h⟩ | ⟨v3233, e3230, h⟩
  ·have g3231 := f2_L0_ok n a3155 n 1 _ e3230
   cases h
   exact pv_z (F := F2) ⟨[ff 6, ff 10, tt 15, (19, (iv v3164), none), ff 20, (26, (sv v3170), none), tt 27, (31, (iv ((a3155.Via.length : Nat) : Int)), none), ff 32, (36, (iv ((a3155.Parts.length : Nat) : Int)), none), ff 37, tt 40], []⟩ [(.ret, f2_L0_E0 a3155)] [] rfl (W8 g3231 g3229 g3188 g3184 g3181 g3180 g3177 g3176 <| W4 g3172 g3169 g3166 g3163 <| W2 g3161 g3158 Z0) (by kernel_rfl)
  have g3231 := f2_L0_ok n a3155 n 1 _ e3230
  rcases cnd_or h with ⟨h3234, h⟩ | ⟨h3234, h⟩
  ·have g3235 := c_str_neq (P := PP) (cf := evF PP T n) (fl := 0) (H := [(.blk 10 [(c_GEdit a3155)])]) (t := 9) h3234
   cases h
   exact pv_z (F := F2) ⟨[ff 6, ff 10, tt 15, (19, (iv v3164), none), ff 20, (26, (sv v3170), none), tt 27, (31, (iv ((a3155.Via.length : Nat) : Int)), none), ff 32, (36, (iv ((a3155.Parts.length : Nat) : Int)), none), ff 37, tt 40, ff 63], []⟩ [((.exit 0), f2_L0_E1 a3155)] [] rfl (W8 g3235 g3231 g3229 g3188 g3184 g3181 g3180 g3177 <| W4 g3176 g3172 g3169 g3166 <| W2 g3163 g3161 <| Z g3158 Z0) (by kernel_rfl)
  have g3236 := c_str_neq (P := PP) (cf := evF PP T n) (fl := 0) (H := [(.blk 10 [(c_GEdit a3155)])]) (t := 9) h3234
  obtain ⟨v3237, e3238, h⟩ := bnd_some h
  have g3239 := f13_ok n a3155.Name _ e3238
  rcases cnd_or h with ⟨h3240, h⟩ | ⟨h3240, h⟩
  ·have g3241 := bool_eq h3240
   cases h
   exact pv_z (F := F2) ⟨[ff 6, ff 10, tt 15, (19, (iv v3164), none), ff 20, (26, (sv v3170), none), tt 27, (31, (iv ((a3155.Via.length : Nat) : Int)), none), ff 32, (36, (iv ((a3155.Parts.length : Nat) : Int)), none), ff 37, tt 40, tt 63, (67, (iv v3237), none), tt 68], []⟩ [((.exit 0), f2_L0_E1 a3155)] [] rfl (W8 g3241 g3239 g3236 g3231 g3229 g3188 g3184 g3181 <| W8 g3180 g3177 g3176 g3172 g3169 g3166 g3163 g3161 <| Z g3158 Z0) (by kernel_rfl)
  have g3242 := bool_eq h3240
  cases h
  exact pv_z (F := F2) ⟨[ff 6, ff 10, tt 15, (19, (iv v3164), none), ff 20, (26, (sv v3170), none), tt 27, (31, (iv ((a3155.Via.length : Nat) : Int)), none), ff 32, (36, (iv ((a3155.Parts.length : Nat) : Int)), none), ff 37, tt 40, tt 63, (67, (iv v3237), none), ff 68], []⟩ [((.exit 0), f2_L0_E1 a3155)] [] rfl (W8 g3242 g3239 g3236 g3231 g3229 g3188 g3184 g3181 <| W8 g3180 g3177 g3176 g3172 g3169 g3166 g3163 g3161 <| Z g3158 Z0) (by kernel_rfl)
end Go.Proofs.YtmflphfmefakfaaGreatDoor.Av
