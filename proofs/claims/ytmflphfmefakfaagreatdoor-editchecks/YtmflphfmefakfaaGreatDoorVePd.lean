/- A part of the proof of EditChecksCardSaid. -/
import Derived.Test.YtmflphfmefakfaaGreatDoorVeTl2
import Derived.IntWalk
set_option linter.all false
namespace Go.Proofs.YtmflphfmefakfaaGreatDoor.Av
open Go Go.IntWalk
set_option linter.unusedVariables false
set_option linter.unusedSimpArgs false
def lookT (r : Int) : List GT196 → Int
 | [] => -1
 | x :: l => if x.first ≤ r ∧ r ≤ x.last then x.script else lookT r l
theorem f49_n (n : Nat) (r : Int) : f49 (n + 2) r = f49 2 r := rfl
def scr (r : Int) : Int := lookT r tab0
theorem f77_eq (n : Nat) (r : Int) : f77 (n + 1) r = some (decide (48 ≤ r ∧ r ≤ 57)) := by
 simp only [f77, cnd_ite, decide_eq_true_eq]
 split
 ·split
  ·rw [decide_eq_true (by omega)]
  ·rw [decide_eq_false (by omega)]
 ·rw [decide_eq_false (by omega)]
set_option maxHeartbeats 2000000 in
theorem f49_eq (n : Nat) (r : Int) : f49 (n + 2) r = some (scr r) := by
 rw [f49, f77_eq]
 simp only [scr, tab0, lookT, cnd_ite, bnd, decide_eq_true_eq, beq_iff_eq, bne_iff_ne, ne_eq]
 have hk : ∀ (p : Prop) [Decidable p] (a b c : Option Int), (p → a = c) → (¬ p → b = c) → (if p then a else b) = c := by
  intro p _ a b c h1 h2
  split
  ·exact h1 (by assumption)
  ·exact h2 (by assumption)
 have hk2 : ∀ (p : Prop) [Decidable p] (a : Option Int) (b c : Int), (p → a = some b) → (¬ p → a = some c) → a = some (if p then b else c) := by
  intro p _ a b c h1 h2
  split
  ·exact h1 (by assumption)
  ·exact h2 (by assumption)
 repeat' (apply hk <;> intro _)
 all_goals repeat' (apply hk2 <;> intro _)
 all_goals first | rfl | (exfalso; omega)
theorem f47_L0_eq (n : Nat) (r : Int) (hr : IntKind.i32.wrap r = r) : ∀ (d m : Nat) (i : Nat), i + d = 13 → d < m → ∃ z, f47_L0 n r m (i : Int) = some z ∧ (match z with | .inl v => v.2.2.2 = lookT r (tab0.drop i) | .inr _ => lookT r (tab0.drop i) = -1) := by
 intro d
 induction d with
 | zero =>
  intro m i hi hm
  obtain ⟨m, rfl⟩ : ∃ k, m = k + 1 := ⟨m - 1, by omega⟩
  obtain rfl : i = 13 := by omega
  exact ⟨.inr (), by simp [f47_L0, cnd], rfl⟩
 | succ d ih =>
  intro m i hi hm
  obtain ⟨m, rfl⟩ : ∃ k, m = k + 1 := ⟨m - 1, by omega⟩
  obtain ⟨z, h1, h2⟩ := ih m (i + 1) (by omega) (by omega)
  have hlt : i < tab0.length := by show i < 13; omega
  have hdrop : tab0.drop i = tab0[i] :: tab0.drop (i + 1) := List.drop_eq_getElem_cons hlt
  have hidx : idx tab0 (i : Int) = some tab0[i] := by rw [idx_nat, List.getElem?_eq_getElem hlt]
  have hw : IntKind.i64.wrap ((i : Int) + 1) = ((i + 1 : Nat) : Int) := by rw [i64_in _ (by omega)]; push_cast; rfl
  have hlt2 : decide ((i : Int) < 13) = true := decide_eq_true (by omega)
  simp only [f47_L0, hlt2, cnd, bnd_of hidx, hr, hw, h1, hdrop, lookT]
  generalize tab0[i] = x at *
  by_cases c1 : x.first ≤ r
  ·by_cases c2 : r ≤ x.last
   ·exact ⟨.inl (x.first, x.last, x.script, x.script), by simp only [decide_eq_true c1, decide_eq_true c2], by simp [c1, c2]⟩
   ·refine ⟨z, by simp only [decide_eq_true c1, decide_eq_false c2], ?_⟩
    rw [if_neg (fun h => c2 h.2)]; exact h2
  ·refine ⟨z, by simp only [decide_eq_false c1], ?_⟩
   rw [if_neg (fun h => c1 h.1)]; exact h2
theorem scr_neg (r : Int) (h : r < 0 ∨ 1114111 < r) : scr r = -1 := by
 simp only [scr, tab0, lookT]
 iterate 13 rw [if_neg (by omega)]
theorem f47_eq (n : Nat) (r : Int) (hn : 15 ≤ n) : f47 n r = some (scr r) := by
 obtain ⟨n, rfl⟩ : ∃ k, n = k + 1 := ⟨n - 1, by omega⟩
 simp only [f47]
 by_cases c1 : r < 0
 ·simp only [decide_eq_true c1, cnd, scr_neg r (.inl c1)]
 ·by_cases c2 : r > 1114111
  ·simp only [decide_eq_false c1, decide_eq_true c2, cnd, scr_neg r (.inr c2)]
  ·simp only [decide_eq_false c1, decide_eq_false c2, cnd]
   obtain ⟨z, h1, h2⟩ := f47_L0_eq n r (i32_in r (by omega)) 13 n 0 rfl (by omega)
   have h1' : f47_L0 n r n 0 = some z := h1
   rw [h1']
   cases z with
   | inl v => simp only [bnd2]; simp only at h2; rw [h2]; rfl
   | inr v => simp only [bnd2]; simp only at h2; exact congrArg some h2.symm
end Go.Proofs.YtmflphfmefakfaaGreatDoor.Av
namespace Go.Proofs.YtmflphfmefakfaaGreatDoor.Av
open Go Go.IntWalk
set_option linter.unusedVariables false
set_option linter.unusedSimpArgs false
theorem ba_ext {s t : ByteArray} : s = t ↔ s.data.toList = t.data.toList := by
 constructor
 ·intro h; rw [h]
 ·intro h
  cases s; cases t
  simp only [Array.toList_inj] at h
  rw [h]
theorem ba_size (s : ByteArray) : s.size = s.data.toList.length := by rw [Array.length_toList]; rfl
theorem ext_list (s : ByteArray) (a b : Nat) : (s.extract a b).data.toList = (s.data.toList.drop a).take (b - a) := by
 simp [ByteArray.data_extract, Array.toList_extract, List.extract_eq_take_drop]
theorem cut_list {s : ByteArray} {k j : Nat} (h : k + j ≤ s.size) : cutS s (k : Int) ((k + j : Nat) : Int) = some (s.extract k (k + j)) ∧ (s.extract k (k + j)).data.toList = (s.data.toList.drop k).take j := by
 constructor
 ·unfold cutS
  rw [if_pos ⟨by omega, by omega, by rw [Int.toNat_natCast]; exact h⟩, Int.toNat_natCast, Int.toNat_natCast]
 ·rw [ext_list]; congr 1; omega
theorem b_lt (b : UInt8) : b.toNat < 256 := b.toNat_lt
theorem sat_list {s : ByteArray} {l : List UInt8} (h : s.data.toList = l) (i : Nat) (b : UInt8) (hb : l[i]? = some b) : sat s (i : Int) = some (b.toNat : Int) := by
 unfold sat
 rw [if_pos (by omega), h]
 simp [hb]
theorem tmod_nat (a b : Nat) : Int.tmod (a : Int) (b : Int) = ((a % b : Nat) : Int) := (Int.ofNat_tmod a b).symm
theorem tdiv_nat (a b : Nat) : Int.tdiv (a : Int) (b : Int) = ((a / b : Nat) : Int) := (Int.ofNat_tdiv a b).symm
theorem f48_1 (n : Nat) {t : ByteArray} {b0 : UInt8} (h : t.data.toList = [b0]) : f48 (n + 1) t = some (b0.toNat : Int) := by
 have h0 := b_lt b0
 have hs : t.size = 1 := by rw [ba_size, h]; rfl
 have e0 : sat t 0 = some (b0.toNat : Int) := sat_list h 0 b0 rfl
 simp only [f48, hs, show ((((1 : Nat) : Int)) == 1) = true from rfl, cnd, bnd_of e0]
 rw [i64_in _ (by omega)]
theorem f48_2 (n : Nat) {t : ByteArray} {b0 b1 : UInt8} (h : t.data.toList = [b0, b1]) : f48 (n + 1) t = some ((b0.toNat % 32 * 64 + b1.toNat % 64 : Nat) : Int) := by
 have h0 := b_lt b0
 have h1 := b_lt b1
 have hs : t.size = 2 := by rw [ba_size, h]; rfl
 have e0 : sat t 0 = some (b0.toNat : Int) := sat_list h 0 b0 rfl
 have e1 : sat t 1 = some (b1.toNat : Int) := sat_list h 1 b1 rfl
 simp only [f48, hs, show ((((2 : Nat) : Int)) == 1) = false from rfl, show ((((2 : Nat) : Int)) == 2) = true from rfl, cnd, bnd_of e0, bnd_of e1]
 rw [i64_in (b0.toNat : Int) (by omega), i64_in (b1.toNat : Int) (by omega)]
 have q0 : Int.tmod (b0.toNat : Int) 32 = ((b0.toNat % 32 : Nat) : Int) := tmod_nat _ 32
 have q1 : Int.tmod (b1.toNat : Int) 64 = ((b1.toNat % 64 : Nat) : Int) := tmod_nat _ 64
 rw [q0, q1, i64_in (((b0.toNat % 32 : Nat) : Int) * 64) (by omega), i64_in _ (by omega)]
 rfl
theorem f48_3 (n : Nat) {t : ByteArray} {b0 b1 b2 : UInt8} (h : t.data.toList = [b0, b1, b2]) : f48 (n + 1) t = some ((b0.toNat % 16 * 4096 + b1.toNat % 64 * 64 + b2.toNat % 64 : Nat) : Int) := by
 have h0 := b_lt b0
 have h1 := b_lt b1
 have h2 := b_lt b2
 have hs : t.size = 3 := by rw [ba_size, h]; rfl
 have e0 : sat t 0 = some (b0.toNat : Int) := sat_list h 0 b0 rfl
 have e1 : sat t 1 = some (b1.toNat : Int) := sat_list h 1 b1 rfl
 have e2 : sat t 2 = some (b2.toNat : Int) := sat_list h 2 b2 rfl
 simp only [f48, hs, show ((((3 : Nat) : Int)) == 1) = false from rfl, show ((((3 : Nat) : Int)) == 2) = false from rfl, cnd, bnd_of e0, bnd_of e1, bnd_of e2]
 rw [i64_in (b0.toNat : Int) (by omega), i64_in (b1.toNat : Int) (by omega), i64_in (b2.toNat : Int) (by omega)]
 have q0 : Int.tmod (b0.toNat : Int) 16 = ((b0.toNat % 16 : Nat) : Int) := tmod_nat _ 16
 have q1 : Int.tmod (b1.toNat : Int) 64 = ((b1.toNat % 64 : Nat) : Int) := tmod_nat _ 64
 have q2 : Int.tmod (b2.toNat : Int) 64 = ((b2.toNat % 64 : Nat) : Int) := tmod_nat _ 64
 rw [q0, q1, q2, i64_in (((b0.toNat % 16 : Nat) : Int) * 4096) (by omega), i64_in (((b1.toNat % 64 : Nat) : Int) * 64) (by omega), i64_in (((b0.toNat % 16 : Nat) : Int) * 4096 + ((b1.toNat % 64 : Nat) : Int) * 64) (by omega), i64_in _ (by omega)]
 rfl
def unitL (c : Nat) : List UInt8 :=
 if c < 128 then [UInt8.ofNat c]
 else if c < 2048 then [UInt8.ofNat (192 + c / 64), UInt8.ofNat (128 + c % 64)]
 else [UInt8.ofNat (224 + c / 4096), UInt8.ofNat (128 + c / 64 % 64), UInt8.ofNat (128 + c % 64)]
theorem f50_eq (n c : Nat) (hc : c < 65536) : ∃ t, f50 (n + 1) (c : Int) = some t ∧ t.data.toList = unitL c := by
 have q0 : Int.tdiv (c : Int) 64 = ((c / 64 : Nat) : Int) := tdiv_nat c 64
 have q1 : Int.tmod (c : Int) 64 = ((c % 64 : Nat) : Int) := tmod_nat c 64
 have q2 : Int.tdiv (c : Int) 4096 = ((c / 4096 : Nat) : Int) := tdiv_nat c 4096
 have q3 : Int.tmod ((c / 64 : Nat) : Int) 64 = ((c / 64 % 64 : Nat) : Int) := tmod_nat (c / 64) 64
 simp only [f50, unitL]
 by_cases c1 : c < 128
 ·rw [decide_eq_true (show (c : Int) < 128 by omega), if_pos c1]
  refine ⟨_, rfl, ?_⟩
  rw [u8_in _ (by omega)]
  rfl
 ·rw [decide_eq_false (show ¬ (c : Int) < 128 by omega), if_neg c1]
  by_cases c2 : c < 2048
  ·rw [decide_eq_true (show (c : Int) < 2048 by omega), if_pos c2]
   refine ⟨_, rfl, ?_⟩
   rw [q0, q1, i64_in ((c / 64 : Nat) : Int) (by omega), i64_in _ (by omega), i64_in _ (by omega), u8_in _ (by omega), u8_in _ (by omega)]
   rfl
  ·rw [decide_eq_false (show ¬ (c : Int) < 2048 by omega), if_neg c2]
   refine ⟨_, rfl, ?_⟩
   rw [q0, q1, q2, i64_in ((c / 64 : Nat) : Int) (by omega), i64_in ((c / 4096 : Nat) : Int) (by omega), q3, i64_in _ (by omega), i64_in _ (by omega), i64_in _ (by omega), u8_in _ (by omega), u8_in _ (by omega), u8_in _ (by omega)]
   rfl
theorem ofNat_eq {a : Nat} {b : UInt8} (ha : a < 256) : UInt8.ofNat a = b ↔ a = b.toNat := by
 rw [← UInt8.toNat_inj, UInt8.toNat_ofNat', Nat.mod_eq_of_lt ha]
end Go.Proofs.YtmflphfmefakfaaGreatDoor.Av
namespace Go.Proofs.YtmflphfmefakfaaGreatDoor.Av
open Go Go.IntWalk
set_option linter.unusedVariables false
set_option linter.unusedSimpArgs false
theorem scr_ge {r : Int} (h : 0 ≤ scr r) : r < 55296 := by
 apply Classical.byContradiction
 intro hr
 have : scr r = -1 := by
  simp only [scr, tab0, lookT]
  iterate 13 rw [if_neg (by omega)]
 omega
theorem scr_bnd (r : Int) : -1 ≤ scr r := by
 simp only [scr, tab0, lookT]
 have hk : ∀ (p : Prop) [Decidable p] (a b : Int), (-1 ≤ a) → (-1 ≤ b) → -1 ≤ (if p then a else b) := by
  intro p _ a b h1 h2
  split <;> assumption
 repeat' (apply hk)
 all_goals decide
theorem get_list (s : ByteArray) {l : List UInt8} (h : s.data.toList = l) {i : Nat} {b : UInt8} (hb : l[i]? = some b) : s.get! i = b := by
 subst h
 have : s.data[i]? = some b := by simpa using hb
 have hlt : i < s.data.size := (Array.getElem?_eq_some_iff.1 this).1
 show s.data[i]! = b
 rw [getElem!_pos s.data i hlt]
 exact (Array.getElem?_eq_some_iff.1 this).2
theorem dec_cases {s : ByteArray} {k : Nat} {b0 : UInt8} {r : List UInt8} (h : s.data.toList.drop k = b0 :: r) :
  (b0.toNat < 128 → Utf8.decode s k = (b0.toNat, 1)) ∧
  (∀ b1 q, r = b1 :: q → b0.toNat / 32 = 6 → b1.toNat / 64 = 2 → 128 ≤ b0.toNat % 32 * 64 + b1.toNat % 64 → Utf8.decode s k = (b0.toNat % 32 * 64 + b1.toNat % 64, 2)) ∧
  (∀ b1 b2 q, r = b1 :: b2 :: q → b0.toNat / 16 = 14 → b1.toNat / 64 = 2 → b2.toNat / 64 = 2 → 2048 ≤ b0.toNat % 16 * 4096 + b1.toNat % 64 * 64 + b2.toNat % 64 → b0.toNat % 16 * 4096 + b1.toNat % 64 * 64 + b2.toNat % 64 < 55296 → Utf8.decode s k = (b0.toNat % 16 * 4096 + b1.toNat % 64 * 64 + b2.toNat % 64, 3)) ∧
  (0 ≤ scr ((Utf8.decode s k).1 : Int) → b0.toNat < 128 ∨ (∃ b1 q, r = b1 :: q ∧ b0.toNat / 32 = 6 ∧ b1.toNat / 64 = 2 ∧ 128 ≤ b0.toNat % 32 * 64 + b1.toNat % 64) ∨
   (∃ b1 b2 q, r = b1 :: b2 :: q ∧ b0.toNat / 16 = 14 ∧ b1.toNat / 64 = 2 ∧ b2.toNat / 64 = 2 ∧ 2048 ≤ b0.toNat % 16 * 4096 + b1.toNat % 64 * 64 + b2.toNat % 64)) := by
 have hget : ∀ j b, (b0 :: r)[j]? = some b → s.get! (k + j) = b := by
  intro j b hb
  apply get_list s rfl
  rw [← h, List.getElem?_drop] at hb
  exact hb
 have hsz : s.size = k + (b0 :: r).length := by
  have := congrArg List.length h
  rw [List.length_drop] at this
  rw [ba_size]
  simp at this ⊢
  omega
 have g0 : s.get! (k + 0) = b0 := hget 0 b0 rfl
 have hb0 := b_lt b0
 refine ⟨?_, ?_, ?_, ?_⟩
 ·intro h0
  simp only [Utf8.decode, g0, h0, if_true]
 ·intro b1 q hr h0 h1 hc
  have hb1 := b_lt b1
  have g1 : s.get! (k + 1) = b1 := hget 1 b1 (by rw [hr]; rfl)
  have hlt : k + 1 < s.size := by rw [hsz, hr]; simp
  have n0 : ¬ b0.toNat < 128 := by omega
  simp only [Utf8.decode, g0, g1, n0, if_false, h0, h1, hlt, decide_true, Bool.and_self, beq_self_eq_true, if_true]
  rw [if_pos (by simpa using hc)]
 ·intro b1 b2 q hr h0 h1 h2 hc hv
  have hb1 := b_lt b1
  have hb2 := b_lt b2
  have g1 : s.get! (k + 1) = b1 := hget 1 b1 (by rw [hr]; rfl)
  have g2 : s.get! (k + 2) = b2 := hget 2 b2 (by rw [hr]; rfl)
  have hlt : k + 1 < s.size := by rw [hsz, hr]; simp
  have hlt2 : k + 2 < s.size := by rw [hsz, hr]; simp
  have n0 : ¬ b0.toNat < 128 := by omega
  have n1 : (b0.toNat / 32 == 6) = false := by simp; omega
  have hval : Utf8.valid (b0.toNat % 16 * 4096 + b1.toNat % 64 * 64 + b2.toNat % 64 : Nat) = true := by
   simp only [Utf8.valid, Bool.or_eq_true, Bool.and_eq_true, decide_eq_true_eq]
   left; omega
  simp only [Utf8.decode, g0, g1, g2, n0, if_false, n1, Bool.false_and, Bool.false_eq_true, h0, h1, h2, hlt, hlt2, decide_true, Bool.and_self, beq_self_eq_true, if_true]
  rw [if_pos (by rw [hval]; simpa using hc)]
 ·intro hs
  by_cases c0 : b0.toNat < 128
  ·exact .inl c0
  right
  have hbad : ¬ 0 ≤ scr ((65533 : Nat) : Int) := fun h => by have := scr_ge h; omega
  have eC : ∀ j, (decide (k + j < s.size) && (s.get! (k + j)).toNat / 64 == 2) = true → ∃ b, (b0 :: r)[j]? = some b ∧ b.toNat / 64 = 2 := by
   intro j hj
   simp only [Bool.and_eq_true, decide_eq_true_eq, beq_iff_eq] at hj
   have hjl : j < (b0 :: r).length := by omega
   refine ⟨(b0 :: r)[j], List.getElem?_eq_getElem hjl, ?_⟩
   rw [← hget j _ (List.getElem?_eq_getElem hjl)]
   exact hj.2
  unfold Utf8.decode at hs
  simp only [Utf8.runeError, g0, c0, if_false] at hs
  split at hs
  ·rename_i hc
   rw [Bool.and_eq_true, beq_iff_eq] at hc
   split at hs
   ·rename_i hge
    left
    obtain ⟨b1, e1, e2⟩ := eC 1 hc.2
    cases r with
    | nil => simp at e1
    | cons b q =>
     simp only [List.getElem?_cons_succ, List.getElem?_cons_zero, Option.some.injEq] at e1
     subst e1
     refine ⟨b, q, rfl, hc.1, e2, ?_⟩
     have g1 : s.get! (k + 1) = b := hget 1 b rfl
     rw [g1] at hge
     exact hge
   ·exact (hbad hs).elim
  ·split at hs
   ·rename_i hc
    rw [Bool.and_eq_true, Bool.and_eq_true, beq_iff_eq] at hc
    split at hs
    ·rename_i hge
     right
     obtain ⟨b1, e1, e2⟩ := eC 1 hc.1.2
     obtain ⟨b2, e3, e4⟩ := eC 2 hc.2
     match r, e1, e3 with
     | b :: d :: q, e1, e3 =>
      simp only [List.getElem?_cons_succ, List.getElem?_cons_zero, Option.some.injEq] at e1 e3
      subst e1
      subst e3
      have g1 : s.get! (k + 1) = b := hget 1 b rfl
      have g2 : s.get! (k + 2) = d := hget 2 d rfl
      rw [g1, g2, Bool.and_eq_true, decide_eq_true_eq] at hge
      exact ⟨b, d, q, rfl, hc.1.1, e2, e4, hge.1⟩
    ·exact (hbad hs).elim
   ·split at hs
    ·split at hs
     ·rename_i hge
      have := scr_ge hs
      simp only [Bool.and_eq_true, decide_eq_true_eq] at hge
      omega
     ·exact (hbad hs).elim
    ·exact (hbad hs).elim
end Go.Proofs.YtmflphfmefakfaaGreatDoor.Av
namespace Go.Proofs.YtmflphfmefakfaaGreatDoor.Av
open Go Go.IntWalk
set_option linter.unusedVariables false
set_option linter.unusedSimpArgs false
structure DecC (s : ByteArray) (k : Nat) (b0 : UInt8) (r : List UInt8) : Prop where
 d1 : b0.toNat < 128 → Utf8.decode s k = (b0.toNat, 1)
 d2 : ∀ b1 q, r = b1 :: q → b0.toNat / 32 = 6 → b1.toNat / 64 = 2 → 128 ≤ b0.toNat % 32 * 64 + b1.toNat % 64 → Utf8.decode s k = (b0.toNat % 32 * 64 + b1.toNat % 64, 2)
 d3 : ∀ b1 b2 q, r = b1 :: b2 :: q → b0.toNat / 16 = 14 → b1.toNat / 64 = 2 → b2.toNat / 64 = 2 → 2048 ≤ b0.toNat % 16 * 4096 + b1.toNat % 64 * 64 + b2.toNat % 64 → b0.toNat % 16 * 4096 + b1.toNat % 64 * 64 + b2.toNat % 64 < 55296 → Utf8.decode s k = (b0.toNat % 16 * 4096 + b1.toNat % 64 * 64 + b2.toNat % 64, 3)
 d4 : 0 ≤ scr ((Utf8.decode s k).1 : Int) → b0.toNat < 128 ∨ (∃ b1 q, r = b1 :: q ∧ b0.toNat / 32 = 6 ∧ b1.toNat / 64 = 2 ∧ 128 ≤ b0.toNat % 32 * 64 + b1.toNat % 64) ∨
   (∃ b1 b2 q, r = b1 :: b2 :: q ∧ b0.toNat / 16 = 14 ∧ b1.toNat / 64 = 2 ∧ b2.toNat / 64 = 2 ∧ 2048 ≤ b0.toNat % 16 * 4096 + b1.toNat % 64 * 64 + b2.toNat % 64)
theorem unit1 {b0 : UInt8} : unitL b0.toNat = [b0] ↔ b0.toNat < 128 := by
 have h0 := b_lt b0
 unfold unitL
 split
 ·rename_i h; simp [ofNat_eq h0, h]
 ·rename_i h; split <;> simp [h]
theorem unit2 {b0 b1 : UInt8} : unitL (b0.toNat % 32 * 64 + b1.toNat % 64) = [b0, b1] ↔ 128 ≤ b0.toNat % 32 * 64 + b1.toNat % 64 ∧ b0.toNat / 32 = 6 ∧ b1.toNat / 64 = 2 := by
 have h0 := b_lt b0
 have h1 := b_lt b1
 unfold unitL
 split
 ·rename_i h; simp; omega
 ·rename_i h
  rw [if_pos (by omega)]
  simp only [List.cons.injEq, and_true]
  rw [ofNat_eq (by omega), ofNat_eq (by omega)]
  omega
theorem unit3 {b0 b1 b2 : UInt8} : unitL (b0.toNat % 16 * 4096 + b1.toNat % 64 * 64 + b2.toNat % 64) = [b0, b1, b2] ↔ 2048 ≤ b0.toNat % 16 * 4096 + b1.toNat % 64 * 64 + b2.toNat % 64 ∧ b0.toNat / 16 = 14 ∧ b1.toNat / 64 = 2 ∧ b2.toNat / 64 = 2 := by
 have h0 := b_lt b0
 have h1 := b_lt b1
 have h2 := b_lt b2
 unfold unitL
 split
 ·rename_i h; simp; omega
 ·split
  ·rename_i h; simp; omega
  ·rename_i h
   simp only [List.cons.injEq, and_true]
   rw [ofNat_eq (by omega), ofNat_eq (by omega), ofNat_eq (by omega)]
   omega
theorem inner_stop (n : Nat) (s : ByteArray) (k : Int) (m : Nat) (l : List Int) (u i : Int) (hu : u ≠ 0) : f29_L1 n s k (m + 1) l u i = some (l, u) := by
 have h0 : (u == 0) = false := beq_eq_false_iff_ne.2 hu
 simp only [f29_L1, h0]
 cases decide (i ≤ 3) with
 | false => rfl
 | true => cases decide (IntKind.i64.wrap (k + i) ≤ ((s.size : Nat) : Int)) <;> rfl
theorem inner_end (n : Nat) (s : ByteArray) (k j m : Nat) (l : List Int) (h : 3 < j ∨ s.size < k + j) (hk : k + j ≤ 1000) : f29_L1 n s (k : Int) (m + 1) l 0 (j : Int) = some (l, 0) := by
 have hw : IntKind.i64.wrap ((k : Int) + (j : Int)) = (k : Int) + j := i64_in _ (by omega)
 simp only [f29_L1, hw]
 rcases h with h | h
 ·rw [decide_eq_false (show ¬ (j : Int) ≤ 3 by omega)]; rfl
 ·rw [decide_eq_false (show ¬ (k : Int) + (j : Int) ≤ ((s.size : Nat) : Int) by omega)]
  cases decide ((j : Int) ≤ 3) <;> rfl
theorem inner_round (n : Nat) (s : ByteArray) (k j m c : Nat) (l : List Int) (hj : j ≤ 3) (hkj : k + j ≤ s.size) (hsz : s.size ≤ 40) (hl : l.length ≤ 1000) (hv : f48 (n + 2) (s.extract k (k + j)) = some (c : Int)) (hc : c < 65536) (hj0 : 1 ≤ j) :
  f29_L1 (n + 2) s (k : Int) (m + 2) l 0 (j : Int) = if 0 ≤ scr (c : Int) ∧ unitL c = (s.data.toList.drop k).take j then some (l ++ [(c : Int)], (j : Int)) else f29_L1 (n + 2) s (k : Int) (m + 1) l 0 ((j + 1 : Nat) : Int) := by
 have hw : IntKind.i64.wrap ((k : Int) + (j : Int)) = ((k + j : Nat) : Int) := by rw [i64_in _ (by omega)]; push_cast; rfl
 have hw2 : IntKind.i64.wrap ((j : Int) + 1) = ((j + 1 : Nat) : Int) := by rw [i64_in _ (by omega)]; push_cast; rfl
 obtain ⟨hcut, hlist⟩ := cut_list hkj
 obtain ⟨t, ht1, ht2⟩ := f50_eq (n + 1) c hc
 have happ : app l [(c : Int)] = some (l ++ [(c : Int)]) := app_of (by simp; omega)
 rw [f29_L1, decide_eq_true (show (j : Int) ≤ 3 by omega), hw, decide_eq_true (show ((k + j : Nat) : Int) ≤ ((s.size : Nat) : Int) by omega)]
 simp only [cnd, show ((0 : Int) == 0) = true from rfl, bnd_of hcut, bnd_of hv, bnd_of (f49_eq n (c : Int)), hw2, bnd_of happ]
 by_cases c1 : 0 ≤ scr (c : Int)
 ·rw [decide_eq_true (show scr (c : Int) ≥ 0 from c1)]
  have ht1' : f50 (n + 2) (c : Int) = some t := ht1
  simp only [bnd_of ht1']
  by_cases c2 : t = s.extract k (k + j)
  ·rw [decide_eq_true c2, if_pos ⟨c1, by rw [← ht2, c2, hlist]⟩]
   exact inner_stop _ _ _ _ _ _ _ (by omega)
  ·rw [decide_eq_false c2, if_neg (fun h => c2 (ba_ext.2 (by rw [ht2, h.2, hlist])))]
 ·rw [decide_eq_false (show ¬ scr (c : Int) ≥ 0 from c1), if_neg (fun h => c1 h.1)]
theorem inner (n : Nat) (s : ByteArray) (k m : Nat) (l : List Int) (hk : k < s.size) (hsz : s.size ≤ 40) (hl : l.length ≤ 1000) (hm : 5 ≤ m) (hn : 2 ≤ n) :
  f29_L1 n s (k : Int) m l 0 1 = some (if 0 ≤ scr ((Utf8.decode s k).1 : Int) then (l ++ [((Utf8.decode s k).1 : Int)], ((Utf8.decode s k).2 : Int)) else (l, 0)) := by
 obtain ⟨n, rfl⟩ : ∃ z, n = z + 2 := ⟨n - 2, by omega⟩
 obtain ⟨m, rfl⟩ : ∃ z, m = z + 5 := ⟨m - 5, by omega⟩
 have hlt : k < s.data.toList.length := by rw [← ba_size]; exact hk
 have hd : s.data.toList.drop k = s.data.toList[k] :: s.data.toList.drop (k + 1) := List.drop_eq_getElem_cons hlt
 have hlen : (s.data.toList.drop (k + 1)).length = s.size - (k + 1) := by rw [List.length_drop, ← ba_size]
 generalize s.data.toList[k] = b0 at hd
 generalize s.data.toList.drop (k + 1) = r at hd hlen
 have D : DecC s k b0 r := ⟨(dec_cases hd).1, (dec_cases hd).2.1, (dec_cases hd).2.2.1, (dec_cases hd).2.2.2⟩
 have h0 := b_lt b0
 have e1 : (s.extract k (k + 1)).data.toList = [b0] := by rw [(cut_list (s := s) (k := k) (j := 1) (by omega)).2, hd]; rfl
 have r1 := inner_round n s k 1 (m + 3) b0.toNat l (by omega) (by omega) hsz hl (f48_1 (n + 1) e1) (by omega) (by omega)
 have t1 : (s.data.toList.drop k).take 1 = [b0] := by rw [hd]; rfl
 rw [t1] at r1
 have g1 : f29_L1 (n + 2) s (k : Int) (m + 5) l 0 1 = _ := r1
 rw [g1]
 by_cases A1 : 0 ≤ scr (b0.toNat : Int) ∧ unitL b0.toNat = [b0]
 ·rw [if_pos A1, D.d1 (unit1.1 A1.2), if_pos A1.1]
 ·rw [if_neg A1]
  match r, hd, hlen, D with
  | [], hd, hlen, D =>
   have hl0 : s.size = k + 1 := by simp at hlen; omega
   rw [inner_end (n + 2) s k 2 (m + 3) l (.inr (by omega)) (by omega), if_neg]
   intro hs
   rcases D.d4 hs with q | ⟨_, _, q, _⟩ | ⟨_, _, _, q, _⟩
   ·rw [D.d1 q] at hs; exact A1 ⟨hs, unit1.2 q⟩
   ·cases q
   ·cases q
  | b1 :: q, hd, hlen, D =>
   have h1 := b_lt b1
   have hsz2 : k + 2 ≤ s.size := by simp at hlen; omega
   have e2 : (s.extract k (k + 2)).data.toList = [b0, b1] := by rw [(cut_list (s := s) (k := k) (j := 2) hsz2).2, hd]; rfl
   have r2 := inner_round n s k 2 (m + 2) _ l (by omega) hsz2 hsz hl (f48_2 (n + 1) e2) (by omega) (by omega)
   have t2 : (s.data.toList.drop k).take 2 = [b0, b1] := by rw [hd]; rfl
   rw [t2] at r2
   have g2 : f29_L1 (n + 2) s (k : Int) (m + 4) l 0 ((1 + 1 : Nat) : Int) = _ := r2
   show f29_L1 (n + 2) s (k : Int) (m + 4) l 0 ((1 + 1 : Nat) : Int) = _
   rw [g2]
   by_cases A2 : 0 ≤ scr ((b0.toNat % 32 * 64 + b1.toNat % 64 : Nat) : Int) ∧ unitL (b0.toNat % 32 * 64 + b1.toNat % 64) = [b0, b1]
   ·have B := unit2.1 A2.2
    rw [if_pos A2, D.d2 b1 q rfl B.2.1 B.2.2 B.1, if_pos A2.1]
   ·rw [if_neg A2]
    match q, hd, hlen, D with
    | [], hd, hlen, D =>
     have hl0 : s.size = k + 2 := by simp at hlen; omega
     rw [show ((2 + 1 : Nat) : Int) = ((3 : Nat) : Int) from rfl, inner_end (n + 2) s k 3 (m + 2) l (.inr (by omega)) (by omega), if_neg]
     intro hs
     rcases D.d4 hs with z | ⟨x, y, z, z1, z2, z3⟩ | ⟨_, _, _, z, _⟩
     ·rw [D.d1 z] at hs; exact A1 ⟨hs, unit1.2 z⟩
     ·cases z
      rw [D.d2 _ _ rfl z1 z2 z3] at hs
      exact A2 ⟨hs, unit2.2 ⟨z3, z1, z2⟩⟩
     ·cases z
    | b2 :: q, hd, hlen, D =>
     have h2 := b_lt b2
     have hsz3 : k + 3 ≤ s.size := by simp at hlen; omega
     have e3 : (s.extract k (k + 3)).data.toList = [b0, b1, b2] := by rw [(cut_list (s := s) (k := k) (j := 3) hsz3).2, hd]; rfl
     have r3 := inner_round n s k 3 (m + 1) _ l (by omega) hsz3 hsz hl (f48_3 (n + 1) e3) (by omega) (by omega)
     have t3 : (s.data.toList.drop k).take 3 = [b0, b1, b2] := by rw [hd]; rfl
     rw [t3] at r3
     show f29_L1 (n + 2) s (k : Int) (m + 1 + 2) l 0 ((3 : Nat) : Int) = _
     rw [r3]
     by_cases A3 : 0 ≤ scr ((b0.toNat % 16 * 4096 + b1.toNat % 64 * 64 + b2.toNat % 64 : Nat) : Int) ∧ unitL (b0.toNat % 16 * 4096 + b1.toNat % 64 * 64 + b2.toNat % 64) = [b0, b1, b2]
     ·have hv := scr_ge A3.1
      have B := unit3.1 A3.2
      rw [if_pos A3, D.d3 b1 b2 q rfl B.2.1 B.2.2.1 B.2.2.2 B.1 (by omega), if_pos A3.1]
     ·rw [if_neg A3, inner_end (n + 2) s k 4 (m + 1) l (.inl (by omega)) (by omega), if_neg]
      intro hs
      rcases D.d4 hs with z | ⟨x, y, z, z1, z2, z3⟩ | ⟨x, y, w, z, z1, z2, z3, z4⟩
      ·rw [D.d1 z] at hs; exact A1 ⟨hs, unit1.2 z⟩
      ·cases z
       rw [D.d2 _ _ rfl z1 z2 z3] at hs
       exact A2 ⟨hs, unit2.2 ⟨z3, z1, z2⟩⟩
      ·cases z
       by_cases hv : b0.toNat % 16 * 4096 + b1.toNat % 64 * 64 + b2.toNat % 64 < 55296
       ·rw [D.d3 _ _ _ rfl z1 z2 z3 z4 hv] at hs
        exact A3 ⟨hs, unit3.2 ⟨z4, z1, z2, z3⟩⟩
       ·have hb := b_lt b0
        have hdec : (Utf8.decode s k).1 = 65533 ∨ (Utf8.decode s k).1 = b0.toNat % 16 * 4096 + b1.toNat % 64 * 64 + b2.toNat % 64 := by
         have hget : ∀ j b, (b0 :: b1 :: b2 :: q)[j]? = some b → s.get! (k + j) = b := by
          intro j b hb
          apply get_list s rfl
          rw [← hd, List.getElem?_drop] at hb
          exact hb
         have g0 : s.get! (k + 0) = b0 := hget 0 b0 rfl
         have g1 : s.get! (k + 1) = b1 := hget 1 b1 rfl
         have g2 : s.get! (k + 2) = b2 := hget 2 b2 rfl
         have n0 : ¬ b0.toNat < 128 := by omega
         have n1 : (b0.toNat / 32 == 6) = false := by simp; omega
         have l1 : k + 1 < s.size := by omega
         have l2 : k + 2 < s.size := by omega
         simp only [Utf8.decode, g0, g1, g2, n0, if_false, n1, Bool.false_and, Bool.false_eq_true, z1, z2, z3, l1, l2, decide_true, Bool.and_self, beq_self_eq_true, if_true]
         split
         ·exact .inr rfl
         ·exact .inl rfl
        rcases hdec with q | q
        ·rw [q] at hs; have := scr_ge hs; omega
        ·rw [q] at hs; have := scr_ge hs; omega
end Go.Proofs.YtmflphfmefakfaaGreatDoor.Av
