/- A part of the proof of ChangesetCompactsCardSaid: an evaluator of the program, proved sound, and what it says. -/
import Derived.Test.YtanonfpdkoijnaaGreatDoorAvOps7
namespace Go.Proofs.YtanonfpdkoijnaaGreatDoor.Av
open Go

section
variable {P : Program} {T : List AFun} {c : Ctx} {fl : Nat} {o : Oper} {a : Act} {tm : List AV}

theorem drawn_drew (w : World) : Drawn w w.drew := ⟨rfl, rfl, rfl, rfl⟩

/-- What is appended: a slice's elements, or zeros. -/
structure Src (P : Program) (w : World) (t t' e : TypeId) (i : TypeInfo) (xv : Value) (m : Nat) (news : List Value) : Prop where
  ht : P.underlying t = some (.slice e)
  hi : P.info? e = some i
  run : ∀ (ty : TypeId) (base : Option Addr) (sLen sCap : Nat), sLen + m ≤ sCap → ∀ (w' : World),
    (∀ ad, base = some ad → (storeCells (ad.add (sLen * i.size)) news).run P w = .ok () w') → (base = none → w' = w) →
    (Builtin.append_ #[t, t'] ty #[.slice base sLen sCap, xv]).run P w = .ok (.slice base (sLen + m) sCap) w'
  grow : ∀ (ty : TypeId) (z : Value) (base : Option Addr) (sLen sCap : Nat) (olds : List Value), i.zero = some z → sCap < sLen + m → ((sLen + m : Nat) : Int) ≤ 9223372036854775807 →
    Builtin.nextslicecap (sLen + m) sCap * i.bytes ≤ 281474976710656 → (Builtin.firstCells i.size sLen (.slice base sLen sCap)).run P w.drew = .ok olds.toArray w.drew →
    ∃ cells : Array Value, cells.toList = olds ++ news ++ (Builtin.zeroCells z.cells (grownCap w (sLen + m) sCap e - (sLen + m))).toList ∧
    (Builtin.append_ #[t, t'] ty #[.slice base sLen sCap, xv]).run P w =
      .ok (.slice (some ⟨w.heap.size, 0, none⟩) (sLen + m) (grownCap w (sLen + m) sCap e)) (w.drew.alloc (.cells cells e))

theorem src_slice [GlobT] {w : World} {t t' e e' : TypeId} {i : TypeInfo} {xa : Option Addr} {xc m : Nat} {news : List Value} (ht : P.underlying t = some (.slice e)) (ht' : P.underlying t' = some (.slice e')) (hi : P.info? e = some i)
    (hf : ∀ w', Drawn w w' → (Builtin.firstCells i.size m (.slice xa m xc)).run P w' = .ok news.toArray w') : Src P w t t' e i (.slice xa m xc) m news where
  ht := ht
  hi := hi
  run := by
    intro ty base sLen sCap hroom w' hst hn
    have hf0 := hf w (Drawn.refl w)
    cases base with
    | none => simp [Builtin.append_, run_underlying ht, run_underlying ht', sizeOf, typeInfo, hi, Builtin.lenOf, hroom, hf0, hn rfl]
    | some ad => simp [Builtin.append_, run_underlying ht, run_underlying ht', sizeOf, typeInfo, hi, Builtin.lenOf, hroom, hf0, hst ad rfl]
  grow := by
    intro ty z base sLen sCap olds hz hg h63 hfit ho
    have hf0 := hf w.drew (drawn_drew w)
    have hn : ¬ (sLen + m ≤ sCap) := by omega
    have h63' : ¬ (9223372036854775807 < ((sLen : Int) + (m : Int))) := by omega
    have h48' : ¬ (281474976710656 < Builtin.nextslicecap (sLen + m) sCap * i.bytes) := by omega
    refine ⟨olds.toArray ++ news.toArray ++ Builtin.zeroCells z.cells (grownCap w (sLen + m) sCap e - (sLen + m)), by simp, ?_⟩
    simp [Builtin.append_, run_underlying ht, run_underlying ht', sizeOf, typeInfo, zeroValue, hi, hz, Builtin.lenOf, hn, h63', h48', Question.forced, hf0, ho, newRow, grownCap]
    congr 2
    apply Array.ext'
    simp [List.append_assoc]

theorem src_zeros [GlobT] {w : World} {t t' e : TypeId} {i : TypeInfo} {k k' : IntKind} {z : Value} {m : Nat} (ht : P.underlying t = some (.slice e)) (ht' : P.underlying t' = some (.int k)) (hi : P.info? e = some i) (hz : i.zero = some z)
    (hm : m ≤ 2 ^ 20) (hb : m * i.bytes ≤ 2 ^ 40) (hs0 : 0 < i.size) (hzs : z.cells.size = i.size) : Src P w t t' e i (.int k' (m : Nat)) m (Builtin.zeroCells z.cells m).toList where
  ht := ht
  hi := hi
  run := by
    intro ty base sLen sCap hroom w' hst hn
    have w1 := wrap_small (n := m) (by omega)
    have hneg : ¬ ((m : Int) < 0) := by omega
    have hbig : ¬ ((281474976710656 : Int) < (m : Int) * (i.bytes : Int)) := by rw [← Int.natCast_mul]; omega
    by_cases hm0 : m * i.size = 0
    · have hmz : m = 0 := by
        rcases Nat.mul_eq_zero.1 hm0 with h | h
        · exact h
        · omega
      subst hmz
      have hz0 : (Builtin.zeroCells z.cells 0).toList = [] := by simp [Builtin.zeroCells]
      rw [hz0] at hst
      have hr0 : sLen ≤ sCap := by omega
      have w0 : IntKind.i64.wrap 0 = 0 := IntWalk.i64_in _ (by omega)
      cases base with
      | none => simp [Builtin.append_, run_underlying ht, run_underlying ht', sizeOf, typeInfo, hi, asInt, asIntOf, hr0, hn rfl, w0]
      | some ad => simp [Builtin.append_, run_underlying ht, run_underlying ht', sizeOf, typeInfo, hi, asInt, asIntOf, hr0, hst ad rfl, w0]
    · cases base with
      | none => simp [Builtin.append_, run_underlying ht, run_underlying ht', sizeOf, typeInfo, zeroValue, hz, hi, asInt, asIntOf, w1, hneg, hbig, hm0, hroom, hn rfl]
      | some ad => simp [Builtin.append_, run_underlying ht, run_underlying ht', sizeOf, typeInfo, zeroValue, hz, hi, asInt, asIntOf, w1, hneg, hbig, hm0, hroom, hst ad rfl]
  grow := by
    intro ty z' base sLen sCap olds hz' hg h63 hfit ho
    rw [hz] at hz'
    cases hz'
    have w1 := wrap_small (n := m) (by omega)
    have hneg : ¬ ((m : Int) < 0) := by omega
    have hbig : ¬ ((281474976710656 : Int) < (m : Int) * (i.bytes : Int)) := by rw [← Int.natCast_mul]; omega
    have hn : ¬ (sLen + m ≤ sCap) := by omega
    have h63' : ¬ (9223372036854775807 < ((sLen : Int) + (m : Int))) := by omega
    have h48' : ¬ (281474976710656 < Builtin.nextslicecap (sLen + m) sCap * i.bytes) := by omega
    refine ⟨olds.toArray ++ (Builtin.zeroCells z.cells m) ++ Builtin.zeroCells z.cells (grownCap w (sLen + m) sCap e - (sLen + m)), by simp, ?_⟩
    by_cases hm0 : m * i.size = 0
    · have hmz : m = 0 := by
        rcases Nat.mul_eq_zero.1 hm0 with h | h
        · exact h
        · omega
      subst hmz
      have hz0 : Builtin.zeroCells z.cells 0 = #[] := by simp [Builtin.zeroCells]
      have w0 : IntKind.i64.wrap 0 = 0 := IntWalk.i64_in _ (by omega)
      have hn0 : ¬ (sLen ≤ sCap) := by omega
      have h630 : ¬ (9223372036854775807 < (sLen : Int)) := by omega
      have h480 : ¬ (281474976710656 < Builtin.nextslicecap sLen sCap * i.bytes) := by simpa using h48'
      simp [Builtin.append_, run_underlying ht, run_underlying ht', sizeOf, typeInfo, zeroValue, hi, hz, asInt, asIntOf, hn0, h630, h480, Question.forced, ho, newRow, grownCap, w0, hz0]
    · simp [Builtin.append_, run_underlying ht, run_underlying ht', sizeOf, typeInfo, zeroValue, hi, hz, asInt, asIntOf, w1, hneg, hbig, hm0, hn, h63', h48', Question.forced, ho, newRow, grownCap]

end
end Go.Proofs.YtanonfpdkoijnaaGreatDoor.Av
