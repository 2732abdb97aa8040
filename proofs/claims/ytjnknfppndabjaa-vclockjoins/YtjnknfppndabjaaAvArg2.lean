/- A part of the proof of VclockJoinsSaid: an evaluator of the program, proved sound, and what it says. -/
import Derived.Test.YtjnknfppndabjaaAvArg
import Derived.Test.YtjnknfppndabjaaAvT7
namespace Go.Proofs.Ytjnknfppndabjaa.Av
open Go Go.Proofs

theorem shape_mark {n : Nat} {x : List AV} (h : Shape Try.prog (n + 2) 32 x) : ∃ m : Int × Int, x = encM m := by
  unfold Shape at h
  rw [Try.underlying32] at h
  obtain ⟨ps, rfl, hl, h2⟩ := h
  match ps, hl with
  | [p, q], _ =>
    obtain ⟨a, _, rfl⟩ := shape_int (n := n) Try.underlying3 (h2 0 _ p rfl rfl)
    obtain ⟨b, _, rfl⟩ := shape_int (n := n) Try.underlying3 (h2 1 _ q rfl rfl)
    exact ⟨(a, b), rfl⟩

theorem shape_marks {n : Nat} : ∀ es : List (List AV), (∀ x ∈ es, Shape Try.prog (n + 2) 32 x) → ∃ l : List (Int × Int), es = l.map encM
  | [], _ => ⟨[], rfl⟩
  | x :: r, h => by
    obtain ⟨l, rfl⟩ := shape_marks (n := n) r fun y hy => h y (by simp [hy])
    obtain ⟨m, rfl⟩ := shape_mark (h x (by simp))
    exact ⟨m :: l, rfl⟩

theorem arg_marks {x : AV} (h : ∃ ys, Shape Try.prog 6 22 ys ∧ x = argOf Try.prog 22 ys) : ∃ l : List (Int × Int), x = .sl false (l.map encM) := by
  obtain ⟨ys, h1, rfl⟩ := h
  unfold Shape at h1
  rw [Try.underlying22] at h1
  obtain ⟨es, rfl, _, h2⟩ := h1
  obtain ⟨l, rfl⟩ := shape_marks (n := 3) es h2
  exact ⟨l, by simp only [argOf, isAgg, Try.underlying22]; rfl⟩
end Go.Proofs.Ytjnknfppndabjaa.Av
