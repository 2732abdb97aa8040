/- A part of the proof of VclockJoinsSaid: an evaluator of the program, proved sound, and what it says. -/
import Derived.Test.YtjnknfppndabjaaRows
import Derived.Test.YtjnknfppndabjaaAvT1
import Derived.Test.YtjnknfppndabjaaAvVchk
namespace Go.Proofs.Ytjnknfppndabjaa.Av
open Go Go.Proofs

theorem shapeAll1 {P : Program} {n : Nat} {a : TypeId} {xs : List AV} (h : ShapeAll P n [a] xs) : ∃ x, xs = [x] ∧ (∃ ys, Shape P n a ys ∧ x = argOf P a ys) :=
  match xs, h with
  | [x], ⟨h1, _⟩ => ⟨x, rfl, h1⟩
theorem shapeAll2 {P : Program} {n : Nat} {a b : TypeId} {xs : List AV} (h : ShapeAll P n [a, b] xs) : ∃ x y, xs = [x, y] ∧ (∃ ys, Shape P n a ys ∧ x = argOf P a ys) ∧ (∃ ys, Shape P n b ys ∧ y = argOf P b ys) :=
  match xs, h with
  | [x, y], ⟨h1, h2, _⟩ => ⟨x, y, rfl, h1, h2⟩
theorem shapeAll3 {P : Program} {n : Nat} {a b c : TypeId} {xs : List AV} (h : ShapeAll P n [a, b, c] xs) : ∃ x y z, xs = [x, y, z] ∧ (∃ ys, Shape P n a ys ∧ x = argOf P a ys) ∧ (∃ ys, Shape P n b ys ∧ y = argOf P b ys) ∧ (∃ ys, Shape P n c ys ∧ z = argOf P c ys) :=
  match xs, h with
  | [x, y, z], ⟨h1, h2, h3, _⟩ => ⟨x, y, z, rfl, h1, h2, h3⟩

theorem own : ownKnob Try.prog.godebug = none := by kernel_rfl
theorem laid : laidOutB Try.prog = true := by kernel_rfl

theorem shape_int {n : Nat} {t : TypeId} {ys : List AV} (hu : Try.prog.underlying t = some (.int .i64)) (h : Shape Try.prog (n + 1) t ys) : ∃ z, (Lit.int .i64 z).wf = true ∧ ys = [iv z] := by
  unfold Shape at h
  rw [hu] at h
  exact h

theorem shape_ints {n : Nat} {t e : TypeId} {ys : List AV} (hu : Try.prog.underlying t = some (.slice e)) (he : Try.prog.underlying e = some (.int .i64)) (h : Shape Try.prog (n + 2) t ys) : ∃ l, ys = [.sl false (ints l)] := by
  unfold Shape at h
  rw [hu] at h
  obtain ⟨es, rfl, _, h2⟩ := h
  have : ∀ es : List (List AV), (∀ x ∈ es, Shape Try.prog (n + 1) e x) → ∃ l, es = ints l := by
    intro es
    induction es with
    | nil => exact fun _ => ⟨[], rfl⟩
    | cons x r ih =>
      intro h
      obtain ⟨l, rfl⟩ := ih fun y hy => h y (by simp [hy])
      obtain ⟨z, _, rfl⟩ := shape_int he (h x (by simp))
      exact ⟨z :: l, rfl⟩
  obtain ⟨l, rfl⟩ := this es h2
  exact ⟨l, rfl⟩

theorem shape_clock {n : Nat} {ys : List AV} (h : Shape Try.prog (n + 3) 27 ys) : ∃ l, ys = [.sl false (ints l)] := by
  unfold Shape at h
  rw [Try.underlying27] at h
  obtain ⟨ps, rfl, hl, h2⟩ := h
  match ps, hl with
  | [p], _ =>
    obtain ⟨l, rfl⟩ := shape_ints (t := _) (e := 3) (by kernel_rfl) (by kernel_rfl) (h2 0 _ p rfl rfl)
    exact ⟨l, rfl⟩

theorem arg_clock {x : AV} (h : ∃ ys, Shape Try.prog 6 27 ys ∧ x = argOf Try.prog 27 ys) : ∃ l, x = .agg [.sl false (ints l)] := by
  obtain ⟨ys, h1, rfl⟩ := h
  obtain ⟨l, rfl⟩ := shape_clock h1
  exact ⟨l, by simp only [argOf, isAgg, Try.underlying27]⟩

theorem arg_int {x : AV} (h : ∃ ys, Shape Try.prog 6 3 ys ∧ x = argOf Try.prog 3 ys) : ∃ z, x = iv z := by
  obtain ⟨ys, h1, rfl⟩ := h
  obtain ⟨z, _, rfl⟩ := shape_int Try.underlying3 h1
  exact ⟨z, by simp only [argOf, isAgg, Try.underlying3]; rfl⟩

end Go.Proofs.Ytjnknfppndabjaa.Av
