/- A part of the proof of ChangesetElementsCardSaid: an evaluator of the program, proved sound, and what it says. -/
import Derived.Test.YtanonfpdkoijnaaGreatDoorVcPb
import Derived.Test.YtanonfpdkoijnaaGreatDoorVcTchk
import Derived.Test.YtanonfpdkoijnaaGreatDoorAvOrc
set_option linter.all false
namespace Go.Proofs.YtanonfpdkoijnaaGreatDoor.Av
open Go Go.Proofs
set_option maxRecDepth 100000
theorem shapeAll1 {P : Program} {n : Nat} {a : TypeId} {xs : List AV} (h : ShapeAll P n [a] xs) : ∃ x, xs = [x] ∧ (∃ ys, Shape P n a ys ∧ x = argOf P a ys) :=
 match xs, h with
 | [x], ⟨h1, _⟩ => ⟨x, rfl, h1⟩
theorem shapeAll2 {P : Program} {n : Nat} {a b : TypeId} {xs : List AV} (h : ShapeAll P n [a, b] xs) : ∃ x y, xs = [x, y] ∧ (∃ ys, Shape P n a ys ∧ x = argOf P a ys) ∧ (∃ ys, Shape P n b ys ∧ y = argOf P b ys) :=
 match xs, h with
 | [x, y], ⟨h1, h2, _⟩ => ⟨x, y, rfl, h1, h2⟩
theorem shape_int {n : Nat} {t : TypeId} {ys : List AV} (hu : PP.underlying t = some (.int .i64)) (h : Shape PP (n + 1) t ys) : ∃ z, ys = [.lit (.int .i64 z)] := by
 unfold Shape at h
 rw [hu] at h
 exact h.imp fun z hz => hz.2
theorem shape_str {n : Nat} {t : TypeId} {ys : List AV} (hu : PP.underlying t = some .string) (h : Shape PP (n + 1) t ys) : ∃ z, ys = [.lit (.string z)] := by
 unfold Shape at h
 rw [hu] at h
 exact h.imp fun z hz => hz.2
theorem shape_list {α : Type} {c : α → List AV} {n : Nat} {t e : TypeId} {ys : List AV} (hu : PP.underlying t = some (.slice e)) (hc : ∀ x, Shape PP n e x → ∃ z, x = c z) (h : Shape PP (n + 1) t ys) : ∃ l : List α, ys = [.sl false (l.map c)] := by
 unfold Shape at h
 rw [hu] at h
 obtain ⟨es, rfl, _, h2⟩ := h
 have : ∀ es : List (List AV), (∀ x ∈ es, Shape PP n e x) → ∃ l : List α, es = l.map c := by
  intro es
  induction es with
  | nil => exact fun _ => ⟨[], rfl⟩
  | cons x r ih =>
   intro h
   obtain ⟨l, rfl⟩ := ih fun y hy => h y (by simp [hy])
   obtain ⟨z, rfl⟩ := hc x (h x (by simp))
   exact ⟨z :: l, rfl⟩
 obtain ⟨l, rfl⟩ := this es h2
 exact ⟨l, rfl⟩
theorem shape_point {n : Nat} {ys : List AV} (h : Shape PP (n + 2) 44 ys) : ∃ z, ys = c_GPoint z := by
 unfold Shape at h
 have hu : PP.underlying 44 = some (.struct #[{ name := "X", type := 3, offset := 0, embedded := false, tag := "", pkgPath := "", byteOffset := 0 }, { name := "Y", type := 3, offset := 1, embedded := false, tag := "", pkgPath := "", byteOffset := 8 }]) := by kernel_rfl
 rw [hu] at h
 obtain ⟨ps, rfl, hl, h2⟩ := h
 match ps, hl with
 | [p, q], _ =>
  have hi : PP.underlying 3 = some (.int .i64) := by kernel_rfl
  obtain ⟨x, rfl⟩ := shape_int hi (h2 0 _ p rfl rfl)
  obtain ⟨y, rfl⟩ := shape_int hi (h2 1 _ q rfl rfl)
  exact ⟨⟨x, y⟩, rfl⟩
theorem shape_edit {n : Nat} {ys : List AV} (h : Shape PP (n + 4) 47 ys) : ∃ z, ys = c_GEdit z := by
 unfold Shape at h
 have hu : PP.underlying 47 = some (.struct #[{ name := "Kind", type := 3, offset := 0, embedded := false, tag := "", pkgPath := "", byteOffset := 0 }, { name := "ID", type := 3, offset := 1, embedded := false, tag := "", pkgPath := "", byteOffset := 8 }, { name := "A", type := 3, offset := 2, embedded := false, tag := "", pkgPath := "", byteOffset := 16 }, { name := "B", type := 3, offset := 3, embedded := false, tag := "", pkgPath := "", byteOffset := 24 }, { name := "C", type := 3, offset := 4, embedded := false, tag := "", pkgPath := "", byteOffset := 32 }, { name := "At", type := 44, offset := 5, embedded := false, tag := "", pkgPath := "", byteOffset := 40 }, { name := "Via", type := 45, offset := 7, embedded := false, tag := "", pkgPath := "", byteOffset := 56 }, { name := "Name", type := 9, offset := 8, embedded := false, tag := "", pkgPath := "", byteOffset := 80 }, { name := "Parts", type := 36, offset := 9, embedded := false, tag := "", pkgPath := "", byteOffset := 96 }]) := by kernel_rfl
 rw [hu] at h
 obtain ⟨ps, rfl, hl, h2⟩ := h
 match ps, hl with
 | [p0, p1, p2, p3, p4, p5, p6, p7, p8], _ =>
  have hi : PP.underlying 3 = some (.int .i64) := by kernel_rfl
  obtain ⟨x0, rfl⟩ := shape_int hi (h2 0 _ p0 rfl rfl)
  obtain ⟨x1, rfl⟩ := shape_int hi (h2 1 _ p1 rfl rfl)
  obtain ⟨x2, rfl⟩ := shape_int hi (h2 2 _ p2 rfl rfl)
  obtain ⟨x3, rfl⟩ := shape_int hi (h2 3 _ p3 rfl rfl)
  obtain ⟨x4, rfl⟩ := shape_int hi (h2 4 _ p4 rfl rfl)
  obtain ⟨x5, rfl⟩ := shape_point (h2 5 _ p5 rfl rfl)
  obtain ⟨x6, rfl⟩ := shape_list (c := c_GPoint) (e := 44) (by kernel_rfl) (fun _ h => shape_point h) (h2 6 _ p6 rfl rfl)
  obtain ⟨x7, rfl⟩ := shape_str (by kernel_rfl) (h2 7 _ p7 rfl rfl)
  obtain ⟨x8, rfl⟩ := shape_list (c := c_i64) (e := 3) (by kernel_rfl) (fun _ h => shape_int hi h) (h2 8 _ p8 rfl rfl)
  exact ⟨⟨x0, x1, x2, x3, x4, x5, x6, x7, x8⟩, rfl⟩
theorem arg_edits {x : AV} (h : ∃ ys, Shape PP 6 22 ys ∧ x = argOf PP 22 ys) : ∃ l, x = .sl false (List.map c_GEdit l) := by
 obtain ⟨ys, h1, rfl⟩ := h
 have hu : PP.underlying 22 = some (.slice 47) := by kernel_rfl
 obtain ⟨l, rfl⟩ := shape_list (c := c_GEdit) (e := 47) hu (fun _ h => shape_edit h) h1
 exact ⟨l, by simp only [argOf, isAgg, hu]; rfl⟩
end Go.Proofs.YtanonfpdkoijnaaGreatDoor.Av
