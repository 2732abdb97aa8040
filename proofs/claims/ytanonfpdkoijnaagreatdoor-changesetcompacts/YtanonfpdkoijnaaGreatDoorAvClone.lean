/- A part of the proof of ChangesetCompactsCardSaid: an evaluator of the program, proved sound, and what it says. -/
import Derived.Test.YtanonfpdkoijnaaGreatDoorAvLift
import Derived.Test.YtanonfpdkoijnaaGreatDoorAvMono
namespace Go.Proofs.YtanonfpdkoijnaaGreatDoor.Av
open Go

/-- The body of slices.Clone. -/
def cloneB (s bytes : Nat) (z : List Value) : ACode := (.seq (.region false [] [⟨(some 2), .mov (.lit nilS), none⟩]) (.nilIf 0 3 4 (.seq (.region false [] [⟨(some 2), .mov (.lit nilS), none⟩]) .ret) (.seq (.region false [] [⟨(some 5), .buildSl true s 0 z [], none⟩, ⟨(some 6), .mov (.tmp 0), none⟩, ⟨(some 7), .append s bytes (.tmp 5) (.tmp 6), none⟩, ⟨(some 2), .mov (.tmp 7), none⟩]) .ret)))

theorem clone_pv [GlobT] {P : Program} {T : List AFun} {α : Type} {c : α → List AV} {vi fid s bytes n : Nat} {z : List Value} {f : Bool} (hT : T[vi]? = some ⟨fid, 8, [.tmp 2], cloneB s bytes z⟩) (hc : ∀ x, (c x).length = s) (hs : 0 < s) (hb : bytes ≤ 100000)
    (hseal : ∀ (H : Heap) x, (c x).map (sealC H 0 5) = c x) (l : List α) (hl : l.length ≤ 1000000) : pv P T (n + 1) vi [.sl f (l.map c)] = some (.sl false (l.map c)) := by
  have hb1 : Nat.blt 3 8 = true := rfl
  have hb2 : Nat.blt 4 8 = true := rfl
  rw [pv_at _ hT]
  cases l with
  | nil =>
    have happ : appendA 0 [] s bytes (.sl true []) [] = some (.sl true [], []) := by simp [appendA, allLen, hs, room]
    simp [hb1, hb2, cloneB, evC, evReg, evOps, evOper, wantA, evOp, getOpd, nilK, nilTm, putA, fillE, rd, happ, finA, retsA, evRet, packA, sealO, seal3, seal2, seal1, joinR, joinL, join1, empA, nilS, undefV]
  | cons x r =>
    have happ : appendA 0 [] s bytes (.sl true []) ((x :: r).map c) = some (.ms 0 (x :: r).length 0 (x :: r).length, [.blk s ((x :: r).map c)]) :=
      app_n (l' := x :: r) (x := .sl true []) (app_of (by simpa using hl)) rfl hc hs hb (.inr rfl)
    have hse : seal1 [.blk s ((x :: r).map c)] 0 (.ms 0 (x :: r).length 0 (x :: r).length) = .sl false ((x :: r).map c) := seal1_ms (id := 0) (s := s) (c := c) (l := x :: r) rfl (hseal _)
    generalize hys : (x :: r).map c = ys at happ hse ⊢
    obtain ⟨y, q, rfl⟩ : ∃ y q, ys = y :: q := by
      cases ys with
      | nil => simp at hys
      | cons y q => exact ⟨y, q, rfl⟩
    generalize (x :: r).length = L at happ hse
    simp [hb1, hb2, cloneB, evC, evReg, evOps, evOper, wantA, evOp, getOpd, nilK, nilTm, putA, fillE, rd, happ, finA, retsA, evRet, packA, sealO, seal3, seal2, hse, nilS, undefV]
end Go.Proofs.YtanonfpdkoijnaaGreatDoor.Av
