/- A part of the proof of EditChecksCardSaid. -/
import Derived.Test.YtmflphfmefakfaaGreatDoorVeM5
set_option linter.all false
namespace Go.Proofs.YtmflphfmefakfaaGreatDoor.Av
open Go
abbrev L127 : List AV := [(.sl false [[(Vi 1), (Vi 0), (Vi 0)]]), (.sl false [[(Vi 1), (Vi 1), (Vi 1), (.sl false [[(Vi 10), (Vi 0)], [(Vi 10), (Vi 10)], [(Vi 0), (Vi 10)]]), (Vi 1), (Vi 0)], [(Vi 2), (Vi 1), (Vi 1), (.sl false [[(Vi 1), (Vi 4)], [(Vi 5), (Vi 5)], [(Vi 4), (Vi 1)]]), (Vi 0), (Vi 0)]]), (.sl false [[(Vi 1)]])]
abbrev A127 : List AV := [(.agg L127)]
abbrev R127 : AV := (.lit (.bool true))
def tk : Nat → ACode → ACode
 | 0, _ => .skip
 | k + 1, c => match c with
  | .seq a b => .seq a (tk k b)
  | c => c
def dk : Nat → ACode → ACode
 | 0, c => c
 | k + 1, c => match c with
  | .seq _ b => dk k b
  | _ => .skip
theorem evC_cut [GlobT] {P : Program} {cf : Nat → Nat → List AV → Heap → Option (AV × Heap)} {lf fl : Nat} : ∀ (k : Nat) (c : ACode) (st : St), evC P cf lf fl c st = match evC P cf lf fl (tk k c) st with
  | some (.normal, st) => evC P cf lf fl (dk k c) st
  | r => r
 | 0, c, st => by simp only [tk, dk, evC]
 | k + 1, c, st => by
  have triv : ∀ r : Option (AExit × St), r = match r with
    | some (.normal, st) => evC P cf lf fl .skip st
    | r => r := fun r => by
   rcases r with _ | ⟨x, s⟩
   · rfl
   · cases x <;> simp only [evC]
  cases c with
  | seq a b =>
   simp only [tk, dk, evC]
   rcases evC P cf lf fl a st with _ | ⟨x, s⟩
   · rfl
   · cases x with
    | normal => exact evC_cut k b s
    | exit i => rfl
    | ret => rfl
  | _ => exact triv _
theorem pv_cut [GlobT] {P : Program} {T : List AFun} {n vi k : Nat} {args : List AV} {R : AV} {F : AFun} {s1 : St} (M : Memo) (hM : MemoOK P T M) (hp : GlobT.prim vi = none) (hF : T[vi]? = some F)
  (h1 : (runF P (evFK P T M n) (fun vi args => lookM n vi args M) n 0 (tk k F.body)).f ⟨args ++ List.replicate (F.nt - args.length) (.lit undefV), []⟩ = some (.normal, s1))
  (h2 : (match (match (runF P (evFK P T M n) (fun vi args => lookM n vi args M) n 0 (dk k F.body)).f s1 with
    | some (.normal, st) => finK F st
    | some (.ret, st) => finK F st
    | _ => none) with
   | some (r, H') => some (seal3 H' 0 r)
   | none => none) = some R) : pv P T (n + 1) vi args = some R := by
 refine pv_fast M hM ?_
 have e : (runF P (evFK P T M n) (fun vi args => lookM n vi args M) n 0 F.body).f ⟨args ++ List.replicate (F.nt - args.length) (.lit undefV), []⟩ = (runF P (evFK P T M n) (fun vi args => lookM n vi args M) n 0 (dk k F.body)).f s1 := by
  rw [evFK_eq hM n] at h1 ⊢
  rw [runF_eq P (evF P T n) _ (memOK_of hM n)] at h1 ⊢
  rw [runF_eq P (evF P T n) _ (memOK_of hM n), evC_cut k, h1]
 simp only [evFK, hp, hF, fL_eq fC_eq, fL_eq fW_eq]
 rw [e]
 exact h2
abbrev Qb (a : Nat) (b : Int) : AObj := .blk 2 [[.ptr a 1 0 0, Vi b]]
abbrev S127 : St := ⟨[.undef, (.ptr 0 1 0 0), .undef, (.ms 2 8 0 8), .undef, (.mp 15)] ++ List.replicate 31 .undef ++ [(.ms 2 8 0 8), (.tup [])] ++ List.replicate 78 .undef, [.blk 3 [L127], .blk 3 [L127], .blk 2 [[(.ptr 4 1 0 0), (Vi 0)], [(.ptr 4 1 0 0), (Vi 2)], [(.ptr 4 1 0 0), (Vi 3)], [(.ptr 10 1 0 0), (Vi 0)], [(.ptr 10 1 0 0), (Vi 3)], [(.ptr 10 1 0 0), (Vi 1)], [(.ptr 10 1 0 0), (Vi 2)], [(.ptr 4 1 0 0), (Vi 1)]], .blk 6 [[(Vi 1), (Vi 1), (Vi 1), (.sl false [[(Vi 10), (Vi 0)], [(Vi 10), (Vi 10)], [(Vi 0), (Vi 10)]]), (Vi 1), (Vi 0)]], .blk 7 [[(Vi 1), (Vi 1), (Vi 1), (.sl false [[(Vi 10), (Vi 0)], [(Vi 10), (Vi 10)], [(Vi 0), (Vi 10)]]), (Vi 1), (Vi 0), (.sl false [[(Vi 0), (Vi 0)], [(Vi 10), (Vi 0)], [(Vi 10), (Vi 10)], [(Vi 0), (Vi 10)], [(Vi 0), (Vi 0)]])]], Qb 4 0, Qb 4 1, Qb 4 2, Qb 4 3, .blk 6 [[(Vi 2), (Vi 1), (Vi 1), (.sl false [[(Vi 1), (Vi 4)], [(Vi 5), (Vi 5)], [(Vi 4), (Vi 1)]]), (Vi 0), (Vi 0)]], .blk 7 [[(Vi 2), (Vi 1), (Vi 1), (.sl false [[(Vi 1), (Vi 4)], [(Vi 5), (Vi 5)], [(Vi 4), (Vi 1)]]), (Vi 0), (Vi 0), (.sl false [[(Vi 0), (Vi 0)], [(Vi 1), (Vi 4)], [(Vi 5), (Vi 5)], [(Vi 4), (Vi 1)], [(Vi 0), (Vi 0)]])]], Qb 10 0, Qb 10 1, Qb 10 2, Qb 10 3, .mp [((.int .i64 1), (.agg [(Vi 0), (Vi 0)]))], .blk 3 [[(Vi 1), (Vi 0), (Vi 0)]], Qb 4 1, Qb 4 0, Qb 4 2, Qb 4 1, Qb 4 2, Qb 4 0, Qb 4 3, Qb 4 1, Qb 4 3, Qb 4 2, Qb 10 0, Qb 4 1, Qb 10 0, Qb 4 3, Qb 10 1, Qb 4 1, Qb 10 1, Qb 10 0, Qb 10 2, Qb 4 1, Qb 10 2, Qb 10 1, Qb 10 3, Qb 4 1, Qb 10 3, Qb 10 2, Qb 10 3, Qb 10 1, Qb 10 3, Qb 10 0]⟩
theorem h127 : (runF PP (evFK PP T M127 5379) (fun vi args => lookM 5379 vi args M127) 5379 0 (tk 6 F131.body)).f ⟨A127 ++ List.replicate (F131.nt - A127.length) (.lit undefV), []⟩ = some (.normal, S127) := by kernel_rfl
theorem m127 : pv PP T 5380 131 A127 = some R127 := pv_cut M127 M127_ok (by kernel_rfl) (by kernel_rfl) h127 (by kernel_rfl)
def M128 : Memo := (5380, 131, A127, R127) :: M127
theorem M128_ok : MemoOK PP T M128 := ⟨m127, M127_ok⟩
abbrev A128 : List AV := [(.agg [(.sl false [[(Vi 1), (Vi 0), (Vi 0)]]), (.sl false [[(Vi 1), (Vi 1), (Vi 1), (.sl false [[(Vi 10), (Vi 0)], [(Vi 10), (Vi 10)], [(Vi 0), (Vi 10)]]), (Vi 1), (Vi 0)], [(Vi 2), (Vi 1), (Vi 1), (.sl false [[(Vi 1), (Vi 4)], [(Vi 5), (Vi 5)], [(Vi 4), (Vi 1)]]), (Vi 0), (Vi 0)]]), (.sl false [[(Vi 1)]])])]
abbrev R128 : AV := (Vi 0)
theorem m128 : pv PP T 5420 104 A128 = some R128 := pv_fast M128 M128_ok (by kernel_rfl)
def M129 : Memo := (5420, 104, A128, R128) :: M128
theorem M129_ok : MemoOK PP T M129 := ⟨m128, M128_ok⟩
abbrev A129 : List AV := [(.agg [(.sl false [[(Vi 1), (Vi 0), (Vi 0)]]), (.sl false [[(Vi 1), (Vi 1), (Vi 1), (.sl false [[(Vi 10), (Vi 0)], [(Vi 10), (Vi 10)], [(Vi 0), (Vi 10)]]), (Vi 0), (Vi 0)], [(Vi 2), (Vi 1), (Vi 1), (.sl false [[(Vi 1), (Vi 4)], [(Vi 5), (Vi 5)], [(Vi 4), (Vi 1)]]), (Vi 0), (Vi 0)]]), (.sl false [])])]
abbrev R129 : AV := (.lit (.bool true))
theorem m129 : pv PP T 5460 129 A129 = some R129 := pv_fast M129 M129_ok (by kernel_rfl)
def M130 : Memo := (5460, 129, A129, R129) :: M129
theorem M130_ok : MemoOK PP T M130 := ⟨m129, M129_ok⟩
end Go.Proofs.YtmflphfmefakfaaGreatDoor.Av
