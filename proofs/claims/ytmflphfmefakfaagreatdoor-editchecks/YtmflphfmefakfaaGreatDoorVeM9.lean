/- A part of the proof of EditChecksCardSaid. -/
import Derived.Test.YtmflphfmefakfaaGreatDoorVeM8
set_option linter.all false
namespace Go.Proofs.YtmflphfmefakfaaGreatDoor.Av
open Go
abbrev L149 : List AV := [(.sl false [[(Vi 1), (Vi 0), (Vi 0)]]), (.sl false [[(Vi 1), (Vi 1), (Vi 1), (.sl false [[(Vi 10), (Vi 0)], [(Vi 10), (Vi 10)], [(Vi 0), (Vi 10)]]), (Vi 1), (Vi 0)], [(Vi 2), (Vi 1), (Vi 1), (.sl false [[(Vi 1), (Vi 4)], [(Vi 5), (Vi 5)], [(Vi 4), (Vi 1)]]), (Vi 1), (Vi 2)]]), (.sl false [[(Vi 1)], [(Vi 2)]])]
abbrev A149 : List AV := [(.agg L149)]
abbrev R149 : AV := (.lit (.bool true))
abbrev S149 : St := ⟨[.undef, (.ptr 0 1 0 0), .undef, (.ms 2 8 0 8), .undef, (.mp 15)] ++ List.replicate 31 .undef ++ [(.ms 2 8 0 8), (.tup [])] ++ List.replicate 78 .undef, [.blk 3 [L149], .blk 3 [L149], .blk 2 [[(.ptr 4 1 0 0), (Vi 0)], [(.ptr 4 1 0 0), (Vi 2)], [(.ptr 4 1 0 0), (Vi 3)], [(.ptr 10 1 0 0), (Vi 0)], [(.ptr 10 1 0 0), (Vi 3)], [(.ptr 10 1 0 0), (Vi 1)], [(.ptr 10 1 0 0), (Vi 2)], [(.ptr 4 1 0 0), (Vi 1)]], .blk 6 [[(Vi 1), (Vi 1), (Vi 1), (.sl false [[(Vi 10), (Vi 0)], [(Vi 10), (Vi 10)], [(Vi 0), (Vi 10)]]), (Vi 1), (Vi 0)]], .blk 7 [[(Vi 1), (Vi 1), (Vi 1), (.sl false [[(Vi 10), (Vi 0)], [(Vi 10), (Vi 10)], [(Vi 0), (Vi 10)]]), (Vi 1), (Vi 0), (.sl false [[(Vi 0), (Vi 0)], [(Vi 10), (Vi 0)], [(Vi 10), (Vi 10)], [(Vi 0), (Vi 10)], [(Vi 0), (Vi 0)]])]], Qb 4 0, Qb 4 1, Qb 4 2, Qb 4 3, .blk 6 [[(Vi 2), (Vi 1), (Vi 1), (.sl false [[(Vi 1), (Vi 4)], [(Vi 5), (Vi 5)], [(Vi 4), (Vi 1)]]), (Vi 1), (Vi 2)]], .blk 7 [[(Vi 2), (Vi 1), (Vi 1), (.sl false [[(Vi 1), (Vi 4)], [(Vi 5), (Vi 5)], [(Vi 4), (Vi 1)]]), (Vi 1), (Vi 2), (.sl false [[(Vi 0), (Vi 0)], [(Vi 1), (Vi 4)], [(Vi 5), (Vi 5)], [(Vi 4), (Vi 1)], [(Vi 0), (Vi 0)]])]], Qb 10 0, Qb 10 1, Qb 10 2, Qb 10 3, .mp [((.int .i64 1), (.agg [(Vi 0), (Vi 0)]))], .blk 3 [[(Vi 1), (Vi 0), (Vi 0)]], Qb 4 1, Qb 4 0, Qb 4 2, Qb 4 1, Qb 4 2, Qb 4 0, Qb 4 3, Qb 4 1, Qb 4 3, Qb 4 2, Qb 10 0, Qb 4 1, Qb 10 0, Qb 4 3, Qb 10 1, Qb 4 1, Qb 10 1, Qb 10 0, Qb 10 2, Qb 4 1, Qb 10 2, Qb 10 1, Qb 10 3, Qb 4 1, Qb 10 3, Qb 10 2, Qb 10 3, Qb 10 1, Qb 10 3, Qb 10 0]⟩
theorem h149 : (runF PP (evFK PP T M149 6259) (fun vi args => lookM 6259 vi args M149) 6259 0 (tk 6 F131.body)).f ⟨A149 ++ List.replicate (F131.nt - A149.length) (.lit undefV), []⟩ = some (.normal, S149) := by kernel_rfl
theorem m149 : pv PP T 6260 131 A149 = some R149 := pv_cut M149 M149_ok (by kernel_rfl) (by kernel_rfl) h149 (by kernel_rfl)
def M150 : Memo := (6260, 131, A149, R149) :: M149
theorem M150_ok : MemoOK PP T M150 := ⟨m149, M149_ok⟩
abbrev A150 : List AV := [(.agg [(.sl false [[(Vi 1), (Vi 0), (Vi 0)]]), (.sl false [[(Vi 1), (Vi 1), (Vi 1), (.sl false [[(Vi 10), (Vi 0)], [(Vi 10), (Vi 10)], [(Vi 0), (Vi 10)]]), (Vi 1), (Vi 0)], [(Vi 2), (Vi 1), (Vi 1), (.sl false [[(Vi 1), (Vi 4)], [(Vi 5), (Vi 5)], [(Vi 4), (Vi 1)]]), (Vi 1), (Vi 2)]]), (.sl false [[(Vi 1)], [(Vi 2)]])])]
abbrev R150 : AV := (Vi 0)
theorem m150 : pv PP T 6300 104 A150 = some R150 := pv_fast M150 M150_ok (by kernel_rfl)
def M151 : Memo := (6300, 104, A150, R150) :: M150
theorem M151_ok : MemoOK PP T M151 := ⟨m150, M150_ok⟩
abbrev A151 : List AV := [(.agg [(.sl false [[(Vi 1), (Vi 0), (Vi 0)]]), (.sl false [[(Vi 1), (Vi 1), (Vi 1), (.sl false [[(Vi 10), (Vi 0)], [(Vi 10), (Vi 10)], [(Vi 0), (Vi 10)]]), (Vi 1), (Vi 0)], [(Vi 2), (Vi 1), (Vi 1), (.sl false [[(Vi 1), (Vi 4)], [(Vi 5), (Vi 5)], [(Vi 4), (Vi 1)]]), (Vi 1), (Vi 2)]]), (.sl false [[(Vi 1)], [(Vi 2)]])]), (.sl false [[(Vi (-2))]])]
abbrev R151 : AV := (Vi 30)
theorem m151 : pv PP T 6340 120 A151 = some R151 := pv_fast M151 M151_ok (by kernel_rfl)
def M152 : Memo := (6340, 120, A151, R151) :: M151
theorem M152_ok : MemoOK PP T M152 := ⟨m151, M151_ok⟩
end Go.Proofs.YtmflphfmefakfaaGreatDoor.Av
