/- A part of the proof of EditChecksCardSaid. -/
import Derived.Test.YtmflphfmefakfaaGreatDoorVeM10
set_option linter.all false
namespace Go.Proofs.YtmflphfmefakfaaGreatDoor.Av
open Go
abbrev L160 : List AV := [(.sl false [[(Vi 1), (Vi 0), (Vi 0)]]), (.sl false [[(Vi 1), (Vi 1), (Vi 1), (.sl false [[(Vi 10), (Vi 0)], [(Vi 10), (Vi 10)], [(Vi 0), (Vi 10)]]), (Vi 7), (Vi 0)], [(Vi 2), (Vi 1), (Vi 1), (.sl false [[(Vi 1), (Vi 4)], [(Vi 5), (Vi 5)], [(Vi 4), (Vi 1)]]), (Vi 7), (Vi 1)]]), (.sl false [[(Vi 1)], [(Vi 7)]])]
abbrev A160 : List AV := [(.agg L160)]
abbrev R160 : AV := (.lit (.bool true))
abbrev S160 : St := ⟨[.undef, (.ptr 0 1 0 0), .undef, (.ms 2 8 0 8), .undef, (.mp 15)] ++ List.replicate 31 .undef ++ [(.ms 2 8 0 8), (.tup [])] ++ List.replicate 78 .undef, [.blk 3 [L160], .blk 3 [L160], .blk 2 [[(.ptr 4 1 0 0), (Vi 0)], [(.ptr 4 1 0 0), (Vi 2)], [(.ptr 4 1 0 0), (Vi 3)], [(.ptr 10 1 0 0), (Vi 0)], [(.ptr 10 1 0 0), (Vi 3)], [(.ptr 10 1 0 0), (Vi 1)], [(.ptr 10 1 0 0), (Vi 2)], [(.ptr 4 1 0 0), (Vi 1)]], .blk 6 [[(Vi 1), (Vi 1), (Vi 1), (.sl false [[(Vi 10), (Vi 0)], [(Vi 10), (Vi 10)], [(Vi 0), (Vi 10)]]), (Vi 7), (Vi 0)]], .blk 7 [[(Vi 1), (Vi 1), (Vi 1), (.sl false [[(Vi 10), (Vi 0)], [(Vi 10), (Vi 10)], [(Vi 0), (Vi 10)]]), (Vi 7), (Vi 0), (.sl false [[(Vi 0), (Vi 0)], [(Vi 10), (Vi 0)], [(Vi 10), (Vi 10)], [(Vi 0), (Vi 10)], [(Vi 0), (Vi 0)]])]], Qb 4 0, Qb 4 1, Qb 4 2, Qb 4 3, .blk 6 [[(Vi 2), (Vi 1), (Vi 1), (.sl false [[(Vi 1), (Vi 4)], [(Vi 5), (Vi 5)], [(Vi 4), (Vi 1)]]), (Vi 7), (Vi 1)]], .blk 7 [[(Vi 2), (Vi 1), (Vi 1), (.sl false [[(Vi 1), (Vi 4)], [(Vi 5), (Vi 5)], [(Vi 4), (Vi 1)]]), (Vi 7), (Vi 1), (.sl false [[(Vi 0), (Vi 0)], [(Vi 1), (Vi 4)], [(Vi 5), (Vi 5)], [(Vi 4), (Vi 1)], [(Vi 0), (Vi 0)]])]], Qb 10 0, Qb 10 1, Qb 10 2, Qb 10 3, .mp [((.int .i64 1), (.agg [(Vi 0), (Vi 0)]))], .blk 3 [[(Vi 1), (Vi 0), (Vi 0)]], Qb 4 1, Qb 4 0, Qb 4 2, Qb 4 1, Qb 4 2, Qb 4 0, Qb 4 3, Qb 4 1, Qb 4 3, Qb 4 2, Qb 10 0, Qb 4 1, Qb 10 0, Qb 4 3, Qb 10 1, Qb 4 1, Qb 10 1, Qb 10 0, Qb 10 2, Qb 4 1, Qb 10 2, Qb 10 1, Qb 10 3, Qb 4 1, Qb 10 3, Qb 10 2, Qb 10 3, Qb 10 1, Qb 10 3, Qb 10 0]⟩
theorem h160 : (runF PP (evFK PP T M160 6699) (fun vi args => lookM 6699 vi args M160) 6699 0 (tk 6 F131.body)).f ⟨A160 ++ List.replicate (F131.nt - A160.length) (.lit undefV), []⟩ = some (.normal, S160) := by kernel_rfl
theorem m160 : pv PP T 6700 131 A160 = some R160 := pv_cut M160 M160_ok (by kernel_rfl) (by kernel_rfl) h160 (by kernel_rfl)
def M161 : Memo := (6700, 131, A160, R160) :: M160
theorem M161_ok : MemoOK PP T M161 := ⟨m160, M160_ok⟩
abbrev A161 : List AV := [(.agg [(.sl false [[(Vi 1), (Vi 0), (Vi 0)]]), (.sl false [[(Vi 1), (Vi 1), (Vi 1), (.sl false [[(Vi 10), (Vi 0)], [(Vi 10), (Vi 10)], [(Vi 0), (Vi 10)]]), (Vi 7), (Vi 0)], [(Vi 2), (Vi 1), (Vi 1), (.sl false [[(Vi 1), (Vi 4)], [(Vi 5), (Vi 5)], [(Vi 4), (Vi 1)]]), (Vi 7), (Vi 1)]]), (.sl false [[(Vi 1)], [(Vi 7)]])])]
abbrev R161 : AV := (Vi 0)
theorem m161 : pv PP T 6740 104 A161 = some R161 := pv_fast M161 M161_ok (by kernel_rfl)
def M162 : Memo := (6740, 104, A161, R161) :: M161
theorem M162_ok : MemoOK PP T M162 := ⟨m161, M161_ok⟩
end Go.Proofs.YtmflphfmefakfaaGreatDoor.Av
