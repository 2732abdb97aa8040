/- A part of the proof of EditChecksCardSaid. -/
import Derived.Test.YtmflphfmefakfaaGreatDoorVeM6
set_option linter.all false
namespace Go.Proofs.YtmflphfmefakfaaGreatDoor.Av
open Go
abbrev A130 : List AV := [(.agg [(.sl false [[(Vi 1), (Vi 0), (Vi 0)]]), (.sl false [[(Vi 1), (Vi 1), (Vi 1), (.sl false [[(Vi 10), (Vi 0)], [(Vi 10), (Vi 10)], [(Vi 0), (Vi 10)]]), (Vi 0), (Vi 0)], [(Vi 2), (Vi 1), (Vi 1), (.sl false [[(Vi 1), (Vi 4)], [(Vi 5), (Vi 5)], [(Vi 4), (Vi 1)]]), (Vi 0), (Vi 0)]]), (.sl false [])]), (.sl false [[(Vi 1)]])]
abbrev R130 : AV := (Vi 0)
theorem m130 : pv PP T 5500 130 A130 = some R130 := pv_fast M130 M130_ok (by kernel_rfl)
def M131 : Memo := (5500, 130, A130, R130) :: M130
theorem M131_ok : MemoOK PP T M131 := ⟨m130, M130_ok⟩
abbrev A131 : List AV := [(.agg [(.sl false [[(Vi 1), (Vi 0), (Vi 0)]]), (.sl false [[(Vi 1), (Vi 1), (Vi 1), (.sl false [[(Vi 10), (Vi 0)], [(Vi 10), (Vi 10)], [(Vi 0), (Vi 10)]]), (Vi 0), (Vi 0)], [(Vi 2), (Vi 1), (Vi 1), (.sl false [[(Vi 1), (Vi 4)], [(Vi 5), (Vi 5)], [(Vi 4), (Vi 1)]]), (Vi 0), (Vi 0)]]), (.sl false [])]), (Vi 1)]
abbrev R131 : AV := (.tup [(.sl false [[(Vi 0), (Vi 0)], [(Vi 10), (Vi 0)], [(Vi 10), (Vi 10)], [(Vi 0), (Vi 10)], [(Vi 0), (Vi 0)]]), (Vi 0)])
theorem m131 : pv PP T 5540 91 A131 = some R131 := pv_fast M131 M131_ok (by kernel_rfl)
def M132 : Memo := (5540, 91, A131, R131) :: M131
theorem M132_ok : MemoOK PP T M132 := ⟨m131, M131_ok⟩
abbrev A132 : List AV := [(.agg [(.sl false [[(Vi 1), (Vi 0), (Vi 0)]]), (.sl false [[(Vi 1), (Vi 1), (Vi 1), (.sl false [[(Vi 10), (Vi 0)], [(Vi 10), (Vi 10)], [(Vi 0), (Vi 10)]]), (Vi 0), (Vi 0)], [(Vi 2), (Vi 1), (Vi 1), (.sl false [[(Vi 1), (Vi 4)], [(Vi 5), (Vi 5)], [(Vi 4), (Vi 1)]]), (Vi 0), (Vi 0)]]), (.sl false [])]), (Vi 2)]
abbrev R132 : AV := (.tup [(.sl false [[(Vi 0), (Vi 0)], [(Vi 1), (Vi 4)], [(Vi 5), (Vi 5)], [(Vi 4), (Vi 1)], [(Vi 0), (Vi 0)]]), (Vi 0)])
theorem m132 : pv PP T 5580 91 A132 = some R132 := pv_fast M132 M132_ok (by kernel_rfl)
def M133 : Memo := (5580, 91, A132, R132) :: M132
theorem M133_ok : MemoOK PP T M133 := ⟨m132, M132_ok⟩
abbrev L133 : List AV := [(.sl false [[(Vi 1), (Vi 0), (Vi 0)]]), (.sl false [[(Vi 1), (Vi 1), (Vi 1), (.sl false [[(Vi 10), (Vi 0)], [(Vi 10), (Vi 10)], [(Vi 0), (Vi 10)]]), (Vi 0), (Vi 0)], [(Vi 2), (Vi 1), (Vi 1), (.sl false [[(Vi 1), (Vi 4)], [(Vi 5), (Vi 5)], [(Vi 4), (Vi 1)]]), (Vi 0), (Vi 0)]]), (.sl false [])]
abbrev A133 : List AV := [(.agg L133)]
abbrev R133 : AV := (.lit (.bool true))
abbrev S133 : St := ⟨[.undef, (.ptr 0 1 0 0), .undef, (.ms 2 8 0 8), .undef, (.mp 15)] ++ List.replicate 31 .undef ++ [(.ms 2 8 0 8), (.tup [])] ++ List.replicate 78 .undef, [.blk 3 [L133], .blk 3 [L133], .blk 2 [[(.ptr 4 1 0 0), (Vi 0)], [(.ptr 4 1 0 0), (Vi 2)], [(.ptr 4 1 0 0), (Vi 3)], [(.ptr 10 1 0 0), (Vi 0)], [(.ptr 10 1 0 0), (Vi 3)], [(.ptr 10 1 0 0), (Vi 1)], [(.ptr 10 1 0 0), (Vi 2)], [(.ptr 4 1 0 0), (Vi 1)]], .blk 6 [[(Vi 1), (Vi 1), (Vi 1), (.sl false [[(Vi 10), (Vi 0)], [(Vi 10), (Vi 10)], [(Vi 0), (Vi 10)]]), (Vi 0), (Vi 0)]], .blk 7 [[(Vi 1), (Vi 1), (Vi 1), (.sl false [[(Vi 10), (Vi 0)], [(Vi 10), (Vi 10)], [(Vi 0), (Vi 10)]]), (Vi 0), (Vi 0), (.sl false [[(Vi 0), (Vi 0)], [(Vi 10), (Vi 0)], [(Vi 10), (Vi 10)], [(Vi 0), (Vi 10)], [(Vi 0), (Vi 0)]])]], Qb 4 0, Qb 4 1, Qb 4 2, Qb 4 3, .blk 6 [[(Vi 2), (Vi 1), (Vi 1), (.sl false [[(Vi 1), (Vi 4)], [(Vi 5), (Vi 5)], [(Vi 4), (Vi 1)]]), (Vi 0), (Vi 0)]], .blk 7 [[(Vi 2), (Vi 1), (Vi 1), (.sl false [[(Vi 1), (Vi 4)], [(Vi 5), (Vi 5)], [(Vi 4), (Vi 1)]]), (Vi 0), (Vi 0), (.sl false [[(Vi 0), (Vi 0)], [(Vi 1), (Vi 4)], [(Vi 5), (Vi 5)], [(Vi 4), (Vi 1)], [(Vi 0), (Vi 0)]])]], Qb 10 0, Qb 10 1, Qb 10 2, Qb 10 3, .mp [((.int .i64 1), (.agg [(Vi 0), (Vi 0)]))], .blk 3 [[(Vi 1), (Vi 0), (Vi 0)]], Qb 4 1, Qb 4 0, Qb 4 2, Qb 4 1, Qb 4 2, Qb 4 0, Qb 4 3, Qb 4 1, Qb 4 3, Qb 4 2, Qb 10 0, Qb 4 1, Qb 10 0, Qb 4 3, Qb 10 1, Qb 4 1, Qb 10 1, Qb 10 0, Qb 10 2, Qb 4 1, Qb 10 2, Qb 10 1, Qb 10 3, Qb 4 1, Qb 10 3, Qb 10 2, Qb 10 3, Qb 10 1, Qb 10 3, Qb 10 0]⟩
theorem h133 : (runF PP (evFK PP T M133 5619) (fun vi args => lookM 5619 vi args M133) 5619 0 (tk 6 F131.body)).f ⟨A133 ++ List.replicate (F131.nt - A133.length) (.lit undefV), []⟩ = some (.normal, S133) := by kernel_rfl
theorem m133 : pv PP T 5620 131 A133 = some R133 := pv_cut M133 M133_ok (by kernel_rfl) (by kernel_rfl) h133 (by kernel_rfl)
def M134 : Memo := (5620, 131, A133, R133) :: M133
theorem M134_ok : MemoOK PP T M134 := ⟨m133, M133_ok⟩
end Go.Proofs.YtmflphfmefakfaaGreatDoor.Av
