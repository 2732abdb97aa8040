/- A part of the proof of EditChecksCardSaid. -/
import Derived.Test.YtmflphfmefakfaaGreatDoorVeM0
set_option linter.all false
namespace Go.Proofs.YtmflphfmefakfaaGreatDoor.Av
open Go
abbrev A38 : List AV := [(.agg [(.sl false [[(Vi 1), (Vi 0), (Vi 0)]]), (.sl false [[(Vi 1), (Vi 1), (Vi 1), (.sl false [[(Vi 10), (Vi 0)], [(Vi 10), (Vi 10)], [(Vi 0), (Vi 10)]]), (Vi 0), (Vi 0)]]), (.sl false [])])]
abbrev R38 : AV := (.lit (.bool true))
theorem m38 : pv PP T 1820 131 A38 = some R38 := pv_fast M38 M38_ok (by kernel_rfl)
def M39 : Memo := (1820, 131, A38, R38) :: M38
theorem M39_ok : MemoOK PP T M39 := ⟨m38, M38_ok⟩
abbrev A39 : List AV := [(.agg [(.sl false [[(Vi 1), (Vi 0), (Vi 0)]]), (.sl false [[(Vi 1), (Vi 1), (Vi 1), (.sl false [[(Vi 10), (Vi 0)], [(Vi 10), (Vi 10)], [(Vi 0), (Vi 10)]]), (Vi 0), (Vi 0)]]), (.sl false [])])]
abbrev R39 : AV := (Vi 0)
theorem m39 : pv PP T 1860 104 A39 = some R39 := pv_fast M39 M39_ok (by kernel_rfl)
def M40 : Memo := (1860, 104, A39, R39) :: M39
theorem M40_ok : MemoOK PP T M40 := ⟨m39, M39_ok⟩
abbrev A40 : List AV := [(.agg [(Vi 0), (Vi 0)]), (.agg [(Vi 0), (Vi 10)]), (.agg [(Vi 10), (Vi 0)])]
abbrev R40 : AV := (.lit (.bool false))
theorem m40 : pv PP T 1900 165 A40 = some R40 := pv_fast M40 M40_ok (by kernel_rfl)
def M41 : Memo := (1900, 165, A40, R40) :: M40
theorem M41_ok : MemoOK PP T M41 := ⟨m40, M40_ok⟩
abbrev A41 : List AV := [(.agg [(Vi 0), (Vi 0)]), (.agg [(Vi 10), (Vi 0)]), (.agg [(Vi 0), (Vi 10)])]
abbrev R41 : AV := (.lit (.bool true))
theorem m41 : pv PP T 1940 165 A41 = some R41 := pv_fast M41 M41_ok (by kernel_rfl)
def M42 : Memo := (1940, 165, A41, R41) :: M41
theorem M42_ok : MemoOK PP T M42 := ⟨m41, M41_ok⟩
abbrev A42 : List AV := [(.agg [(.sl false [[(Vi 1), (Vi 0), (Vi 0)]]), (.sl false [[(Vi 1), (Vi 1), (Vi 1), (.sl false [[(Vi 10), (Vi 0)], [(Vi 10), (Vi 10)], [(Vi 0), (Vi 10)]]), (Vi 0), (Vi 0)]]), (.sl false [])]), (.sl false [[(Vi (-1))]])]
abbrev R42 : AV := (Vi (-200))
theorem m42 : pv PP T 1980 120 A42 = some R42 := pv_fast M42 M42_ok (by kernel_rfl)
def M43 : Memo := (1980, 120, A42, R42) :: M42
theorem M43_ok : MemoOK PP T M43 := ⟨m42, M42_ok⟩
abbrev A43 : List AV := [(.agg [(.sl false [[(Vi 1), (Vi 0), (Vi 0)]]), (.sl false [[(Vi 1), (Vi 1), (Vi 1), (.sl false [[(Vi 10), (Vi 0)], [(Vi 10), (Vi 10)], [(Vi 0), (Vi 10)]]), (Vi 0), (Vi 0)]]), (.sl false [])]), (.sl false [[(Vi 1)]])]
abbrev R43 : AV := (Vi 200)
theorem m43 : pv PP T 2020 120 A43 = some R43 := pv_fast M43 M43_ok (by kernel_rfl)
def M44 : Memo := (2020, 120, A43, R43) :: M43
theorem M44_ok : MemoOK PP T M44 := ⟨m43, M43_ok⟩
abbrev A44 : List AV := [(.agg [(.sl false [[(Vi 1), (Vi 0), (Vi 0)]]), (.sl false [[(Vi 1), (Vi 1), (Vi 1), (.sl false [[(Vi 10), (Vi 0)], [(Vi 10), (Vi 10)], [(Vi 0), (Vi 10)]]), (Vi 1), (Vi 0)]]), (.sl false [[(Vi 1)]])])]
abbrev R44 : AV := (.lit (.bool true))
theorem m44 : pv PP T 2060 129 A44 = some R44 := pv_fast M44 M44_ok (by kernel_rfl)
def M45 : Memo := (2060, 129, A44, R44) :: M44
theorem M45_ok : MemoOK PP T M45 := ⟨m44, M44_ok⟩
abbrev A45 : List AV := [(.agg [(.sl false [[(Vi 1), (Vi 0), (Vi 0)]]), (.sl false [[(Vi 1), (Vi 1), (Vi 1), (.sl false [[(Vi 10), (Vi 0)], [(Vi 10), (Vi 10)], [(Vi 0), (Vi 10)]]), (Vi 1), (Vi 0)]]), (.sl false [[(Vi 1)]])]), (.sl false [[(Vi 1)]])]
abbrev R45 : AV := (Vi 0)
theorem m45 : pv PP T 2100 130 A45 = some R45 := pv_fast M45 M45_ok (by kernel_rfl)
def M46 : Memo := (2100, 130, A45, R45) :: M45
theorem M46_ok : MemoOK PP T M46 := ⟨m45, M45_ok⟩
abbrev A46 : List AV := [(.agg [(.sl false [[(Vi 1), (Vi 0), (Vi 0)]]), (.sl false [[(Vi 1), (Vi 1), (Vi 1), (.sl false [[(Vi 10), (Vi 0)], [(Vi 10), (Vi 10)], [(Vi 0), (Vi 10)]]), (Vi 1), (Vi 0)]]), (.sl false [[(Vi 1)]])]), (Vi 1)]
abbrev R46 : AV := (.tup [(.sl false [[(Vi 0), (Vi 0)], [(Vi 10), (Vi 0)], [(Vi 10), (Vi 10)], [(Vi 0), (Vi 10)], [(Vi 0), (Vi 0)]]), (Vi 0)])
theorem m46 : pv PP T 2140 91 A46 = some R46 := pv_fast M46 M46_ok (by kernel_rfl)
def M47 : Memo := (2140, 91, A46, R46) :: M46
theorem M47_ok : MemoOK PP T M47 := ⟨m46, M46_ok⟩
abbrev A47 : List AV := [(.agg [(.sl false [[(Vi 1), (Vi 0), (Vi 0)]]), (.sl false [[(Vi 1), (Vi 1), (Vi 1), (.sl false [[(Vi 10), (Vi 0)], [(Vi 10), (Vi 10)], [(Vi 0), (Vi 10)]]), (Vi 1), (Vi 0)]]), (.sl false [[(Vi 1)]])])]
abbrev R47 : AV := (.lit (.bool true))
theorem m47 : pv PP T 2180 131 A47 = some R47 := pv_fast M47 M47_ok (by kernel_rfl)
def M48 : Memo := (2180, 131, A47, R47) :: M47
theorem M48_ok : MemoOK PP T M48 := ⟨m47, M47_ok⟩
abbrev A48 : List AV := [(.agg [(.sl false [[(Vi 1), (Vi 0), (Vi 0)]]), (.sl false [[(Vi 1), (Vi 1), (Vi 1), (.sl false [[(Vi 10), (Vi 0)], [(Vi 10), (Vi 10)], [(Vi 0), (Vi 10)]]), (Vi 1), (Vi 0)]]), (.sl false [[(Vi 1)]])])]
abbrev R48 : AV := (Vi 0)
theorem m48 : pv PP T 2220 104 A48 = some R48 := pv_fast M48 M48_ok (by kernel_rfl)
def M49 : Memo := (2220, 104, A48, R48) :: M48
theorem M49_ok : MemoOK PP T M49 := ⟨m48, M48_ok⟩
abbrev A49 : List AV := [(.agg [(.sl false [[(Vi 1), (Vi 0), (Vi 0)]]), (.sl false [[(Vi 1), (Vi 1), (Vi 1), (.sl false [[(Vi 10), (Vi 0)], [(Vi 10), (Vi 10)], [(Vi 0), (Vi 10)]]), (Vi 1), (Vi 0)]]), (.sl false [[(Vi 1)]])]), (.sl false [[(Vi (-1))]])]
abbrev R49 : AV := (Vi (-200))
theorem m49 : pv PP T 2260 120 A49 = some R49 := pv_fast M49 M49_ok (by kernel_rfl)
def M50 : Memo := (2260, 120, A49, R49) :: M49
theorem M50_ok : MemoOK PP T M50 := ⟨m49, M49_ok⟩
abbrev A50 : List AV := [(.agg [(.sl false [[(Vi 1), (Vi 0), (Vi 0)]]), (.sl false [[(Vi 1), (Vi 1), (Vi 1), (.sl false [[(Vi 10), (Vi 0)], [(Vi 10), (Vi 10)], [(Vi 0), (Vi 10)]]), (Vi 1), (Vi 0)]]), (.sl false [[(Vi 1)]])]), (.sl false [[(Vi 1)]])]
abbrev R50 : AV := (Vi 200)
theorem m50 : pv PP T 2300 120 A50 = some R50 := pv_fast M50 M50_ok (by kernel_rfl)
def M51 : Memo := (2300, 120, A50, R50) :: M50
theorem M51_ok : MemoOK PP T M51 := ⟨m50, M50_ok⟩
abbrev A51 : List AV := [(.agg [(.sl false [[(Vi 1), (Vi 0), (Vi 0)]]), (.sl false [[(Vi 1), (Vi 1), (Vi 1), (.sl false [[(Vi 10), (Vi 0)], [(Vi 10), (Vi 10)], [(Vi 0), (Vi 10)]]), (Vi 0), (Vi 0)]]), (.sl false []), (.sl false [])]), (Vi 1)]
abbrev R51 : AV := (.tup [(Vi 0), (.lit (.bool true))])
theorem m51 : pv PP T 2340 86 A51 = some R51 := pv_fast M51 M51_ok (by kernel_rfl)
def M52 : Memo := (2340, 86, A51, R51) :: M51
theorem M52_ok : MemoOK PP T M52 := ⟨m51, M51_ok⟩
abbrev A52 : List AV := [(.agg [(.sl false [[(Vi 1), (Vi 0), (Vi 0)]]), (.sl false [[(Vi 1), (Vi 1), (Vi 1), (.sl false [[(Vi 10), (Vi 0)], [(Vi 10), (Vi 10)], [(Vi 0), (Vi 10)]]), (Vi 1), (Vi 0)]]), (.sl false [[(Vi 1)]])]), (Vi 1)]
abbrev R52 : AV := (.sl false [[(Vi 1)], [(Vi (-1))]])
theorem m52 : pv PP T 2380 116 A52 = some R52 := pv_fast M52 M52_ok (by kernel_rfl)
def M53 : Memo := (2380, 116, A52, R52) :: M52
theorem M53_ok : MemoOK PP T M53 := ⟨m52, M52_ok⟩
abbrev A53 : List AV := [(.agg [(.sl false [[(Vi 1), (Vi 0), (Vi 0)]]), (.sl false [[(Vi 1), (Vi 1), (Vi 1), (.sl false [[(Vi 10), (Vi 0)], [(Vi 10), (Vi 10)], [(Vi 0), (Vi 10)]]), (Vi 1), (Vi 0)]]), (.sl false [[(Vi 1)]])])]
abbrev R53 : AV := (.tup [(.sl false [[(.sl false [[(Vi (-1))]])], [(.sl false [[(Vi 1)]])]]), (Vi 0)])
theorem m53 : pv PP T 2420 96 A53 = some R53 := pv_fast M53 M53_ok (by kernel_rfl)
def M54 : Memo := (2420, 96, A53, R53) :: M53
theorem M54_ok : MemoOK PP T M54 := ⟨m53, M53_ok⟩
end Go.Proofs.YtmflphfmefakfaaGreatDoor.Av
