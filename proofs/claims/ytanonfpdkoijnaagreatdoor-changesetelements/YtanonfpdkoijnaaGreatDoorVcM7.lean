/- A part of the proof of ChangesetElementsCardSaid: an evaluator of the program, proved sound, and what it says. -/
import Derived.Test.YtanonfpdkoijnaaGreatDoorVcM6
set_option linter.all false
namespace Go.Proofs.YtanonfpdkoijnaaGreatDoor.Av
open Go
abbrev A10 : List AV := [(.agg [(.sl false [[(Vi 1), (Vi 0), (Vi 0)]]), (.sl false [[(Vi 1), (Vi 1), (Vi 1), (.sl false [[(Vi 10), (Vi 0)], [(Vi 10), (Vi 10)], [(Vi 0), (Vi 10)]]), (Vi 2), (Vi 0)]]), (.sl false [[(Vi 2)]]), (.sl false [])]), (.agg [(Vi 12), (Vi 2), (Vi 1), (Vi 0), (Vi 0), (Vi 0), (Vi 0), (.sl false []), (.lit (.string ⟨#[]⟩)), (.sl false [])])]
abbrev R10 : AV := (.tup [(.agg [(.sl false [[(Vi 1), (Vi 0), (Vi 0)]]), (.sl false [[(Vi 1), (Vi 1), (Vi 1), (.sl false [[(Vi 10), (Vi 0)], [(Vi 10), (Vi 10)], [(Vi 0), (Vi 10)]]), (Vi 1), (Vi 0)]]), (.sl false [[(Vi 1)]]), (.sl false [])]), (Vi 0)])
theorem m10 : pv PP T 700 61 A10 = some R10 := pv_fast M10 M10_ok (by kernel_rfl)
def M11 : Memo := (700, 61, A10, R10) :: M10
theorem M11_ok : MemoOK PP T M11 := ⟨m10, M10_ok⟩
abbrev A11 : List AV := [(.agg [(.sl false []), (.sl false []), (.sl false []), (.sl false [])]), (.agg [(.sl false [[(Vi 1), (Vi 0), (Vi 0)]]), (.sl false [[(Vi 1), (Vi 1), (Vi 1), (.sl false [[(Vi 10), (Vi 0)], [(Vi 10), (Vi 10)], [(Vi 0), (Vi 10)]]), (Vi 1), (Vi 0)]]), (.sl false [[(Vi 1)]]), (.sl false [])])]
abbrev R11 : AV := (.tup [(.sl false [[(Vi 1), (Vi 1), (Vi 0), (Vi 0), (Vi 0), (Vi 0), (Vi 0), (.sl false []), (.lit (.string ⟨#[]⟩)), (.sl false [])], [(Vi 4), (Vi 1), (Vi 1), (Vi 1), (Vi 2), (Vi 0), (Vi 0), (.sl false [[(Vi 10), (Vi 0)], [(Vi 10), (Vi 10)], [(Vi 0), (Vi 10)]]), (.lit (.string ⟨#[]⟩)), (.sl false [])], [(Vi 12), (Vi 2), (Vi 1), (Vi 0), (Vi 0), (Vi 0), (Vi 0), (.sl false []), (.lit (.string ⟨#[]⟩)), (.sl false [])]]), (Vi 0)])
theorem m11 : pv PP T 740 8 A11 = some R11 := pv_fast M11 M11_ok (by kernel_rfl)
def M12 : Memo := (740, 8, A11, R11) :: M11
theorem M12_ok : MemoOK PP T M12 := ⟨m11, M11_ok⟩
theorem awake_pv1 : pv PP T 10000 1 [] = some (.lit (.bool true)) := pv_fast M12 M12_ok (by kernel_rfl)
end Go.Proofs.YtanonfpdkoijnaaGreatDoor.Av
