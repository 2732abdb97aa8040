/- WarpEquals: being alike is symmetric and transitive, and a small plan is alike itself exactly if it is valid. No conditions. -/
import Derived.Test.YtapabkfjeiknbaaGreatWeE
namespace Go.Proofs.YtapabkfjeiknbaaGreat
theorem warpequals_holds : Rows.WarpEqualsSaid := Av.equals_proved
#print axioms warpequals_holds
end Go.Proofs.YtapabkfjeiknbaaGreat
