/- For every two lists of marks VclockJoins returns true and leaves its arguments as they were. No conditions. -/
import Derived.Test.YtjnknfppndabjaaAvJoi
namespace Go.Proofs.Ytjnknfppndabjaa
theorem vclockjoins_holds : Rows.VclockJoinsSaid := Av.joins_proved
#print axioms vclockjoins_holds
end Go.Proofs.Ytjnknfppndabjaa
