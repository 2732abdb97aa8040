/- For every two clocks VclockMerges returns true and leaves its arguments as they were. No conditions. -/
import Derived.Test.YtjnknfppndabjaaAvMer
namespace Go.Proofs.Ytjnknfppndabjaa
theorem vclockmerges_holds : Rows.VclockMergesSaid := Av.merges_proved
#print axioms vclockmerges_holds
end Go.Proofs.Ytjnknfppndabjaa
