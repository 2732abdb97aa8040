/- For every list of marks VclockCounts returns true and leaves its arguments as they were. No conditions. -/
import Derived.Test.YtjnknfppndabjaaAvCou
namespace Go.Proofs.Ytjnknfppndabjaa
theorem vclockcounts_holds : Rows.VclockCountsSaid := Av.counts_proved
#print axioms vclockcounts_holds
end Go.Proofs.Ytjnknfppndabjaa
