/- For every clock and list of marks VclockMissing returns true and leaves its arguments as they were. No conditions. -/
import Derived.Test.YtjnknfppndabjaaAvMis
namespace Go.Proofs.Ytjnknfppndabjaa
theorem vclockmissing_holds : Rows.VclockMissingSaid := Av.missing_proved
#print axioms vclockmissing_holds
end Go.Proofs.Ytjnknfppndabjaa
