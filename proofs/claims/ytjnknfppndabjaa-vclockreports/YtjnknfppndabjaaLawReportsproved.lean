/- For every clock, office and number VclockReports returns true and leaves its arguments as they were. No conditions. -/
import Derived.Test.YtjnknfppndabjaaAvRep
namespace Go.Proofs.Ytjnknfppndabjaa
theorem vclockreports_holds : Rows.VclockReportsSaid := Av.reports_proved
#print axioms vclockreports_holds
end Go.Proofs.Ytjnknfppndabjaa
