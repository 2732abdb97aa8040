/- For every three clocks VclockOrders returns true and leaves its arguments as they were. No conditions. -/
import Derived.Test.YtjnknfppndabjaaAvOrd
namespace Go.Proofs.Ytjnknfppndabjaa
theorem vclockorders_holds : Rows.VclockOrdersSaid := Av.orders_proved
#print axioms vclockorders_holds
end Go.Proofs.Ytjnknfppndabjaa
