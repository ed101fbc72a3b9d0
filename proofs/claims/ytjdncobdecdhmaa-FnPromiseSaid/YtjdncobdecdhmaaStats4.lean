/-
  Contracts: equal statistics.
-/
import Derived.Test.YtjdncobdecdhmaaStats3
namespace Go.Proofs.Ytjdncobdecdhmaa
open Go.RowKit
set_option maxRecDepth 100000

def statsSameB (d e : StatsD) : Bool := decide (d.totals = e.totals) && decide (d.cells = e.cells)

end Go.Proofs.Ytjdncobdecdhmaa
