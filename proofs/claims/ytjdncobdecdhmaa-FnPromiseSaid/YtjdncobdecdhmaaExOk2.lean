/-
  Contracts: right examples, the program.
-/
import Derived.Test.YtjdncobdecdhmaaExOk
namespace Go.Proofs.Ytjdncobdecdhmaa
open Go.RowKit
set_option maxRecDepth 100000

end Go.Proofs.Ytjdncobdecdhmaa
