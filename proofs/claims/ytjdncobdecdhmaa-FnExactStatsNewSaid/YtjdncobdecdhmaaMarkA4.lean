/-
  Contracts: marks held in attributes and schemas.
-/
import Derived.Test.YtjdncobdecdhmaaMarkA3
import Derived.Test.YtjdncobdecdhmaaAttrW
namespace Go.Proofs.Ytjdncobdecdhmaa
open Go.RowKit
set_option maxRecDepth 100000

def markOneD (k0 : Int) (a : AttrD) : AttrD := ⟨a.name, marksI k0 a.cuts.length, marksS (k0 + a.cuts.length) a.vals.length⟩
end Go.Proofs.Ytjdncobdecdhmaa
