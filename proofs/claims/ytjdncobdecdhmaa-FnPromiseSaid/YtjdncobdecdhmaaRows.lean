/-
  No cell of these rows narrows 'for every input' (looked for: loops, veiled, ifaces, maps, wideKeys, modest, calm, conditions, laid).
  DERIVED. THE GIVEN ROWS OF THIS SEAT. 6 by the template 'for every input the law returns true; each argument reads behind the call as it read before'; 0 by the template 'total and deterministic' (their statements: YtjdncobdecdhmaaTotals.lean).
  GIVEN WITH THE SEED: the statements are not yours to turn. If you find one false, say at which input.
  Laid BY PROGRAM, IN A SANDBOX (cutbox-rows.mjs): the forced cells as the released guide's own fill.sh prints them over the translation ae85ecaf7c8e2c41… (all of the seat's roots in one cut). By AI agents, Wed Nov 11 2026. No macro, syntax, notation, axiom, sorry.
-/
import Derived.Test.YtjdncobdecdhmaaChecked
import GoSem.Claim
import GoSem.ClaimJoined
import GoSem.ClaimMapViews
import Derived.JoinedTies
import Derived.KernelRfl
namespace Go.Proofs.Ytjdncobdecdhmaa
/- THE CELL 'sum', in the pinned program and in every row, IS THE sha256 OF THE DUMP (.gsa) THAT YtjdncobdecdhmaaProg.lean LOADS. Nothing in Lean hashes anything: it is a label: what it is worth is what the hold of that sum in a sandbox is worth. -/
noncomputable def Try.pinned : Pinned := { name := "ytjdncobdecdhmaa", sum := "ae85ecaf7c8e2c4138593045f945f15243d5e5da721d179fb2e91d877db9dd9b", checked := Try.checked }
namespace Rows
def none {H : Type} : Left H := { results := [], args := [] }

/-- 'laws.FnParts': WHATEVER THE INPUT: true; the input reads as it did. -/
def fnPartsSpec : ChangeSpec := { name := "fnParts", fn := fun _ => fun
  | [d] => { results := [.lit (.bool true)], args := [d] }
  | _ => none }
def fnPartsRow : OpenClaim := { program := "ytjdncobdecdhmaa", sum := "ae85ecaf7c8e2c4138593045f945f15243d5e5da721d179fb2e91d877db9dd9b", func := "loop.example/g00477/laws.FnParts", spec := "fnParts", apart := false }
def FnPartsSaid : Prop := fnPartsRow.holds Try.pinned (OpenSpec.ofChange fnPartsSpec)

/-- ITS FALSE NEIGHBOUR: 'it returns false'. Refute it at one input. -/
def fnPartsWrong : ChangeSpec := { name := "fnParts", fn := fun _ => fun
  | [d] => { results := [.lit (.bool false)], args := [d] }
  | _ => none }
def FnPartsWrongFalsely : Prop := fnPartsRow.holds Try.pinned (OpenSpec.ofChange fnPartsWrong)

/-- 'laws.FnExactSorted': WHATEVER THE INPUT: true; the input reads as it did. -/
def fnExactSortedSpec : ChangeSpec := { name := "fnExactSorted", fn := fun _ => fun
  | [d] => { results := [.lit (.bool true)], args := [d] }
  | _ => none }
def fnExactSortedRow : OpenClaim := { program := "ytjdncobdecdhmaa", sum := "ae85ecaf7c8e2c4138593045f945f15243d5e5da721d179fb2e91d877db9dd9b", func := "loop.example/g00477/laws.FnExactSorted", spec := "fnExactSorted", recurses := true, apart := false }
def FnExactSortedSaid : Prop := fnExactSortedRow.holds Try.pinned (OpenSpec.ofChange fnExactSortedSpec)

/-- ITS FALSE NEIGHBOUR: 'it returns false'. Refute it at one input. -/
def fnExactSortedWrong : ChangeSpec := { name := "fnExactSorted", fn := fun _ => fun
  | [d] => { results := [.lit (.bool false)], args := [d] }
  | _ => none }
def FnExactSortedWrongFalsely : Prop := fnExactSortedRow.holds Try.pinned (OpenSpec.ofChange fnExactSortedWrong)

/-- 'laws.FnExactStatsNew': WHATEVER THE INPUT: true; the input reads as it did. -/
def fnExactStatsNewSpec : ChangeSpec := { name := "fnExactStatsNew", fn := fun _ => fun
  | [d] => { results := [.lit (.bool true)], args := [d] }
  | _ => none }
def fnExactStatsNewRow : OpenClaim := { program := "ytjdncobdecdhmaa", sum := "ae85ecaf7c8e2c4138593045f945f15243d5e5da721d179fb2e91d877db9dd9b", func := "loop.example/g00477/laws.FnExactStatsNew", spec := "fnExactStatsNew", unfollowed := true, recurses := true, apart := false }
def FnExactStatsNewSaid : Prop := fnExactStatsNewRow.holds Try.pinned (OpenSpec.ofChange fnExactStatsNewSpec)

/-- ITS FALSE NEIGHBOUR: 'it returns false'. Refute it at one input. -/
def fnExactStatsNewWrong : ChangeSpec := { name := "fnExactStatsNew", fn := fun _ => fun
  | [d] => { results := [.lit (.bool false)], args := [d] }
  | _ => none }
def FnExactStatsNewWrongFalsely : Prop := fnExactStatsNewRow.holds Try.pinned (OpenSpec.ofChange fnExactStatsNewWrong)

/-- 'laws.FnExactQuantileCuts': WHATEVER THE INPUT: true; the input reads as it did. -/
def fnExactQuantileCutsSpec : ChangeSpec := { name := "fnExactQuantileCuts", fn := fun _ => fun
  | [d1, d2] => { results := [.lit (.bool true)], args := [d1, d2] }
  | _ => none }
def fnExactQuantileCutsRow : OpenClaim := { program := "ytjdncobdecdhmaa", sum := "ae85ecaf7c8e2c4138593045f945f15243d5e5da721d179fb2e91d877db9dd9b", func := "loop.example/g00477/laws.FnExactQuantileCuts", spec := "fnExactQuantileCuts", unfollowed := true, recurses := true, apart := false }
def FnExactQuantileCutsSaid : Prop := fnExactQuantileCutsRow.holds Try.pinned (OpenSpec.ofChange fnExactQuantileCutsSpec)

/-- ITS FALSE NEIGHBOUR: 'it returns false'. Refute it at one input. -/
def fnExactQuantileCutsWrong : ChangeSpec := { name := "fnExactQuantileCuts", fn := fun _ => fun
  | [d1, d2] => { results := [.lit (.bool false)], args := [d1, d2] }
  | _ => none }
def FnExactQuantileCutsWrongFalsely : Prop := fnExactQuantileCutsRow.holds Try.pinned (OpenSpec.ofChange fnExactQuantileCutsWrong)

/-- 'laws.FnPromise': WHATEVER THE INPUT: true; the input reads as it did. -/
def fnPromiseSpec : ChangeSpec := { name := "fnPromise", fn := fun _ => fun
  | [d] => { results := [.lit (.bool true)], args := [d] }
  | _ => none }
def fnPromiseRow : OpenClaim := { program := "ytjdncobdecdhmaa", sum := "ae85ecaf7c8e2c4138593045f945f15243d5e5da721d179fb2e91d877db9dd9b", func := "loop.example/g00477/laws.FnPromise", spec := "fnPromise", unfollowed := true, recurses := true, apart := false }
def FnPromiseSaid : Prop := fnPromiseRow.holds Try.pinned (OpenSpec.ofChange fnPromiseSpec)

/-- ITS FALSE NEIGHBOUR: 'it returns false'. Refute it at one input. -/
def fnPromiseWrong : ChangeSpec := { name := "fnPromise", fn := fun _ => fun
  | [d] => { results := [.lit (.bool false)], args := [d] }
  | _ => none }
def FnPromiseWrongFalsely : Prop := fnPromiseRow.holds Try.pinned (OpenSpec.ofChange fnPromiseWrong)

/-- 'laws.FnCuts': WHATEVER THE INPUT: true; the input reads as it did. -/
def fnCutsSpec : ChangeSpec := { name := "fnCuts", fn := fun _ => fun
  | [d] => { results := [.lit (.bool true)], args := [d] }
  | _ => none }
def fnCutsRow : OpenClaim := { program := "ytjdncobdecdhmaa", sum := "ae85ecaf7c8e2c4138593045f945f15243d5e5da721d179fb2e91d877db9dd9b", func := "loop.example/g00477/laws.FnCuts", spec := "fnCuts", unfollowed := true, recurses := true, apart := false }
def FnCutsSaid : Prop := fnCutsRow.holds Try.pinned (OpenSpec.ofChange fnCutsSpec)

/-- ITS FALSE NEIGHBOUR: 'it returns false'. Refute it at one input. -/
def fnCutsWrong : ChangeSpec := { name := "fnCuts", fn := fun _ => fun
  | [d] => { results := [.lit (.bool false)], args := [d] }
  | _ => none }
def FnCutsWrongFalsely : Prop := fnCutsRow.holds Try.pinned (OpenSpec.ofChange fnCutsWrong)

/- THE SECOND FORM. 'bulk': how many values and letters a reading holds, each counted each time it is reached (what is shared counts as often as it is met; a slice's spare places count too). A statement '..UptoSaid' is the law's where the arguments, and the package variables that the reading takes, are together of bulk at most 1048576: NARROWER than '..Said'. Prove '..Said' where nothing that the law and all that it calls make is longer than what came in: it says more and counts as full. Else prove '..UptoSaid'. A law counts once. -/
mutual
def uptoBulk {H : Type} : DataW H → Nat
  | .lit (.string bytes) => bytes.length + 1
  | .lit _ => 1
  | .nil => 1
  | .ptr d => uptoBulk d + 1
  | .slice elems spare => uptoBulkAll elems + uptoBulkAll spare + 1
  | .agg parts => uptoBulkAll parts + 1
  | .iface _ d => uptoBulk d + 1
  | .map entries => uptoBulkEntries entries + 1
  | .held _ => 1
def uptoBulkAll {H : Type} : List (DataW H) → Nat
  | [] => 0
  | d :: r => uptoBulk d + uptoBulkAll r
def uptoBulkEntries {H : Type} : List (Lit × DataW H) → Nat
  | [] => 0
  | x :: r => uptoBulkEntry x + uptoBulkEntries r
def uptoBulkEntry {H : Type} : Lit × DataW H → Nat
  | (.string bytes, d) => bytes.length + uptoBulk d + 1
  | (_, d) => uptoBulk d + 1
 end
def uptoSmall : (H : Type) → List (DataW H) → Bool := fun _ ds => decide (uptoBulkAll ds ≤ 1048576)
def OpenSpec.upto (s : _root_.Go.ChangeSpec) : _root_.Go.OpenSpec := { _root_.Go.OpenSpec.ofChange s with cond := some uptoSmall }

/-- 'laws.FnParts', WHERE WHAT IT READS IS OF BULK AT MOST 1048576: true; the input reads as it did. -/
def fnPartsUptoRow : OpenClaim := { program := "ytjdncobdecdhmaa", sum := "ae85ecaf7c8e2c4138593045f945f15243d5e5da721d179fb2e91d877db9dd9b", func := "loop.example/g00477/laws.FnParts", spec := "fnParts", apart := false, narrowed := true }
def FnPartsUptoSaid : Prop := fnPartsUptoRow.holds Try.pinned (OpenSpec.upto fnPartsSpec)

/-- 'laws.FnExactSorted', WHERE WHAT IT READS IS OF BULK AT MOST 1048576: true; the input reads as it did. -/
def fnExactSortedUptoRow : OpenClaim := { program := "ytjdncobdecdhmaa", sum := "ae85ecaf7c8e2c4138593045f945f15243d5e5da721d179fb2e91d877db9dd9b", func := "loop.example/g00477/laws.FnExactSorted", spec := "fnExactSorted", recurses := true, apart := false, narrowed := true }
def FnExactSortedUptoSaid : Prop := fnExactSortedUptoRow.holds Try.pinned (OpenSpec.upto fnExactSortedSpec)

/-- 'laws.FnExactStatsNew', WHERE WHAT IT READS IS OF BULK AT MOST 1048576: true; the input reads as it did. -/
def fnExactStatsNewUptoRow : OpenClaim := { program := "ytjdncobdecdhmaa", sum := "ae85ecaf7c8e2c4138593045f945f15243d5e5da721d179fb2e91d877db9dd9b", func := "loop.example/g00477/laws.FnExactStatsNew", spec := "fnExactStatsNew", unfollowed := true, recurses := true, apart := false, narrowed := true }
def FnExactStatsNewUptoSaid : Prop := fnExactStatsNewUptoRow.holds Try.pinned (OpenSpec.upto fnExactStatsNewSpec)

/-- 'laws.FnExactQuantileCuts', WHERE WHAT IT READS IS OF BULK AT MOST 1048576: true; the input reads as it did. -/
def fnExactQuantileCutsUptoRow : OpenClaim := { program := "ytjdncobdecdhmaa", sum := "ae85ecaf7c8e2c4138593045f945f15243d5e5da721d179fb2e91d877db9dd9b", func := "loop.example/g00477/laws.FnExactQuantileCuts", spec := "fnExactQuantileCuts", unfollowed := true, recurses := true, apart := false, narrowed := true }
def FnExactQuantileCutsUptoSaid : Prop := fnExactQuantileCutsUptoRow.holds Try.pinned (OpenSpec.upto fnExactQuantileCutsSpec)

/-- 'laws.FnPromise', WHERE WHAT IT READS IS OF BULK AT MOST 1048576: true; the input reads as it did. -/
def fnPromiseUptoRow : OpenClaim := { program := "ytjdncobdecdhmaa", sum := "ae85ecaf7c8e2c4138593045f945f15243d5e5da721d179fb2e91d877db9dd9b", func := "loop.example/g00477/laws.FnPromise", spec := "fnPromise", unfollowed := true, recurses := true, apart := false, narrowed := true }
def FnPromiseUptoSaid : Prop := fnPromiseUptoRow.holds Try.pinned (OpenSpec.upto fnPromiseSpec)

/-- 'laws.FnCuts', WHERE WHAT IT READS IS OF BULK AT MOST 1048576: true; the input reads as it did. -/
def fnCutsUptoRow : OpenClaim := { program := "ytjdncobdecdhmaa", sum := "ae85ecaf7c8e2c4138593045f945f15243d5e5da721d179fb2e91d877db9dd9b", func := "loop.example/g00477/laws.FnCuts", spec := "fnCuts", unfollowed := true, recurses := true, apart := false, narrowed := true }
def FnCutsUptoSaid : Prop := fnCutsUptoRow.holds Try.pinned (OpenSpec.upto fnCutsSpec)

end Rows
end Go.Proofs.Ytjdncobdecdhmaa
