/-
  No cell of these rows narrows 'for every input' (looked for: loops, veiled, ifaces, maps, wideKeys, modest, calm, conditions, laid).
  DERIVED. THE GIVEN ROWS OF THIS SEAT. 10 by the template 'for every input the law returns true; each argument reads behind the call as it read before'; 0 by the template 'total and deterministic' (their statements: YtieokdeiafmcaaaTotals.lean).
  GIVEN WITH THE SEED: the statements are not yours to turn. If you find one false, say at which input.
  Laid BY PROGRAM, IN A SANDBOX (cutbox-rows.mjs): the forced cells as the released guide's own fill.sh prints them over the translation f07c01fe9df134db… (all of the seat's roots in one cut). By AI agents, Wed Nov 11 2026. No macro, syntax, notation, axiom, sorry.
-/
import Derived.Test.YtieokdeiafmcaaaChecked
import GoSem.Claim
import GoSem.ClaimJoined
import GoSem.ClaimMapViews
import Derived.JoinedTies
import Derived.KernelRfl
namespace Go.Proofs.Ytieokdeiafmcaaa
/- THE CELL 'sum', in the pinned program and in every row, IS THE sha256 OF THE DUMP (.gsa) THAT YtieokdeiafmcaaaProg.lean LOADS. Nothing in Lean hashes anything: it is a label: what it is worth is what the hold of that sum in a sandbox is worth. -/
noncomputable def Try.pinned : Pinned := { name := "ytieokdeiafmcaaa", sum := "f07c01fe9df134db809bc7cfdb139bf2e55850b93e03ffa87081a6765b042b3b", checked := Try.checked }
namespace Rows
def none {H : Type} : Left H := { results := [], args := [] }

/-- 'laws.FnExactConstants': WHATEVER THE INPUT: true; the input reads as it did. -/
def fnExactConstantsSpec : ChangeSpec := { name := "fnExactConstants", fn := fun _ => fun
  | [] => { results := [.lit (.bool true)], args := [] }
  | _ => none }
def fnExactConstantsRow : OpenClaim := { program := "ytieokdeiafmcaaa", sum := "f07c01fe9df134db809bc7cfdb139bf2e55850b93e03ffa87081a6765b042b3b", func := "loop.example/g00477/laws.FnExactConstants", spec := "fnExactConstants", apart := false }
def FnExactConstantsSaid : Prop := fnExactConstantsRow.holds Try.pinned (OpenSpec.ofChange fnExactConstantsSpec)

/-- ITS FALSE NEIGHBOUR: 'it returns false'. Refute it at one input. -/
def fnExactConstantsWrong : ChangeSpec := { name := "fnExactConstants", fn := fun _ => fun
  | [] => { results := [.lit (.bool false)], args := [] }
  | _ => none }
def FnExactConstantsWrongFalsely : Prop := fnExactConstantsRow.holds Try.pinned (OpenSpec.ofChange fnExactConstantsWrong)

/-- 'laws.FnExactFracOk': WHATEVER THE INPUT: true; the input reads as it did. -/
def fnExactFracOkSpec : ChangeSpec := { name := "fnExactFracOk", fn := fun _ => fun
  | [d] => { results := [.lit (.bool true)], args := [d] }
  | _ => none }
def fnExactFracOkRow : OpenClaim := { program := "ytieokdeiafmcaaa", sum := "f07c01fe9df134db809bc7cfdb139bf2e55850b93e03ffa87081a6765b042b3b", func := "loop.example/g00477/laws.FnExactFracOk", spec := "fnExactFracOk", apart := false }
def FnExactFracOkSaid : Prop := fnExactFracOkRow.holds Try.pinned (OpenSpec.ofChange fnExactFracOkSpec)

/-- ITS FALSE NEIGHBOUR: 'it returns false'. Refute it at one input. -/
def fnExactFracOkWrong : ChangeSpec := { name := "fnExactFracOk", fn := fun _ => fun
  | [d] => { results := [.lit (.bool false)], args := [d] }
  | _ => none }
def FnExactFracOkWrongFalsely : Prop := fnExactFracOkRow.holds Try.pinned (OpenSpec.ofChange fnExactFracOkWrong)

/-- 'laws.FnExactLnOf': WHATEVER THE INPUT: true; the input reads as it did. -/
def fnExactLnOfSpec : ChangeSpec := { name := "fnExactLnOf", fn := fun _ => fun
  | [d] => { results := [.lit (.bool true)], args := [d] }
  | _ => none }
def fnExactLnOfRow : OpenClaim := { program := "ytieokdeiafmcaaa", sum := "f07c01fe9df134db809bc7cfdb139bf2e55850b93e03ffa87081a6765b042b3b", func := "loop.example/g00477/laws.FnExactLnOf", spec := "fnExactLnOf", apart := false }
def FnExactLnOfSaid : Prop := fnExactLnOfRow.holds Try.pinned (OpenSpec.ofChange fnExactLnOfSpec)

/-- ITS FALSE NEIGHBOUR: 'it returns false'. Refute it at one input. -/
def fnExactLnOfWrong : ChangeSpec := { name := "fnExactLnOf", fn := fun _ => fun
  | [d] => { results := [.lit (.bool false)], args := [d] }
  | _ => none }
def FnExactLnOfWrongFalsely : Prop := fnExactLnOfRow.holds Try.pinned (OpenSpec.ofChange fnExactLnOfWrong)

/-- 'laws.FnExactGcd': WHATEVER THE INPUT: true; the input reads as it did. -/
def fnExactGcdSpec : ChangeSpec := { name := "fnExactGcd", fn := fun _ => fun
  | [d1, d2] => { results := [.lit (.bool true)], args := [d1, d2] }
  | _ => none }
def fnExactGcdRow : OpenClaim := { program := "ytieokdeiafmcaaa", sum := "f07c01fe9df134db809bc7cfdb139bf2e55850b93e03ffa87081a6765b042b3b", func := "loop.example/g00477/laws.FnExactGcd", spec := "fnExactGcd", apart := false }
def FnExactGcdSaid : Prop := fnExactGcdRow.holds Try.pinned (OpenSpec.ofChange fnExactGcdSpec)

/-- ITS FALSE NEIGHBOUR: 'it returns false'. Refute it at one input. -/
def fnExactGcdWrong : ChangeSpec := { name := "fnExactGcd", fn := fun _ => fun
  | [d1, d2] => { results := [.lit (.bool false)], args := [d1, d2] }
  | _ => none }
def FnExactGcdWrongFalsely : Prop := fnExactGcdRow.holds Try.pinned (OpenSpec.ofChange fnExactGcdWrong)

/-- 'laws.FnExactWordOk': WHATEVER THE INPUT: true; the input reads as it did. -/
def fnExactWordOkSpec : ChangeSpec := { name := "fnExactWordOk", fn := fun _ => fun
  | [d] => { results := [.lit (.bool true)], args := [d] }
  | _ => none }
def fnExactWordOkRow : OpenClaim := { program := "ytieokdeiafmcaaa", sum := "f07c01fe9df134db809bc7cfdb139bf2e55850b93e03ffa87081a6765b042b3b", func := "loop.example/g00477/laws.FnExactWordOk", spec := "fnExactWordOk", apart := false }
def FnExactWordOkSaid : Prop := fnExactWordOkRow.holds Try.pinned (OpenSpec.ofChange fnExactWordOkSpec)

/-- ITS FALSE NEIGHBOUR: 'it returns false'. Refute it at one input. -/
def fnExactWordOkWrong : ChangeSpec := { name := "fnExactWordOk", fn := fun _ => fun
  | [d] => { results := [.lit (.bool false)], args := [d] }
  | _ => none }
def FnExactWordOkWrongFalsely : Prop := fnExactWordOkRow.holds Try.pinned (OpenSpec.ofChange fnExactWordOkWrong)

/-- 'laws.FnExactThousandths': WHATEVER THE INPUT: true; the input reads as it did. -/
def fnExactThousandthsSpec : ChangeSpec := { name := "fnExactThousandths", fn := fun _ => fun
  | [d] => { results := [.lit (.bool true)], args := [d] }
  | _ => none }
def fnExactThousandthsRow : OpenClaim := { program := "ytieokdeiafmcaaa", sum := "f07c01fe9df134db809bc7cfdb139bf2e55850b93e03ffa87081a6765b042b3b", func := "loop.example/g00477/laws.FnExactThousandths", spec := "fnExactThousandths", apart := false }
def FnExactThousandthsSaid : Prop := fnExactThousandthsRow.holds Try.pinned (OpenSpec.ofChange fnExactThousandthsSpec)

/-- ITS FALSE NEIGHBOUR: 'it returns false'. Refute it at one input. -/
def fnExactThousandthsWrong : ChangeSpec := { name := "fnExactThousandths", fn := fun _ => fun
  | [d] => { results := [.lit (.bool false)], args := [d] }
  | _ => none }
def FnExactThousandthsWrongFalsely : Prop := fnExactThousandthsRow.holds Try.pinned (OpenSpec.ofChange fnExactThousandthsWrong)

/-- 'laws.FnExactBinOf': WHATEVER THE INPUT: true; the input reads as it did. -/
def fnExactBinOfSpec : ChangeSpec := { name := "fnExactBinOf", fn := fun _ => fun
  | [d1, d2] => { results := [.lit (.bool true)], args := [d1, d2] }
  | _ => none }
def fnExactBinOfRow : OpenClaim := { program := "ytieokdeiafmcaaa", sum := "f07c01fe9df134db809bc7cfdb139bf2e55850b93e03ffa87081a6765b042b3b", func := "loop.example/g00477/laws.FnExactBinOf", spec := "fnExactBinOf", apart := false }
def FnExactBinOfSaid : Prop := fnExactBinOfRow.holds Try.pinned (OpenSpec.ofChange fnExactBinOfSpec)

/-- ITS FALSE NEIGHBOUR: 'it returns false'. Refute it at one input. -/
def fnExactBinOfWrong : ChangeSpec := { name := "fnExactBinOf", fn := fun _ => fun
  | [d1, d2] => { results := [.lit (.bool false)], args := [d1, d2] }
  | _ => none }
def FnExactBinOfWrongFalsely : Prop := fnExactBinOfRow.holds Try.pinned (OpenSpec.ofChange fnExactBinOfWrong)

/-- 'laws.FnExactNatOk': WHATEVER THE INPUT: true; the input reads as it did. -/
def fnExactNatOkSpec : ChangeSpec := { name := "fnExactNatOk", fn := fun _ => fun
  | [d] => { results := [.lit (.bool true)], args := [d] }
  | _ => none }
def fnExactNatOkRow : OpenClaim := { program := "ytieokdeiafmcaaa", sum := "f07c01fe9df134db809bc7cfdb139bf2e55850b93e03ffa87081a6765b042b3b", func := "loop.example/g00477/laws.FnExactNatOk", spec := "fnExactNatOk", unfollowed := true, recurses := true, apart := false }
def FnExactNatOkSaid : Prop := fnExactNatOkRow.holds Try.pinned (OpenSpec.ofChange fnExactNatOkSpec)

/-- ITS FALSE NEIGHBOUR: 'it returns false'. Refute it at one input. -/
def fnExactNatOkWrong : ChangeSpec := { name := "fnExactNatOk", fn := fun _ => fun
  | [d] => { results := [.lit (.bool false)], args := [d] }
  | _ => none }
def FnExactNatOkWrongFalsely : Prop := fnExactNatOkRow.holds Try.pinned (OpenSpec.ofChange fnExactNatOkWrong)

/-- 'laws.FnParts': WHATEVER THE INPUT: true; the input reads as it did. -/
def fnPartsSpec : ChangeSpec := { name := "fnParts", fn := fun _ => fun
  | [d] => { results := [.lit (.bool true)], args := [d] }
  | _ => none }
def fnPartsRow : OpenClaim := { program := "ytieokdeiafmcaaa", sum := "f07c01fe9df134db809bc7cfdb139bf2e55850b93e03ffa87081a6765b042b3b", func := "loop.example/g00477/laws.FnParts", spec := "fnParts", apart := false }
def FnPartsSaid : Prop := fnPartsRow.holds Try.pinned (OpenSpec.ofChange fnPartsSpec)

/-- ITS FALSE NEIGHBOUR: 'it returns false'. Refute it at one input. -/
def fnPartsWrong : ChangeSpec := { name := "fnParts", fn := fun _ => fun
  | [d] => { results := [.lit (.bool false)], args := [d] }
  | _ => none }
def FnPartsWrongFalsely : Prop := fnPartsRow.holds Try.pinned (OpenSpec.ofChange fnPartsWrong)

/-- 'laws.FnExactEqualCuts': WHATEVER THE INPUT: true; the input reads as it did. -/
def fnExactEqualCutsSpec : ChangeSpec := { name := "fnExactEqualCuts", fn := fun _ => fun
  | [d1, d2, d3] => { results := [.lit (.bool true)], args := [d1, d2, d3] }
  | _ => none }
def fnExactEqualCutsRow : OpenClaim := { program := "ytieokdeiafmcaaa", sum := "f07c01fe9df134db809bc7cfdb139bf2e55850b93e03ffa87081a6765b042b3b", func := "loop.example/g00477/laws.FnExactEqualCuts", spec := "fnExactEqualCuts", apart := false }
def FnExactEqualCutsSaid : Prop := fnExactEqualCutsRow.holds Try.pinned (OpenSpec.ofChange fnExactEqualCutsSpec)

/-- ITS FALSE NEIGHBOUR: 'it returns false'. Refute it at one input. -/
def fnExactEqualCutsWrong : ChangeSpec := { name := "fnExactEqualCuts", fn := fun _ => fun
  | [d1, d2, d3] => { results := [.lit (.bool false)], args := [d1, d2, d3] }
  | _ => none }
def FnExactEqualCutsWrongFalsely : Prop := fnExactEqualCutsRow.holds Try.pinned (OpenSpec.ofChange fnExactEqualCutsWrong)

/- THE SECOND FORM. 'bulk': how many values and letters a reading holds, each counted each time it is reached (what is shared counts as often as it is met; a slice's spare places count too). A statement '..UptoSaid' is the law's where the arguments, and the package variables that the reading takes, are together of bulk at most 1048576: NARROWER than '..Said'. Prove '..Said' where nothing that the law and all that it calls make is longer than what came in: it says more and counts as full. Else prove '..UptoSaid'. A law counts once. -/
mutual
def uptoBulk {H : Type} : DataW H → Nat
  | .lit (.string bytes) => bytes.length + 1
  | .lit _ => 1
  | .nil => 1
  | .ptr d => uptoBulk d + 1
  | .slice elems spare => uptoBulkAll elems + uptoBulkAll spare + 1
  | .agg parts => uptoBulkAll parts + 1
  | .iface _ d => uptoBulk d + 1
  | .map entries => uptoBulkEntries entries + 1
  | .held _ => 1
def uptoBulkAll {H : Type} : List (DataW H) → Nat
  | [] => 0
  | d :: r => uptoBulk d + uptoBulkAll r
def uptoBulkEntries {H : Type} : List (Lit × DataW H) → Nat
  | [] => 0
  | x :: r => uptoBulkEntry x + uptoBulkEntries r
def uptoBulkEntry {H : Type} : Lit × DataW H → Nat
  | (.string bytes, d) => bytes.length + uptoBulk d + 1
  | (_, d) => uptoBulk d + 1
 end
def uptoSmall : (H : Type) → List (DataW H) → Bool := fun _ ds => decide (uptoBulkAll ds ≤ 1048576)
def OpenSpec.upto (s : _root_.Go.ChangeSpec) : _root_.Go.OpenSpec := { _root_.Go.OpenSpec.ofChange s with cond := some uptoSmall }

/-- 'laws.FnExactConstants', WHERE WHAT IT READS IS OF BULK AT MOST 1048576: true; the input reads as it did. -/
def fnExactConstantsUptoRow : OpenClaim := { program := "ytieokdeiafmcaaa", sum := "f07c01fe9df134db809bc7cfdb139bf2e55850b93e03ffa87081a6765b042b3b", func := "loop.example/g00477/laws.FnExactConstants", spec := "fnExactConstants", apart := false, narrowed := true }
def FnExactConstantsUptoSaid : Prop := fnExactConstantsUptoRow.holds Try.pinned (OpenSpec.upto fnExactConstantsSpec)

/-- 'laws.FnExactFracOk', WHERE WHAT IT READS IS OF BULK AT MOST 1048576: true; the input reads as it did. -/
def fnExactFracOkUptoRow : OpenClaim := { program := "ytieokdeiafmcaaa", sum := "f07c01fe9df134db809bc7cfdb139bf2e55850b93e03ffa87081a6765b042b3b", func := "loop.example/g00477/laws.FnExactFracOk", spec := "fnExactFracOk", apart := false, narrowed := true }
def FnExactFracOkUptoSaid : Prop := fnExactFracOkUptoRow.holds Try.pinned (OpenSpec.upto fnExactFracOkSpec)

/-- 'laws.FnExactLnOf', WHERE WHAT IT READS IS OF BULK AT MOST 1048576: true; the input reads as it did. -/
def fnExactLnOfUptoRow : OpenClaim := { program := "ytieokdeiafmcaaa", sum := "f07c01fe9df134db809bc7cfdb139bf2e55850b93e03ffa87081a6765b042b3b", func := "loop.example/g00477/laws.FnExactLnOf", spec := "fnExactLnOf", apart := false, narrowed := true }
def FnExactLnOfUptoSaid : Prop := fnExactLnOfUptoRow.holds Try.pinned (OpenSpec.upto fnExactLnOfSpec)

/-- 'laws.FnExactGcd', WHERE WHAT IT READS IS OF BULK AT MOST 1048576: true; the input reads as it did. -/
def fnExactGcdUptoRow : OpenClaim := { program := "ytieokdeiafmcaaa", sum := "f07c01fe9df134db809bc7cfdb139bf2e55850b93e03ffa87081a6765b042b3b", func := "loop.example/g00477/laws.FnExactGcd", spec := "fnExactGcd", apart := false, narrowed := true }
def FnExactGcdUptoSaid : Prop := fnExactGcdUptoRow.holds Try.pinned (OpenSpec.upto fnExactGcdSpec)

/-- 'laws.FnExactWordOk', WHERE WHAT IT READS IS OF BULK AT MOST 1048576: true; the input reads as it did. -/
def fnExactWordOkUptoRow : OpenClaim := { program := "ytieokdeiafmcaaa", sum := "f07c01fe9df134db809bc7cfdb139bf2e55850b93e03ffa87081a6765b042b3b", func := "loop.example/g00477/laws.FnExactWordOk", spec := "fnExactWordOk", apart := false, narrowed := true }
def FnExactWordOkUptoSaid : Prop := fnExactWordOkUptoRow.holds Try.pinned (OpenSpec.upto fnExactWordOkSpec)

/-- 'laws.FnExactThousandths', WHERE WHAT IT READS IS OF BULK AT MOST 1048576: true; the input reads as it did. -/
def fnExactThousandthsUptoRow : OpenClaim := { program := "ytieokdeiafmcaaa", sum := "f07c01fe9df134db809bc7cfdb139bf2e55850b93e03ffa87081a6765b042b3b", func := "loop.example/g00477/laws.FnExactThousandths", spec := "fnExactThousandths", apart := false, narrowed := true }
def FnExactThousandthsUptoSaid : Prop := fnExactThousandthsUptoRow.holds Try.pinned (OpenSpec.upto fnExactThousandthsSpec)

/-- 'laws.FnExactBinOf', WHERE WHAT IT READS IS OF BULK AT MOST 1048576: true; the input reads as it did. -/
def fnExactBinOfUptoRow : OpenClaim := { program := "ytieokdeiafmcaaa", sum := "f07c01fe9df134db809bc7cfdb139bf2e55850b93e03ffa87081a6765b042b3b", func := "loop.example/g00477/laws.FnExactBinOf", spec := "fnExactBinOf", apart := false, narrowed := true }
def FnExactBinOfUptoSaid : Prop := fnExactBinOfUptoRow.holds Try.pinned (OpenSpec.upto fnExactBinOfSpec)

/-- 'laws.FnExactNatOk', WHERE WHAT IT READS IS OF BULK AT MOST 1048576: true; the input reads as it did. -/
def fnExactNatOkUptoRow : OpenClaim := { program := "ytieokdeiafmcaaa", sum := "f07c01fe9df134db809bc7cfdb139bf2e55850b93e03ffa87081a6765b042b3b", func := "loop.example/g00477/laws.FnExactNatOk", spec := "fnExactNatOk", unfollowed := true, recurses := true, apart := false, narrowed := true }
def FnExactNatOkUptoSaid : Prop := fnExactNatOkUptoRow.holds Try.pinned (OpenSpec.upto fnExactNatOkSpec)

/-- 'laws.FnParts', WHERE WHAT IT READS IS OF BULK AT MOST 1048576: true; the input reads as it did. -/
def fnPartsUptoRow : OpenClaim := { program := "ytieokdeiafmcaaa", sum := "f07c01fe9df134db809bc7cfdb139bf2e55850b93e03ffa87081a6765b042b3b", func := "loop.example/g00477/laws.FnParts", spec := "fnParts", apart := false, narrowed := true }
def FnPartsUptoSaid : Prop := fnPartsUptoRow.holds Try.pinned (OpenSpec.upto fnPartsSpec)

/-- 'laws.FnExactEqualCuts', WHERE WHAT IT READS IS OF BULK AT MOST 1048576: true; the input reads as it did. -/
def fnExactEqualCutsUptoRow : OpenClaim := { program := "ytieokdeiafmcaaa", sum := "f07c01fe9df134db809bc7cfdb139bf2e55850b93e03ffa87081a6765b042b3b", func := "loop.example/g00477/laws.FnExactEqualCuts", spec := "fnExactEqualCuts", apart := false, narrowed := true }
def FnExactEqualCutsUptoSaid : Prop := fnExactEqualCutsUptoRow.holds Try.pinned (OpenSpec.upto fnExactEqualCutsSpec)

end Rows
end Go.Proofs.Ytieokdeiafmcaaa
