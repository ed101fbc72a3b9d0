/-
  No cell of these rows narrows 'for every input' (looked for: loops, veiled, ifaces, maps, wideKeys, modest, calm, conditions, laid).
  DERIVED. THE GIVEN ROWS OF THIS SEAT. 33 by the template 'for every input the law returns true; each argument reads behind the call as it read before'; 0 by the template 'total and deterministic' (their statements: YtnnhngdconbbfaaTotals.lean).
  GIVEN WITH THE SEED: the statements are not yours to turn. If you find one false, say at which input.
  Laid BY PROGRAM, IN A SANDBOX (cutbox-rows.mjs): the forced cells as the released guide's own fill.sh prints them over the translation a8b017d548f6de9f… (all of the seat's roots in one cut). By AI agents, Wed Nov 11 2026. No macro, syntax, notation, axiom, sorry.
-/
import Derived.Test.YtnnhngdconbbfaaChecked
import GoSem.Claim
import GoSem.ClaimJoined
import GoSem.ClaimMapViews
import Derived.JoinedTies
import Derived.KernelRfl
namespace Go.Proofs.Ytnnhngdconbbfaa
/- THE CELL 'sum', in the pinned program and in every row, IS THE sha256 OF THE DUMP (.gsa) THAT YtnnhngdconbbfaaProg.lean LOADS. Nothing in Lean hashes anything: it is a label: what it is worth is what the hold of that sum in a sandbox is worth. -/
noncomputable def Try.pinned : Pinned := { name := "ytnnhngdconbbfaa", sum := "a8b017d548f6de9f987ce32bd822cec85251410bc614ab2ab9336e54cde3c89c", checked := Try.checked }
namespace Rows
def none {H : Type} : Left H := { results := [], args := [] }

/-- 'laws.FnExactConstants': WHATEVER THE INPUT: true; the input reads as it did. -/
def fnExactConstantsSpec : ChangeSpec := { name := "fnExactConstants", fn := fun _ => fun
  | [] => { results := [.lit (.bool true)], args := [] }
  | _ => none }
def fnExactConstantsRow : OpenClaim := { program := "ytnnhngdconbbfaa", sum := "a8b017d548f6de9f987ce32bd822cec85251410bc614ab2ab9336e54cde3c89c", func := "loop.example/g00477/laws.FnExactConstants", spec := "fnExactConstants", apart := false }
def FnExactConstantsSaid : Prop := fnExactConstantsRow.holds Try.pinned (OpenSpec.ofChange fnExactConstantsSpec)

/-- ITS FALSE NEIGHBOUR: 'it returns false'. Refute it at one input. -/
def fnExactConstantsWrong : ChangeSpec := { name := "fnExactConstants", fn := fun _ => fun
  | [] => { results := [.lit (.bool false)], args := [] }
  | _ => none }
def FnExactConstantsWrongFalsely : Prop := fnExactConstantsRow.holds Try.pinned (OpenSpec.ofChange fnExactConstantsWrong)

/-- 'laws.FnExactFracOk': WHATEVER THE INPUT: true; the input reads as it did. -/
def fnExactFracOkSpec : ChangeSpec := { name := "fnExactFracOk", fn := fun _ => fun
  | [d] => { results := [.lit (.bool true)], args := [d] }
  | _ => none }
def fnExactFracOkRow : OpenClaim := { program := "ytnnhngdconbbfaa", sum := "a8b017d548f6de9f987ce32bd822cec85251410bc614ab2ab9336e54cde3c89c", func := "loop.example/g00477/laws.FnExactFracOk", spec := "fnExactFracOk", apart := false }
def FnExactFracOkSaid : Prop := fnExactFracOkRow.holds Try.pinned (OpenSpec.ofChange fnExactFracOkSpec)

/-- ITS FALSE NEIGHBOUR: 'it returns false'. Refute it at one input. -/
def fnExactFracOkWrong : ChangeSpec := { name := "fnExactFracOk", fn := fun _ => fun
  | [d] => { results := [.lit (.bool false)], args := [d] }
  | _ => none }
def FnExactFracOkWrongFalsely : Prop := fnExactFracOkRow.holds Try.pinned (OpenSpec.ofChange fnExactFracOkWrong)

/-- 'laws.FnExactLnOf': WHATEVER THE INPUT: true; the input reads as it did. -/
def fnExactLnOfSpec : ChangeSpec := { name := "fnExactLnOf", fn := fun _ => fun
  | [d] => { results := [.lit (.bool true)], args := [d] }
  | _ => none }
def fnExactLnOfRow : OpenClaim := { program := "ytnnhngdconbbfaa", sum := "a8b017d548f6de9f987ce32bd822cec85251410bc614ab2ab9336e54cde3c89c", func := "loop.example/g00477/laws.FnExactLnOf", spec := "fnExactLnOf", apart := false }
def FnExactLnOfSaid : Prop := fnExactLnOfRow.holds Try.pinned (OpenSpec.ofChange fnExactLnOfSpec)

/-- ITS FALSE NEIGHBOUR: 'it returns false'. Refute it at one input. -/
def fnExactLnOfWrong : ChangeSpec := { name := "fnExactLnOf", fn := fun _ => fun
  | [d] => { results := [.lit (.bool false)], args := [d] }
  | _ => none }
def FnExactLnOfWrongFalsely : Prop := fnExactLnOfRow.holds Try.pinned (OpenSpec.ofChange fnExactLnOfWrong)

/-- 'laws.FnExactGcd': WHATEVER THE INPUT: true; the input reads as it did. -/
def fnExactGcdSpec : ChangeSpec := { name := "fnExactGcd", fn := fun _ => fun
  | [d1, d2] => { results := [.lit (.bool true)], args := [d1, d2] }
  | _ => none }
def fnExactGcdRow : OpenClaim := { program := "ytnnhngdconbbfaa", sum := "a8b017d548f6de9f987ce32bd822cec85251410bc614ab2ab9336e54cde3c89c", func := "loop.example/g00477/laws.FnExactGcd", spec := "fnExactGcd", apart := false }
def FnExactGcdSaid : Prop := fnExactGcdRow.holds Try.pinned (OpenSpec.ofChange fnExactGcdSpec)

/-- ITS FALSE NEIGHBOUR: 'it returns false'. Refute it at one input. -/
def fnExactGcdWrong : ChangeSpec := { name := "fnExactGcd", fn := fun _ => fun
  | [d1, d2] => { results := [.lit (.bool false)], args := [d1, d2] }
  | _ => none }
def FnExactGcdWrongFalsely : Prop := fnExactGcdRow.holds Try.pinned (OpenSpec.ofChange fnExactGcdWrong)

/-- 'laws.FnExactWordOk': WHATEVER THE INPUT: true; the input reads as it did. -/
def fnExactWordOkSpec : ChangeSpec := { name := "fnExactWordOk", fn := fun _ => fun
  | [d] => { results := [.lit (.bool true)], args := [d] }
  | _ => none }
def fnExactWordOkRow : OpenClaim := { program := "ytnnhngdconbbfaa", sum := "a8b017d548f6de9f987ce32bd822cec85251410bc614ab2ab9336e54cde3c89c", func := "loop.example/g00477/laws.FnExactWordOk", spec := "fnExactWordOk", apart := false }
def FnExactWordOkSaid : Prop := fnExactWordOkRow.holds Try.pinned (OpenSpec.ofChange fnExactWordOkSpec)

/-- ITS FALSE NEIGHBOUR: 'it returns false'. Refute it at one input. -/
def fnExactWordOkWrong : ChangeSpec := { name := "fnExactWordOk", fn := fun _ => fun
  | [d] => { results := [.lit (.bool false)], args := [d] }
  | _ => none }
def FnExactWordOkWrongFalsely : Prop := fnExactWordOkRow.holds Try.pinned (OpenSpec.ofChange fnExactWordOkWrong)

/-- 'laws.FnExactThousandths': WHATEVER THE INPUT: true; the input reads as it did. -/
def fnExactThousandthsSpec : ChangeSpec := { name := "fnExactThousandths", fn := fun _ => fun
  | [d] => { results := [.lit (.bool true)], args := [d] }
  | _ => none }
def fnExactThousandthsRow : OpenClaim := { program := "ytnnhngdconbbfaa", sum := "a8b017d548f6de9f987ce32bd822cec85251410bc614ab2ab9336e54cde3c89c", func := "loop.example/g00477/laws.FnExactThousandths", spec := "fnExactThousandths", apart := false }
def FnExactThousandthsSaid : Prop := fnExactThousandthsRow.holds Try.pinned (OpenSpec.ofChange fnExactThousandthsSpec)

/-- ITS FALSE NEIGHBOUR: 'it returns false'. Refute it at one input. -/
def fnExactThousandthsWrong : ChangeSpec := { name := "fnExactThousandths", fn := fun _ => fun
  | [d] => { results := [.lit (.bool false)], args := [d] }
  | _ => none }
def FnExactThousandthsWrongFalsely : Prop := fnExactThousandthsRow.holds Try.pinned (OpenSpec.ofChange fnExactThousandthsWrong)

/-- 'laws.FnExactBinOf': WHATEVER THE INPUT: true; the input reads as it did. -/
def fnExactBinOfSpec : ChangeSpec := { name := "fnExactBinOf", fn := fun _ => fun
  | [d1, d2] => { results := [.lit (.bool true)], args := [d1, d2] }
  | _ => none }
def fnExactBinOfRow : OpenClaim := { program := "ytnnhngdconbbfaa", sum := "a8b017d548f6de9f987ce32bd822cec85251410bc614ab2ab9336e54cde3c89c", func := "loop.example/g00477/laws.FnExactBinOf", spec := "fnExactBinOf", apart := false }
def FnExactBinOfSaid : Prop := fnExactBinOfRow.holds Try.pinned (OpenSpec.ofChange fnExactBinOfSpec)

/-- ITS FALSE NEIGHBOUR: 'it returns false'. Refute it at one input. -/
def fnExactBinOfWrong : ChangeSpec := { name := "fnExactBinOf", fn := fun _ => fun
  | [d1, d2] => { results := [.lit (.bool false)], args := [d1, d2] }
  | _ => none }
def FnExactBinOfWrongFalsely : Prop := fnExactBinOfRow.holds Try.pinned (OpenSpec.ofChange fnExactBinOfWrong)

/-- 'laws.FnExactNatOk': WHATEVER THE INPUT: true; the input reads as it did. -/
def fnExactNatOkSpec : ChangeSpec := { name := "fnExactNatOk", fn := fun _ => fun
  | [d] => { results := [.lit (.bool true)], args := [d] }
  | _ => none }
def fnExactNatOkRow : OpenClaim := { program := "ytnnhngdconbbfaa", sum := "a8b017d548f6de9f987ce32bd822cec85251410bc614ab2ab9336e54cde3c89c", func := "loop.example/g00477/laws.FnExactNatOk", spec := "fnExactNatOk", unfollowed := true, recurses := true, apart := false }
def FnExactNatOkSaid : Prop := fnExactNatOkRow.holds Try.pinned (OpenSpec.ofChange fnExactNatOkSpec)

/-- ITS FALSE NEIGHBOUR: 'it returns false'. Refute it at one input. -/
def fnExactNatOkWrong : ChangeSpec := { name := "fnExactNatOk", fn := fun _ => fun
  | [d] => { results := [.lit (.bool false)], args := [d] }
  | _ => none }
def FnExactNatOkWrongFalsely : Prop := fnExactNatOkRow.holds Try.pinned (OpenSpec.ofChange fnExactNatOkWrong)

/-- 'laws.FnParts': WHATEVER THE INPUT: true; the input reads as it did. -/
def fnPartsSpec : ChangeSpec := { name := "fnParts", fn := fun _ => fun
  | [d] => { results := [.lit (.bool true)], args := [d] }
  | _ => none }
def fnPartsRow : OpenClaim := { program := "ytnnhngdconbbfaa", sum := "a8b017d548f6de9f987ce32bd822cec85251410bc614ab2ab9336e54cde3c89c", func := "loop.example/g00477/laws.FnParts", spec := "fnParts", apart := false }
def FnPartsSaid : Prop := fnPartsRow.holds Try.pinned (OpenSpec.ofChange fnPartsSpec)

/-- ITS FALSE NEIGHBOUR: 'it returns false'. Refute it at one input. -/
def fnPartsWrong : ChangeSpec := { name := "fnParts", fn := fun _ => fun
  | [d] => { results := [.lit (.bool false)], args := [d] }
  | _ => none }
def FnPartsWrongFalsely : Prop := fnPartsRow.holds Try.pinned (OpenSpec.ofChange fnPartsWrong)

/-- 'laws.FnExactEqualCuts': WHATEVER THE INPUT: true; the input reads as it did. -/
def fnExactEqualCutsSpec : ChangeSpec := { name := "fnExactEqualCuts", fn := fun _ => fun
  | [d1, d2, d3] => { results := [.lit (.bool true)], args := [d1, d2, d3] }
  | _ => none }
def fnExactEqualCutsRow : OpenClaim := { program := "ytnnhngdconbbfaa", sum := "a8b017d548f6de9f987ce32bd822cec85251410bc614ab2ab9336e54cde3c89c", func := "loop.example/g00477/laws.FnExactEqualCuts", spec := "fnExactEqualCuts", apart := false }
def FnExactEqualCutsSaid : Prop := fnExactEqualCutsRow.holds Try.pinned (OpenSpec.ofChange fnExactEqualCutsSpec)

/-- ITS FALSE NEIGHBOUR: 'it returns false'. Refute it at one input. -/
def fnExactEqualCutsWrong : ChangeSpec := { name := "fnExactEqualCuts", fn := fun _ => fun
  | [d1, d2, d3] => { results := [.lit (.bool false)], args := [d1, d2, d3] }
  | _ => none }
def FnExactEqualCutsWrongFalsely : Prop := fnExactEqualCutsRow.holds Try.pinned (OpenSpec.ofChange fnExactEqualCutsWrong)

/-- 'laws.FnExactTopOf': WHATEVER THE INPUT: true; the input reads as it did. -/
def fnExactTopOfSpec : ChangeSpec := { name := "fnExactTopOf", fn := fun _ => fun
  | [d] => { results := [.lit (.bool true)], args := [d] }
  | _ => none }
def fnExactTopOfRow : OpenClaim := { program := "ytnnhngdconbbfaa", sum := "a8b017d548f6de9f987ce32bd822cec85251410bc614ab2ab9336e54cde3c89c", func := "loop.example/g00477/laws.FnExactTopOf", spec := "fnExactTopOf", apart := false }
def FnExactTopOfSaid : Prop := fnExactTopOfRow.holds Try.pinned (OpenSpec.ofChange fnExactTopOfSpec)

/-- ITS FALSE NEIGHBOUR: 'it returns false'. Refute it at one input. -/
def fnExactTopOfWrong : ChangeSpec := { name := "fnExactTopOf", fn := fun _ => fun
  | [d] => { results := [.lit (.bool false)], args := [d] }
  | _ => none }
def FnExactTopOfWrongFalsely : Prop := fnExactTopOfRow.holds Try.pinned (OpenSpec.ofChange fnExactTopOfWrong)

/-- 'laws.FnExactPutNum': WHATEVER THE INPUT: true; the input reads as it did. -/
def fnExactPutNumSpec : ChangeSpec := { name := "fnExactPutNum", fn := fun _ => fun
  | [d] => { results := [.lit (.bool true)], args := [d] }
  | _ => none }
def fnExactPutNumRow : OpenClaim := { program := "ytnnhngdconbbfaa", sum := "a8b017d548f6de9f987ce32bd822cec85251410bc614ab2ab9336e54cde3c89c", func := "loop.example/g00477/laws.FnExactPutNum", spec := "fnExactPutNum", apart := false }
def FnExactPutNumSaid : Prop := fnExactPutNumRow.holds Try.pinned (OpenSpec.ofChange fnExactPutNumSpec)

/-- ITS FALSE NEIGHBOUR: 'it returns false'. Refute it at one input. -/
def fnExactPutNumWrong : ChangeSpec := { name := "fnExactPutNum", fn := fun _ => fun
  | [d] => { results := [.lit (.bool false)], args := [d] }
  | _ => none }
def FnExactPutNumWrongFalsely : Prop := fnExactPutNumRow.holds Try.pinned (OpenSpec.ofChange fnExactPutNumWrong)

/-- 'laws.FnExactGetNum': WHATEVER THE INPUT: true; the input reads as it did. -/
def fnExactGetNumSpec : ChangeSpec := { name := "fnExactGetNum", fn := fun _ => fun
  | [d1, d2] => { results := [.lit (.bool true)], args := [d1, d2] }
  | _ => none }
def fnExactGetNumRow : OpenClaim := { program := "ytnnhngdconbbfaa", sum := "a8b017d548f6de9f987ce32bd822cec85251410bc614ab2ab9336e54cde3c89c", func := "loop.example/g00477/laws.FnExactGetNum", spec := "fnExactGetNum", apart := false }
def FnExactGetNumSaid : Prop := fnExactGetNumRow.holds Try.pinned (OpenSpec.ofChange fnExactGetNumSpec)

/-- ITS FALSE NEIGHBOUR: 'it returns false'. Refute it at one input. -/
def fnExactGetNumWrong : ChangeSpec := { name := "fnExactGetNum", fn := fun _ => fun
  | [d1, d2] => { results := [.lit (.bool false)], args := [d1, d2] }
  | _ => none }
def FnExactGetNumWrongFalsely : Prop := fnExactGetNumRow.holds Try.pinned (OpenSpec.ofChange fnExactGetNumWrong)

/-- 'laws.FnExactPutText': WHATEVER THE INPUT: true; the input reads as it did. -/
def fnExactPutTextSpec : ChangeSpec := { name := "fnExactPutText", fn := fun _ => fun
  | [d] => { results := [.lit (.bool true)], args := [d] }
  | _ => none }
def fnExactPutTextRow : OpenClaim := { program := "ytnnhngdconbbfaa", sum := "a8b017d548f6de9f987ce32bd822cec85251410bc614ab2ab9336e54cde3c89c", func := "loop.example/g00477/laws.FnExactPutText", spec := "fnExactPutText", apart := false }
def FnExactPutTextSaid : Prop := fnExactPutTextRow.holds Try.pinned (OpenSpec.ofChange fnExactPutTextSpec)

/-- ITS FALSE NEIGHBOUR: 'it returns false'. Refute it at one input. -/
def fnExactPutTextWrong : ChangeSpec := { name := "fnExactPutText", fn := fun _ => fun
  | [d] => { results := [.lit (.bool false)], args := [d] }
  | _ => none }
def FnExactPutTextWrongFalsely : Prop := fnExactPutTextRow.holds Try.pinned (OpenSpec.ofChange fnExactPutTextWrong)

/-- 'laws.FnExactFracLow': WHATEVER THE INPUT: true; the input reads as it did. -/
def fnExactFracLowSpec : ChangeSpec := { name := "fnExactFracLow", fn := fun _ => fun
  | [d] => { results := [.lit (.bool true)], args := [d] }
  | _ => none }
def fnExactFracLowRow : OpenClaim := { program := "ytnnhngdconbbfaa", sum := "a8b017d548f6de9f987ce32bd822cec85251410bc614ab2ab9336e54cde3c89c", func := "loop.example/g00477/laws.FnExactFracLow", spec := "fnExactFracLow", apart := false }
def FnExactFracLowSaid : Prop := fnExactFracLowRow.holds Try.pinned (OpenSpec.ofChange fnExactFracLowSpec)

/-- ITS FALSE NEIGHBOUR: 'it returns false'. Refute it at one input. -/
def fnExactFracLowWrong : ChangeSpec := { name := "fnExactFracLow", fn := fun _ => fun
  | [d] => { results := [.lit (.bool false)], args := [d] }
  | _ => none }
def FnExactFracLowWrongFalsely : Prop := fnExactFracLowRow.holds Try.pinned (OpenSpec.ofChange fnExactFracLowWrong)

/-- 'laws.FnExactParts': WHATEVER THE INPUT: true; the input reads as it did. -/
def fnExactPartsSpec : ChangeSpec := { name := "fnExactParts", fn := fun _ => fun
  | [d1, d2] => { results := [.lit (.bool true)], args := [d1, d2] }
  | _ => none }
def fnExactPartsRow : OpenClaim := { program := "ytnnhngdconbbfaa", sum := "a8b017d548f6de9f987ce32bd822cec85251410bc614ab2ab9336e54cde3c89c", func := "loop.example/g00477/laws.FnExactParts", spec := "fnExactParts", apart := false }
def FnExactPartsSaid : Prop := fnExactPartsRow.holds Try.pinned (OpenSpec.ofChange fnExactPartsSpec)

/-- ITS FALSE NEIGHBOUR: 'it returns false'. Refute it at one input. -/
def fnExactPartsWrong : ChangeSpec := { name := "fnExactParts", fn := fun _ => fun
  | [d1, d2] => { results := [.lit (.bool false)], args := [d1, d2] }
  | _ => none }
def FnExactPartsWrongFalsely : Prop := fnExactPartsRow.holds Try.pinned (OpenSpec.ofChange fnExactPartsWrong)

/-- 'laws.FnExactGetText': WHATEVER THE INPUT: true; the input reads as it did. -/
def fnExactGetTextSpec : ChangeSpec := { name := "fnExactGetText", fn := fun _ => fun
  | [d1, d2] => { results := [.lit (.bool true)], args := [d1, d2] }
  | _ => none }
def fnExactGetTextRow : OpenClaim := { program := "ytnnhngdconbbfaa", sum := "a8b017d548f6de9f987ce32bd822cec85251410bc614ab2ab9336e54cde3c89c", func := "loop.example/g00477/laws.FnExactGetText", spec := "fnExactGetText", apart := false }
def FnExactGetTextSaid : Prop := fnExactGetTextRow.holds Try.pinned (OpenSpec.ofChange fnExactGetTextSpec)

/-- ITS FALSE NEIGHBOUR: 'it returns false'. Refute it at one input. -/
def fnExactGetTextWrong : ChangeSpec := { name := "fnExactGetText", fn := fun _ => fun
  | [d1, d2] => { results := [.lit (.bool false)], args := [d1, d2] }
  | _ => none }
def FnExactGetTextWrongFalsely : Prop := fnExactGetTextRow.holds Try.pinned (OpenSpec.ofChange fnExactGetTextWrong)

/-- 'laws.FnExactExSame': WHATEVER THE INPUT: true; the input reads as it did. -/
def fnExactExSameSpec : ChangeSpec := { name := "fnExactExSame", fn := fun _ => fun
  | [d1, d2] => { results := [.lit (.bool true)], args := [d1, d2] }
  | _ => none }
def fnExactExSameRow : OpenClaim := { program := "ytnnhngdconbbfaa", sum := "a8b017d548f6de9f987ce32bd822cec85251410bc614ab2ab9336e54cde3c89c", func := "loop.example/g00477/laws.FnExactExSame", spec := "fnExactExSame", apart := false }
def FnExactExSameSaid : Prop := fnExactExSameRow.holds Try.pinned (OpenSpec.ofChange fnExactExSameSpec)

/-- ITS FALSE NEIGHBOUR: 'it returns false'. Refute it at one input. -/
def fnExactExSameWrong : ChangeSpec := { name := "fnExactExSame", fn := fun _ => fun
  | [d1, d2] => { results := [.lit (.bool false)], args := [d1, d2] }
  | _ => none }
def FnExactExSameWrongFalsely : Prop := fnExactExSameRow.holds Try.pinned (OpenSpec.ofChange fnExactExSameWrong)

/-- 'laws.FnExactCutsOk': WHATEVER THE INPUT: true; the input reads as it did. -/
def fnExactCutsOkSpec : ChangeSpec := { name := "fnExactCutsOk", fn := fun _ => fun
  | [d] => { results := [.lit (.bool true)], args := [d] }
  | _ => none }
def fnExactCutsOkRow : OpenClaim := { program := "ytnnhngdconbbfaa", sum := "a8b017d548f6de9f987ce32bd822cec85251410bc614ab2ab9336e54cde3c89c", func := "loop.example/g00477/laws.FnExactCutsOk", spec := "fnExactCutsOk", unfollowed := true, recurses := true, apart := false }
def FnExactCutsOkSaid : Prop := fnExactCutsOkRow.holds Try.pinned (OpenSpec.ofChange fnExactCutsOkSpec)

/-- ITS FALSE NEIGHBOUR: 'it returns false'. Refute it at one input. -/
def fnExactCutsOkWrong : ChangeSpec := { name := "fnExactCutsOk", fn := fun _ => fun
  | [d] => { results := [.lit (.bool false)], args := [d] }
  | _ => none }
def FnExactCutsOkWrongFalsely : Prop := fnExactCutsOkRow.holds Try.pinned (OpenSpec.ofChange fnExactCutsOkWrong)

/-- 'laws.FnExactStatsSame': WHATEVER THE INPUT: true; the input reads as it did. -/
def fnExactStatsSameSpec : ChangeSpec := { name := "fnExactStatsSame", fn := fun _ => fun
  | [d1, d2] => { results := [.lit (.bool true)], args := [d1, d2] }
  | _ => none }
def fnExactStatsSameRow : OpenClaim := { program := "ytnnhngdconbbfaa", sum := "a8b017d548f6de9f987ce32bd822cec85251410bc614ab2ab9336e54cde3c89c", func := "loop.example/g00477/laws.FnExactStatsSame", spec := "fnExactStatsSame", unfollowed := true, recurses := true, apart := false }
def FnExactStatsSameSaid : Prop := fnExactStatsSameRow.holds Try.pinned (OpenSpec.ofChange fnExactStatsSameSpec)

/-- ITS FALSE NEIGHBOUR: 'it returns false'. Refute it at one input. -/
def fnExactStatsSameWrong : ChangeSpec := { name := "fnExactStatsSame", fn := fun _ => fun
  | [d1, d2] => { results := [.lit (.bool false)], args := [d1, d2] }
  | _ => none }
def FnExactStatsSameWrongFalsely : Prop := fnExactStatsSameRow.holds Try.pinned (OpenSpec.ofChange fnExactStatsSameWrong)

/-- 'laws.FnExactThin': WHATEVER THE INPUT: true; the input reads as it did. -/
def fnExactThinSpec : ChangeSpec := { name := "fnExactThin", fn := fun _ => fun
  | [d] => { results := [.lit (.bool true)], args := [d] }
  | _ => none }
def fnExactThinRow : OpenClaim := { program := "ytnnhngdconbbfaa", sum := "a8b017d548f6de9f987ce32bd822cec85251410bc614ab2ab9336e54cde3c89c", func := "loop.example/g00477/laws.FnExactThin", spec := "fnExactThin", apart := false }
def FnExactThinSaid : Prop := fnExactThinRow.holds Try.pinned (OpenSpec.ofChange fnExactThinSpec)

/-- ITS FALSE NEIGHBOUR: 'it returns false'. Refute it at one input. -/
def fnExactThinWrong : ChangeSpec := { name := "fnExactThin", fn := fun _ => fun
  | [d] => { results := [.lit (.bool false)], args := [d] }
  | _ => none }
def FnExactThinWrongFalsely : Prop := fnExactThinRow.holds Try.pinned (OpenSpec.ofChange fnExactThinWrong)

/-- 'laws.FnExactAttrOk': WHATEVER THE INPUT: true; the input reads as it did. -/
def fnExactAttrOkSpec : ChangeSpec := { name := "fnExactAttrOk", fn := fun _ => fun
  | [d] => { results := [.lit (.bool true)], args := [d] }
  | _ => none }
def fnExactAttrOkRow : OpenClaim := { program := "ytnnhngdconbbfaa", sum := "a8b017d548f6de9f987ce32bd822cec85251410bc614ab2ab9336e54cde3c89c", func := "loop.example/g00477/laws.FnExactAttrOk", spec := "fnExactAttrOk", unfollowed := true, recurses := true, apart := false }
def FnExactAttrOkSaid : Prop := fnExactAttrOkRow.holds Try.pinned (OpenSpec.ofChange fnExactAttrOkSpec)

/-- ITS FALSE NEIGHBOUR: 'it returns false'. Refute it at one input. -/
def fnExactAttrOkWrong : ChangeSpec := { name := "fnExactAttrOk", fn := fun _ => fun
  | [d] => { results := [.lit (.bool false)], args := [d] }
  | _ => none }
def FnExactAttrOkWrongFalsely : Prop := fnExactAttrOkRow.holds Try.pinned (OpenSpec.ofChange fnExactAttrOkWrong)

/-- 'laws.FnExactSchemaSame': WHATEVER THE INPUT: true; the input reads as it did. -/
def fnExactSchemaSameSpec : ChangeSpec := { name := "fnExactSchemaSame", fn := fun _ => fun
  | [d1, d2] => { results := [.lit (.bool true)], args := [d1, d2] }
  | _ => none }
def fnExactSchemaSameRow : OpenClaim := { program := "ytnnhngdconbbfaa", sum := "a8b017d548f6de9f987ce32bd822cec85251410bc614ab2ab9336e54cde3c89c", func := "loop.example/g00477/laws.FnExactSchemaSame", spec := "fnExactSchemaSame", unfollowed := true, recurses := true, apart := false }
def FnExactSchemaSameSaid : Prop := fnExactSchemaSameRow.holds Try.pinned (OpenSpec.ofChange fnExactSchemaSameSpec)

/-- ITS FALSE NEIGHBOUR: 'it returns false'. Refute it at one input. -/
def fnExactSchemaSameWrong : ChangeSpec := { name := "fnExactSchemaSame", fn := fun _ => fun
  | [d1, d2] => { results := [.lit (.bool false)], args := [d1, d2] }
  | _ => none }
def FnExactSchemaSameWrongFalsely : Prop := fnExactSchemaSameRow.holds Try.pinned (OpenSpec.ofChange fnExactSchemaSameWrong)

/-- 'laws.FnExactBins': WHATEVER THE INPUT: true; the input reads as it did. -/
def fnExactBinsSpec : ChangeSpec := { name := "fnExactBins", fn := fun _ => fun
  | [d] => { results := [.lit (.bool true)], args := [d] }
  | _ => none }
def fnExactBinsRow : OpenClaim := { program := "ytnnhngdconbbfaa", sum := "a8b017d548f6de9f987ce32bd822cec85251410bc614ab2ab9336e54cde3c89c", func := "loop.example/g00477/laws.FnExactBins", spec := "fnExactBins", unfollowed := true, recurses := true, apart := false }
def FnExactBinsSaid : Prop := fnExactBinsRow.holds Try.pinned (OpenSpec.ofChange fnExactBinsSpec)

/-- ITS FALSE NEIGHBOUR: 'it returns false'. Refute it at one input. -/
def fnExactBinsWrong : ChangeSpec := { name := "fnExactBins", fn := fun _ => fun
  | [d] => { results := [.lit (.bool false)], args := [d] }
  | _ => none }
def FnExactBinsWrongFalsely : Prop := fnExactBinsRow.holds Try.pinned (OpenSpec.ofChange fnExactBinsWrong)

/-- 'laws.FnExactSchemaOk': WHATEVER THE INPUT: true; the input reads as it did. -/
def fnExactSchemaOkSpec : ChangeSpec := { name := "fnExactSchemaOk", fn := fun _ => fun
  | [d] => { results := [.lit (.bool true)], args := [d] }
  | _ => none }
def fnExactSchemaOkRow : OpenClaim := { program := "ytnnhngdconbbfaa", sum := "a8b017d548f6de9f987ce32bd822cec85251410bc614ab2ab9336e54cde3c89c", func := "loop.example/g00477/laws.FnExactSchemaOk", spec := "fnExactSchemaOk", unfollowed := true, recurses := true, apart := false }
def FnExactSchemaOkSaid : Prop := fnExactSchemaOkRow.holds Try.pinned (OpenSpec.ofChange fnExactSchemaOkSpec)

/-- ITS FALSE NEIGHBOUR: 'it returns false'. Refute it at one input. -/
def fnExactSchemaOkWrong : ChangeSpec := { name := "fnExactSchemaOk", fn := fun _ => fun
  | [d] => { results := [.lit (.bool false)], args := [d] }
  | _ => none }
def FnExactSchemaOkWrongFalsely : Prop := fnExactSchemaOkRow.holds Try.pinned (OpenSpec.ofChange fnExactSchemaOkWrong)

/-- 'laws.FnExactExOk': WHATEVER THE INPUT: true; the input reads as it did. -/
def fnExactExOkSpec : ChangeSpec := { name := "fnExactExOk", fn := fun _ => fun
  | [d1, d2] => { results := [.lit (.bool true)], args := [d1, d2] }
  | _ => none }
def fnExactExOkRow : OpenClaim := { program := "ytnnhngdconbbfaa", sum := "a8b017d548f6de9f987ce32bd822cec85251410bc614ab2ab9336e54cde3c89c", func := "loop.example/g00477/laws.FnExactExOk", spec := "fnExactExOk", unfollowed := true, recurses := true, apart := false }
def FnExactExOkSaid : Prop := fnExactExOkRow.holds Try.pinned (OpenSpec.ofChange fnExactExOkSpec)

/-- ITS FALSE NEIGHBOUR: 'it returns false'. Refute it at one input. -/
def fnExactExOkWrong : ChangeSpec := { name := "fnExactExOk", fn := fun _ => fun
  | [d1, d2] => { results := [.lit (.bool false)], args := [d1, d2] }
  | _ => none }
def FnExactExOkWrongFalsely : Prop := fnExactExOkRow.holds Try.pinned (OpenSpec.ofChange fnExactExOkWrong)

/-- 'laws.FnExactSorted': WHATEVER THE INPUT: true; the input reads as it did. -/
def fnExactSortedSpec : ChangeSpec := { name := "fnExactSorted", fn := fun _ => fun
  | [d] => { results := [.lit (.bool true)], args := [d] }
  | _ => none }
def fnExactSortedRow : OpenClaim := { program := "ytnnhngdconbbfaa", sum := "a8b017d548f6de9f987ce32bd822cec85251410bc614ab2ab9336e54cde3c89c", func := "loop.example/g00477/laws.FnExactSorted", spec := "fnExactSorted", recurses := true, apart := false }
def FnExactSortedSaid : Prop := fnExactSortedRow.holds Try.pinned (OpenSpec.ofChange fnExactSortedSpec)

/-- ITS FALSE NEIGHBOUR: 'it returns false'. Refute it at one input. -/
def fnExactSortedWrong : ChangeSpec := { name := "fnExactSorted", fn := fun _ => fun
  | [d] => { results := [.lit (.bool false)], args := [d] }
  | _ => none }
def FnExactSortedWrongFalsely : Prop := fnExactSortedRow.holds Try.pinned (OpenSpec.ofChange fnExactSortedWrong)

/-- 'laws.FnExactStatsNew': WHATEVER THE INPUT: true; the input reads as it did. -/
def fnExactStatsNewSpec : ChangeSpec := { name := "fnExactStatsNew", fn := fun _ => fun
  | [d] => { results := [.lit (.bool true)], args := [d] }
  | _ => none }
def fnExactStatsNewRow : OpenClaim := { program := "ytnnhngdconbbfaa", sum := "a8b017d548f6de9f987ce32bd822cec85251410bc614ab2ab9336e54cde3c89c", func := "loop.example/g00477/laws.FnExactStatsNew", spec := "fnExactStatsNew", unfollowed := true, recurses := true, apart := false }
def FnExactStatsNewSaid : Prop := fnExactStatsNewRow.holds Try.pinned (OpenSpec.ofChange fnExactStatsNewSpec)

/-- ITS FALSE NEIGHBOUR: 'it returns false'. Refute it at one input. -/
def fnExactStatsNewWrong : ChangeSpec := { name := "fnExactStatsNew", fn := fun _ => fun
  | [d] => { results := [.lit (.bool false)], args := [d] }
  | _ => none }
def FnExactStatsNewWrongFalsely : Prop := fnExactStatsNewRow.holds Try.pinned (OpenSpec.ofChange fnExactStatsNewWrong)

/-- 'laws.FnExactStatsOk': WHATEVER THE INPUT: true; the input reads as it did. -/
def fnExactStatsOkSpec : ChangeSpec := { name := "fnExactStatsOk", fn := fun _ => fun
  | [d1, d2] => { results := [.lit (.bool true)], args := [d1, d2] }
  | _ => none }
def fnExactStatsOkRow : OpenClaim := { program := "ytnnhngdconbbfaa", sum := "a8b017d548f6de9f987ce32bd822cec85251410bc614ab2ab9336e54cde3c89c", func := "loop.example/g00477/laws.FnExactStatsOk", spec := "fnExactStatsOk", unfollowed := true, recurses := true, apart := false }
def FnExactStatsOkSaid : Prop := fnExactStatsOkRow.holds Try.pinned (OpenSpec.ofChange fnExactStatsOkSpec)

/-- ITS FALSE NEIGHBOUR: 'it returns false'. Refute it at one input. -/
def fnExactStatsOkWrong : ChangeSpec := { name := "fnExactStatsOk", fn := fun _ => fun
  | [d1, d2] => { results := [.lit (.bool false)], args := [d1, d2] }
  | _ => none }
def FnExactStatsOkWrongFalsely : Prop := fnExactStatsOkRow.holds Try.pinned (OpenSpec.ofChange fnExactStatsOkWrong)

/-- 'laws.FnExactQuantileCuts': WHATEVER THE INPUT: true; the input reads as it did. -/
def fnExactQuantileCutsSpec : ChangeSpec := { name := "fnExactQuantileCuts", fn := fun _ => fun
  | [d1, d2] => { results := [.lit (.bool true)], args := [d1, d2] }
  | _ => none }
def fnExactQuantileCutsRow : OpenClaim := { program := "ytnnhngdconbbfaa", sum := "a8b017d548f6de9f987ce32bd822cec85251410bc614ab2ab9336e54cde3c89c", func := "loop.example/g00477/laws.FnExactQuantileCuts", spec := "fnExactQuantileCuts", unfollowed := true, recurses := true, apart := false }
def FnExactQuantileCutsSaid : Prop := fnExactQuantileCutsRow.holds Try.pinned (OpenSpec.ofChange fnExactQuantileCutsSpec)

/-- ITS FALSE NEIGHBOUR: 'it returns false'. Refute it at one input. -/
def fnExactQuantileCutsWrong : ChangeSpec := { name := "fnExactQuantileCuts", fn := fun _ => fun
  | [d1, d2] => { results := [.lit (.bool false)], args := [d1, d2] }
  | _ => none }
def FnExactQuantileCutsWrongFalsely : Prop := fnExactQuantileCutsRow.holds Try.pinned (OpenSpec.ofChange fnExactQuantileCutsWrong)

/-- 'laws.FnExactStatsTotal': WHATEVER THE INPUT: true; the input reads as it did. -/
def fnExactStatsTotalSpec : ChangeSpec := { name := "fnExactStatsTotal", fn := fun _ => fun
  | [d1, d2] => { results := [.lit (.bool true)], args := [d1, d2] }
  | _ => none }
def fnExactStatsTotalRow : OpenClaim := { program := "ytnnhngdconbbfaa", sum := "a8b017d548f6de9f987ce32bd822cec85251410bc614ab2ab9336e54cde3c89c", func := "loop.example/g00477/laws.FnExactStatsTotal", spec := "fnExactStatsTotal", unfollowed := true, recurses := true, apart := false }
def FnExactStatsTotalSaid : Prop := fnExactStatsTotalRow.holds Try.pinned (OpenSpec.ofChange fnExactStatsTotalSpec)

/-- ITS FALSE NEIGHBOUR: 'it returns false'. Refute it at one input. -/
def fnExactStatsTotalWrong : ChangeSpec := { name := "fnExactStatsTotal", fn := fun _ => fun
  | [d1, d2] => { results := [.lit (.bool false)], args := [d1, d2] }
  | _ => none }
def FnExactStatsTotalWrongFalsely : Prop := fnExactStatsTotalRow.holds Try.pinned (OpenSpec.ofChange fnExactStatsTotalWrong)

/-- 'laws.FnPromise': WHATEVER THE INPUT: true; the input reads as it did. -/
def fnPromiseSpec : ChangeSpec := { name := "fnPromise", fn := fun _ => fun
  | [d] => { results := [.lit (.bool true)], args := [d] }
  | _ => none }
def fnPromiseRow : OpenClaim := { program := "ytnnhngdconbbfaa", sum := "a8b017d548f6de9f987ce32bd822cec85251410bc614ab2ab9336e54cde3c89c", func := "loop.example/g00477/laws.FnPromise", spec := "fnPromise", unfollowed := true, recurses := true, apart := false }
def FnPromiseSaid : Prop := fnPromiseRow.holds Try.pinned (OpenSpec.ofChange fnPromiseSpec)

/-- ITS FALSE NEIGHBOUR: 'it returns false'. Refute it at one input. -/
def fnPromiseWrong : ChangeSpec := { name := "fnPromise", fn := fun _ => fun
  | [d] => { results := [.lit (.bool false)], args := [d] }
  | _ => none }
def FnPromiseWrongFalsely : Prop := fnPromiseRow.holds Try.pinned (OpenSpec.ofChange fnPromiseWrong)

/-- 'laws.FnCuts': WHATEVER THE INPUT: true; the input reads as it did. -/
def fnCutsSpec : ChangeSpec := { name := "fnCuts", fn := fun _ => fun
  | [d] => { results := [.lit (.bool true)], args := [d] }
  | _ => none }
def fnCutsRow : OpenClaim := { program := "ytnnhngdconbbfaa", sum := "a8b017d548f6de9f987ce32bd822cec85251410bc614ab2ab9336e54cde3c89c", func := "loop.example/g00477/laws.FnCuts", spec := "fnCuts", unfollowed := true, recurses := true, apart := false }
def FnCutsSaid : Prop := fnCutsRow.holds Try.pinned (OpenSpec.ofChange fnCutsSpec)

/-- ITS FALSE NEIGHBOUR: 'it returns false'. Refute it at one input. -/
def fnCutsWrong : ChangeSpec := { name := "fnCuts", fn := fun _ => fun
  | [d] => { results := [.lit (.bool false)], args := [d] }
  | _ => none }
def FnCutsWrongFalsely : Prop := fnCutsRow.holds Try.pinned (OpenSpec.ofChange fnCutsWrong)

/- THE SECOND FORM. 'bulk': how many values and letters a reading holds, each counted each time it is reached (what is shared counts as often as it is met; a slice's spare places count too). A statement '..UptoSaid' is the law's where the arguments, and the package variables that the reading takes, are together of bulk at most 1048576: NARROWER than '..Said'. Prove '..Said' where nothing that the law and all that it calls make is longer than what came in: it says more and counts as full. Else prove '..UptoSaid'. A law counts once. -/
mutual
def uptoBulk {H : Type} : DataW H → Nat
  | .lit (.string bytes) => bytes.length + 1
  | .lit _ => 1
  | .nil => 1
  | .ptr d => uptoBulk d + 1
  | .slice elems spare => uptoBulkAll elems + uptoBulkAll spare + 1
  | .agg parts => uptoBulkAll parts + 1
  | .iface _ d => uptoBulk d + 1
  | .map entries => uptoBulkEntries entries + 1
  | .held _ => 1
def uptoBulkAll {H : Type} : List (DataW H) → Nat
  | [] => 0
  | d :: r => uptoBulk d + uptoBulkAll r
def uptoBulkEntries {H : Type} : List (Lit × DataW H) → Nat
  | [] => 0
  | x :: r => uptoBulkEntry x + uptoBulkEntries r
def uptoBulkEntry {H : Type} : Lit × DataW H → Nat
  | (.string bytes, d) => bytes.length + uptoBulk d + 1
  | (_, d) => uptoBulk d + 1
 end
def uptoSmall : (H : Type) → List (DataW H) → Bool := fun _ ds => decide (uptoBulkAll ds ≤ 1048576)
def OpenSpec.upto (s : _root_.Go.ChangeSpec) : _root_.Go.OpenSpec := { _root_.Go.OpenSpec.ofChange s with cond := some uptoSmall }

/-- 'laws.FnExactConstants', WHERE WHAT IT READS IS OF BULK AT MOST 1048576: true; the input reads as it did. -/
def fnExactConstantsUptoRow : OpenClaim := { program := "ytnnhngdconbbfaa", sum := "a8b017d548f6de9f987ce32bd822cec85251410bc614ab2ab9336e54cde3c89c", func := "loop.example/g00477/laws.FnExactConstants", spec := "fnExactConstants", apart := false, narrowed := true }
def FnExactConstantsUptoSaid : Prop := fnExactConstantsUptoRow.holds Try.pinned (OpenSpec.upto fnExactConstantsSpec)

/-- 'laws.FnExactFracOk', WHERE WHAT IT READS IS OF BULK AT MOST 1048576: true; the input reads as it did. -/
def fnExactFracOkUptoRow : OpenClaim := { program := "ytnnhngdconbbfaa", sum := "a8b017d548f6de9f987ce32bd822cec85251410bc614ab2ab9336e54cde3c89c", func := "loop.example/g00477/laws.FnExactFracOk", spec := "fnExactFracOk", apart := false, narrowed := true }
def FnExactFracOkUptoSaid : Prop := fnExactFracOkUptoRow.holds Try.pinned (OpenSpec.upto fnExactFracOkSpec)

/-- 'laws.FnExactLnOf', WHERE WHAT IT READS IS OF BULK AT MOST 1048576: true; the input reads as it did. -/
def fnExactLnOfUptoRow : OpenClaim := { program := "ytnnhngdconbbfaa", sum := "a8b017d548f6de9f987ce32bd822cec85251410bc614ab2ab9336e54cde3c89c", func := "loop.example/g00477/laws.FnExactLnOf", spec := "fnExactLnOf", apart := false, narrowed := true }
def FnExactLnOfUptoSaid : Prop := fnExactLnOfUptoRow.holds Try.pinned (OpenSpec.upto fnExactLnOfSpec)

/-- 'laws.FnExactGcd', WHERE WHAT IT READS IS OF BULK AT MOST 1048576: true; the input reads as it did. -/
def fnExactGcdUptoRow : OpenClaim := { program := "ytnnhngdconbbfaa", sum := "a8b017d548f6de9f987ce32bd822cec85251410bc614ab2ab9336e54cde3c89c", func := "loop.example/g00477/laws.FnExactGcd", spec := "fnExactGcd", apart := false, narrowed := true }
def FnExactGcdUptoSaid : Prop := fnExactGcdUptoRow.holds Try.pinned (OpenSpec.upto fnExactGcdSpec)

/-- 'laws.FnExactWordOk', WHERE WHAT IT READS IS OF BULK AT MOST 1048576: true; the input reads as it did. -/
def fnExactWordOkUptoRow : OpenClaim := { program := "ytnnhngdconbbfaa", sum := "a8b017d548f6de9f987ce32bd822cec85251410bc614ab2ab9336e54cde3c89c", func := "loop.example/g00477/laws.FnExactWordOk", spec := "fnExactWordOk", apart := false, narrowed := true }
def FnExactWordOkUptoSaid : Prop := fnExactWordOkUptoRow.holds Try.pinned (OpenSpec.upto fnExactWordOkSpec)

/-- 'laws.FnExactThousandths', WHERE WHAT IT READS IS OF BULK AT MOST 1048576: true; the input reads as it did. -/
def fnExactThousandthsUptoRow : OpenClaim := { program := "ytnnhngdconbbfaa", sum := "a8b017d548f6de9f987ce32bd822cec85251410bc614ab2ab9336e54cde3c89c", func := "loop.example/g00477/laws.FnExactThousandths", spec := "fnExactThousandths", apart := false, narrowed := true }
def FnExactThousandthsUptoSaid : Prop := fnExactThousandthsUptoRow.holds Try.pinned (OpenSpec.upto fnExactThousandthsSpec)

/-- 'laws.FnExactBinOf', WHERE WHAT IT READS IS OF BULK AT MOST 1048576: true; the input reads as it did. -/
def fnExactBinOfUptoRow : OpenClaim := { program := "ytnnhngdconbbfaa", sum := "a8b017d548f6de9f987ce32bd822cec85251410bc614ab2ab9336e54cde3c89c", func := "loop.example/g00477/laws.FnExactBinOf", spec := "fnExactBinOf", apart := false, narrowed := true }
def FnExactBinOfUptoSaid : Prop := fnExactBinOfUptoRow.holds Try.pinned (OpenSpec.upto fnExactBinOfSpec)

/-- 'laws.FnExactNatOk', WHERE WHAT IT READS IS OF BULK AT MOST 1048576: true; the input reads as it did. -/
def fnExactNatOkUptoRow : OpenClaim := { program := "ytnnhngdconbbfaa", sum := "a8b017d548f6de9f987ce32bd822cec85251410bc614ab2ab9336e54cde3c89c", func := "loop.example/g00477/laws.FnExactNatOk", spec := "fnExactNatOk", unfollowed := true, recurses := true, apart := false, narrowed := true }
def FnExactNatOkUptoSaid : Prop := fnExactNatOkUptoRow.holds Try.pinned (OpenSpec.upto fnExactNatOkSpec)

/-- 'laws.FnParts', WHERE WHAT IT READS IS OF BULK AT MOST 1048576: true; the input reads as it did. -/
def fnPartsUptoRow : OpenClaim := { program := "ytnnhngdconbbfaa", sum := "a8b017d548f6de9f987ce32bd822cec85251410bc614ab2ab9336e54cde3c89c", func := "loop.example/g00477/laws.FnParts", spec := "fnParts", apart := false, narrowed := true }
def FnPartsUptoSaid : Prop := fnPartsUptoRow.holds Try.pinned (OpenSpec.upto fnPartsSpec)

/-- 'laws.FnExactEqualCuts', WHERE WHAT IT READS IS OF BULK AT MOST 1048576: true; the input reads as it did. -/
def fnExactEqualCutsUptoRow : OpenClaim := { program := "ytnnhngdconbbfaa", sum := "a8b017d548f6de9f987ce32bd822cec85251410bc614ab2ab9336e54cde3c89c", func := "loop.example/g00477/laws.FnExactEqualCuts", spec := "fnExactEqualCuts", apart := false, narrowed := true }
def FnExactEqualCutsUptoSaid : Prop := fnExactEqualCutsUptoRow.holds Try.pinned (OpenSpec.upto fnExactEqualCutsSpec)

/-- 'laws.FnExactTopOf', WHERE WHAT IT READS IS OF BULK AT MOST 1048576: true; the input reads as it did. -/
def fnExactTopOfUptoRow : OpenClaim := { program := "ytnnhngdconbbfaa", sum := "a8b017d548f6de9f987ce32bd822cec85251410bc614ab2ab9336e54cde3c89c", func := "loop.example/g00477/laws.FnExactTopOf", spec := "fnExactTopOf", apart := false, narrowed := true }
def FnExactTopOfUptoSaid : Prop := fnExactTopOfUptoRow.holds Try.pinned (OpenSpec.upto fnExactTopOfSpec)

/-- 'laws.FnExactPutNum', WHERE WHAT IT READS IS OF BULK AT MOST 1048576: true; the input reads as it did. -/
def fnExactPutNumUptoRow : OpenClaim := { program := "ytnnhngdconbbfaa", sum := "a8b017d548f6de9f987ce32bd822cec85251410bc614ab2ab9336e54cde3c89c", func := "loop.example/g00477/laws.FnExactPutNum", spec := "fnExactPutNum", apart := false, narrowed := true }
def FnExactPutNumUptoSaid : Prop := fnExactPutNumUptoRow.holds Try.pinned (OpenSpec.upto fnExactPutNumSpec)

/-- 'laws.FnExactGetNum', WHERE WHAT IT READS IS OF BULK AT MOST 1048576: true; the input reads as it did. -/
def fnExactGetNumUptoRow : OpenClaim := { program := "ytnnhngdconbbfaa", sum := "a8b017d548f6de9f987ce32bd822cec85251410bc614ab2ab9336e54cde3c89c", func := "loop.example/g00477/laws.FnExactGetNum", spec := "fnExactGetNum", apart := false, narrowed := true }
def FnExactGetNumUptoSaid : Prop := fnExactGetNumUptoRow.holds Try.pinned (OpenSpec.upto fnExactGetNumSpec)

/-- 'laws.FnExactPutText', WHERE WHAT IT READS IS OF BULK AT MOST 1048576: true; the input reads as it did. -/
def fnExactPutTextUptoRow : OpenClaim := { program := "ytnnhngdconbbfaa", sum := "a8b017d548f6de9f987ce32bd822cec85251410bc614ab2ab9336e54cde3c89c", func := "loop.example/g00477/laws.FnExactPutText", spec := "fnExactPutText", apart := false, narrowed := true }
def FnExactPutTextUptoSaid : Prop := fnExactPutTextUptoRow.holds Try.pinned (OpenSpec.upto fnExactPutTextSpec)

/-- 'laws.FnExactFracLow', WHERE WHAT IT READS IS OF BULK AT MOST 1048576: true; the input reads as it did. -/
def fnExactFracLowUptoRow : OpenClaim := { program := "ytnnhngdconbbfaa", sum := "a8b017d548f6de9f987ce32bd822cec85251410bc614ab2ab9336e54cde3c89c", func := "loop.example/g00477/laws.FnExactFracLow", spec := "fnExactFracLow", apart := false, narrowed := true }
def FnExactFracLowUptoSaid : Prop := fnExactFracLowUptoRow.holds Try.pinned (OpenSpec.upto fnExactFracLowSpec)

/-- 'laws.FnExactParts', WHERE WHAT IT READS IS OF BULK AT MOST 1048576: true; the input reads as it did. -/
def fnExactPartsUptoRow : OpenClaim := { program := "ytnnhngdconbbfaa", sum := "a8b017d548f6de9f987ce32bd822cec85251410bc614ab2ab9336e54cde3c89c", func := "loop.example/g00477/laws.FnExactParts", spec := "fnExactParts", apart := false, narrowed := true }
def FnExactPartsUptoSaid : Prop := fnExactPartsUptoRow.holds Try.pinned (OpenSpec.upto fnExactPartsSpec)

/-- 'laws.FnExactGetText', WHERE WHAT IT READS IS OF BULK AT MOST 1048576: true; the input reads as it did. -/
def fnExactGetTextUptoRow : OpenClaim := { program := "ytnnhngdconbbfaa", sum := "a8b017d548f6de9f987ce32bd822cec85251410bc614ab2ab9336e54cde3c89c", func := "loop.example/g00477/laws.FnExactGetText", spec := "fnExactGetText", apart := false, narrowed := true }
def FnExactGetTextUptoSaid : Prop := fnExactGetTextUptoRow.holds Try.pinned (OpenSpec.upto fnExactGetTextSpec)

/-- 'laws.FnExactExSame', WHERE WHAT IT READS IS OF BULK AT MOST 1048576: true; the input reads as it did. -/
def fnExactExSameUptoRow : OpenClaim := { program := "ytnnhngdconbbfaa", sum := "a8b017d548f6de9f987ce32bd822cec85251410bc614ab2ab9336e54cde3c89c", func := "loop.example/g00477/laws.FnExactExSame", spec := "fnExactExSame", apart := false, narrowed := true }
def FnExactExSameUptoSaid : Prop := fnExactExSameUptoRow.holds Try.pinned (OpenSpec.upto fnExactExSameSpec)

/-- 'laws.FnExactCutsOk', WHERE WHAT IT READS IS OF BULK AT MOST 1048576: true; the input reads as it did. -/
def fnExactCutsOkUptoRow : OpenClaim := { program := "ytnnhngdconbbfaa", sum := "a8b017d548f6de9f987ce32bd822cec85251410bc614ab2ab9336e54cde3c89c", func := "loop.example/g00477/laws.FnExactCutsOk", spec := "fnExactCutsOk", unfollowed := true, recurses := true, apart := false, narrowed := true }
def FnExactCutsOkUptoSaid : Prop := fnExactCutsOkUptoRow.holds Try.pinned (OpenSpec.upto fnExactCutsOkSpec)

/-- 'laws.FnExactStatsSame', WHERE WHAT IT READS IS OF BULK AT MOST 1048576: true; the input reads as it did. -/
def fnExactStatsSameUptoRow : OpenClaim := { program := "ytnnhngdconbbfaa", sum := "a8b017d548f6de9f987ce32bd822cec85251410bc614ab2ab9336e54cde3c89c", func := "loop.example/g00477/laws.FnExactStatsSame", spec := "fnExactStatsSame", unfollowed := true, recurses := true, apart := false, narrowed := true }
def FnExactStatsSameUptoSaid : Prop := fnExactStatsSameUptoRow.holds Try.pinned (OpenSpec.upto fnExactStatsSameSpec)

/-- 'laws.FnExactThin', WHERE WHAT IT READS IS OF BULK AT MOST 1048576: true; the input reads as it did. -/
def fnExactThinUptoRow : OpenClaim := { program := "ytnnhngdconbbfaa", sum := "a8b017d548f6de9f987ce32bd822cec85251410bc614ab2ab9336e54cde3c89c", func := "loop.example/g00477/laws.FnExactThin", spec := "fnExactThin", apart := false, narrowed := true }
def FnExactThinUptoSaid : Prop := fnExactThinUptoRow.holds Try.pinned (OpenSpec.upto fnExactThinSpec)

/-- 'laws.FnExactAttrOk', WHERE WHAT IT READS IS OF BULK AT MOST 1048576: true; the input reads as it did. -/
def fnExactAttrOkUptoRow : OpenClaim := { program := "ytnnhngdconbbfaa", sum := "a8b017d548f6de9f987ce32bd822cec85251410bc614ab2ab9336e54cde3c89c", func := "loop.example/g00477/laws.FnExactAttrOk", spec := "fnExactAttrOk", unfollowed := true, recurses := true, apart := false, narrowed := true }
def FnExactAttrOkUptoSaid : Prop := fnExactAttrOkUptoRow.holds Try.pinned (OpenSpec.upto fnExactAttrOkSpec)

/-- 'laws.FnExactSchemaSame', WHERE WHAT IT READS IS OF BULK AT MOST 1048576: true; the input reads as it did. -/
def fnExactSchemaSameUptoRow : OpenClaim := { program := "ytnnhngdconbbfaa", sum := "a8b017d548f6de9f987ce32bd822cec85251410bc614ab2ab9336e54cde3c89c", func := "loop.example/g00477/laws.FnExactSchemaSame", spec := "fnExactSchemaSame", unfollowed := true, recurses := true, apart := false, narrowed := true }
def FnExactSchemaSameUptoSaid : Prop := fnExactSchemaSameUptoRow.holds Try.pinned (OpenSpec.upto fnExactSchemaSameSpec)

/-- 'laws.FnExactBins', WHERE WHAT IT READS IS OF BULK AT MOST 1048576: true; the input reads as it did. -/
def fnExactBinsUptoRow : OpenClaim := { program := "ytnnhngdconbbfaa", sum := "a8b017d548f6de9f987ce32bd822cec85251410bc614ab2ab9336e54cde3c89c", func := "loop.example/g00477/laws.FnExactBins", spec := "fnExactBins", unfollowed := true, recurses := true, apart := false, narrowed := true }
def FnExactBinsUptoSaid : Prop := fnExactBinsUptoRow.holds Try.pinned (OpenSpec.upto fnExactBinsSpec)

/-- 'laws.FnExactSchemaOk', WHERE WHAT IT READS IS OF BULK AT MOST 1048576: true; the input reads as it did. -/
def fnExactSchemaOkUptoRow : OpenClaim := { program := "ytnnhngdconbbfaa", sum := "a8b017d548f6de9f987ce32bd822cec85251410bc614ab2ab9336e54cde3c89c", func := "loop.example/g00477/laws.FnExactSchemaOk", spec := "fnExactSchemaOk", unfollowed := true, recurses := true, apart := false, narrowed := true }
def FnExactSchemaOkUptoSaid : Prop := fnExactSchemaOkUptoRow.holds Try.pinned (OpenSpec.upto fnExactSchemaOkSpec)

/-- 'laws.FnExactExOk', WHERE WHAT IT READS IS OF BULK AT MOST 1048576: true; the input reads as it did. -/
def fnExactExOkUptoRow : OpenClaim := { program := "ytnnhngdconbbfaa", sum := "a8b017d548f6de9f987ce32bd822cec85251410bc614ab2ab9336e54cde3c89c", func := "loop.example/g00477/laws.FnExactExOk", spec := "fnExactExOk", unfollowed := true, recurses := true, apart := false, narrowed := true }
def FnExactExOkUptoSaid : Prop := fnExactExOkUptoRow.holds Try.pinned (OpenSpec.upto fnExactExOkSpec)

/-- 'laws.FnExactSorted', WHERE WHAT IT READS IS OF BULK AT MOST 1048576: true; the input reads as it did. -/
def fnExactSortedUptoRow : OpenClaim := { program := "ytnnhngdconbbfaa", sum := "a8b017d548f6de9f987ce32bd822cec85251410bc614ab2ab9336e54cde3c89c", func := "loop.example/g00477/laws.FnExactSorted", spec := "fnExactSorted", recurses := true, apart := false, narrowed := true }
def FnExactSortedUptoSaid : Prop := fnExactSortedUptoRow.holds Try.pinned (OpenSpec.upto fnExactSortedSpec)

/-- 'laws.FnExactStatsNew', WHERE WHAT IT READS IS OF BULK AT MOST 1048576: true; the input reads as it did. -/
def fnExactStatsNewUptoRow : OpenClaim := { program := "ytnnhngdconbbfaa", sum := "a8b017d548f6de9f987ce32bd822cec85251410bc614ab2ab9336e54cde3c89c", func := "loop.example/g00477/laws.FnExactStatsNew", spec := "fnExactStatsNew", unfollowed := true, recurses := true, apart := false, narrowed := true }
def FnExactStatsNewUptoSaid : Prop := fnExactStatsNewUptoRow.holds Try.pinned (OpenSpec.upto fnExactStatsNewSpec)

/-- 'laws.FnExactStatsOk', WHERE WHAT IT READS IS OF BULK AT MOST 1048576: true; the input reads as it did. -/
def fnExactStatsOkUptoRow : OpenClaim := { program := "ytnnhngdconbbfaa", sum := "a8b017d548f6de9f987ce32bd822cec85251410bc614ab2ab9336e54cde3c89c", func := "loop.example/g00477/laws.FnExactStatsOk", spec := "fnExactStatsOk", unfollowed := true, recurses := true, apart := false, narrowed := true }
def FnExactStatsOkUptoSaid : Prop := fnExactStatsOkUptoRow.holds Try.pinned (OpenSpec.upto fnExactStatsOkSpec)

/-- 'laws.FnExactQuantileCuts', WHERE WHAT IT READS IS OF BULK AT MOST 1048576: true; the input reads as it did. -/
def fnExactQuantileCutsUptoRow : OpenClaim := { program := "ytnnhngdconbbfaa", sum := "a8b017d548f6de9f987ce32bd822cec85251410bc614ab2ab9336e54cde3c89c", func := "loop.example/g00477/laws.FnExactQuantileCuts", spec := "fnExactQuantileCuts", unfollowed := true, recurses := true, apart := false, narrowed := true }
def FnExactQuantileCutsUptoSaid : Prop := fnExactQuantileCutsUptoRow.holds Try.pinned (OpenSpec.upto fnExactQuantileCutsSpec)

/-- 'laws.FnExactStatsTotal', WHERE WHAT IT READS IS OF BULK AT MOST 1048576: true; the input reads as it did. -/
def fnExactStatsTotalUptoRow : OpenClaim := { program := "ytnnhngdconbbfaa", sum := "a8b017d548f6de9f987ce32bd822cec85251410bc614ab2ab9336e54cde3c89c", func := "loop.example/g00477/laws.FnExactStatsTotal", spec := "fnExactStatsTotal", unfollowed := true, recurses := true, apart := false, narrowed := true }
def FnExactStatsTotalUptoSaid : Prop := fnExactStatsTotalUptoRow.holds Try.pinned (OpenSpec.upto fnExactStatsTotalSpec)

/-- 'laws.FnPromise', WHERE WHAT IT READS IS OF BULK AT MOST 1048576: true; the input reads as it did. -/
def fnPromiseUptoRow : OpenClaim := { program := "ytnnhngdconbbfaa", sum := "a8b017d548f6de9f987ce32bd822cec85251410bc614ab2ab9336e54cde3c89c", func := "loop.example/g00477/laws.FnPromise", spec := "fnPromise", unfollowed := true, recurses := true, apart := false, narrowed := true }
def FnPromiseUptoSaid : Prop := fnPromiseUptoRow.holds Try.pinned (OpenSpec.upto fnPromiseSpec)

/-- 'laws.FnCuts', WHERE WHAT IT READS IS OF BULK AT MOST 1048576: true; the input reads as it did. -/
def fnCutsUptoRow : OpenClaim := { program := "ytnnhngdconbbfaa", sum := "a8b017d548f6de9f987ce32bd822cec85251410bc614ab2ab9336e54cde3c89c", func := "loop.example/g00477/laws.FnCuts", spec := "fnCuts", unfollowed := true, recurses := true, apart := false, narrowed := true }
def FnCutsUptoSaid : Prop := fnCutsUptoRow.holds Try.pinned (OpenSpec.upto fnCutsSpec)

end Rows
end Go.Proofs.Ytnnhngdconbbfaa
