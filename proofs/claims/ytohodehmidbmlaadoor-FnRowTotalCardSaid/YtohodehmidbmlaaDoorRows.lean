/-
  NARROWER THAN 'FOR EVERY INPUT', by the rows' own cells (each row's printed sentence says how): FnExactRowOf: laid · FnSchemaRead: laid · FnExactSchemaOf: laid · FnExactDigits: laid · FnExactFracText: laid · FnExactCellText: laid · FnExactNumber: laid · FnExactAttrText: laid · FnExactSigned: laid · FnNumbers: laid · FnExactSchemaText: laid · FnExactExText: laid · FnRowText: laid · FnRowTotal: laid · FnExactAttrOf: laid · FnSchemaText: laid.
  DERIVED. THE GIVEN ROWS OF THIS SEAT. 16 by the template 'for every input the law returns true; each argument reads behind the call as it read before'; 0 by the template 'total and deterministic' (their statements: YtohodehmidbmlaaDoorTotals.lean).
  GIVEN WITH THE SEED: the statements are not yours to turn. If you find one false, say at which input.
  Laid BY PROGRAM, IN A SANDBOX (cutbox-rows.mjs): the forced cells as the released guide's own fill.sh prints them over the translation b8b3c1459118c4e9… (all of the seat's roots in one cut). By AI agents, Wed Nov 11 2026. No macro, syntax, notation, axiom, sorry.
-/
import Derived.Test.YtohodehmidbmlaaDoorChecked
import GoSem.Claim
import GoSem.ClaimJoined
import GoSem.ClaimMapViews
import Derived.JoinedTies
import Derived.KernelRfl
namespace Go.Proofs.YtohodehmidbmlaaDoor
/- THE CELL 'sum', in the pinned program and in every row, IS THE sha256 OF THE DUMP (.gsa) THAT YtohodehmidbmlaaDoorProg.lean LOADS. Nothing in Lean hashes anything: it is a label: what it is worth is what the hold of that sum in a sandbox is worth. -/
noncomputable def Tryd.pinned : Pinned := { name := "ytohodehmidbmlaadoor", sum := "b8b3c1459118c4e99e0c9ee8923a8134a1e0fbb427440f6bb7dc501290f2910f", checked := Tryd.checked }
namespace Rows
def none {H : Type} : Left H := { results := [], args := [] }

/- WHAT THE LISTED PACKAGE-LEVEL VARIABLES READ AS WHEN THE CALL BEGINS. Each datum BY PROGRAM (the guide's laid-datum.mjs) off the statement by which the dump's own 'gosem.cut.vars' lays the variable. In a bare row this is a premise. The card (YtohodehmidbmlaaDoorCards.lean) ties it to the program's text. -/
def laid_math_bits_deBruijn32tab {H : Type} : DataW H := .agg [.lit (.int .u8 0), .lit (.int .u8 1), .lit (.int .u8 28), .lit (.int .u8 2), .lit (.int .u8 29), .lit (.int .u8 14), .lit (.int .u8 24), .lit (.int .u8 3), .lit (.int .u8 30), .lit (.int .u8 22), .lit (.int .u8 20), .lit (.int .u8 15), .lit (.int .u8 25), .lit (.int .u8 17), .lit (.int .u8 4), .lit (.int .u8 8), .lit (.int .u8 31), .lit (.int .u8 27), .lit (.int .u8 13), .lit (.int .u8 23), .lit (.int .u8 21), .lit (.int .u8 19), .lit (.int .u8 16), .lit (.int .u8 7), .lit (.int .u8 26), .lit (.int .u8 12), .lit (.int .u8 18), .lit (.int .u8 6), .lit (.int .u8 11), .lit (.int .u8 5), .lit (.int .u8 10), .lit (.int .u8 9)]
def laid_math_bits_deBruijn64tab {H : Type} : DataW H := .agg [.lit (.int .u8 0), .lit (.int .u8 1), .lit (.int .u8 56), .lit (.int .u8 2), .lit (.int .u8 57), .lit (.int .u8 49), .lit (.int .u8 28), .lit (.int .u8 3), .lit (.int .u8 61), .lit (.int .u8 58), .lit (.int .u8 42), .lit (.int .u8 50), .lit (.int .u8 38), .lit (.int .u8 29), .lit (.int .u8 17), .lit (.int .u8 4), .lit (.int .u8 62), .lit (.int .u8 47), .lit (.int .u8 59), .lit (.int .u8 36), .lit (.int .u8 45), .lit (.int .u8 43), .lit (.int .u8 51), .lit (.int .u8 22), .lit (.int .u8 53), .lit (.int .u8 39), .lit (.int .u8 33), .lit (.int .u8 30), .lit (.int .u8 24), .lit (.int .u8 18), .lit (.int .u8 12), .lit (.int .u8 5), .lit (.int .u8 63), .lit (.int .u8 55), .lit (.int .u8 48), .lit (.int .u8 27), .lit (.int .u8 60), .lit (.int .u8 41), .lit (.int .u8 37), .lit (.int .u8 16), .lit (.int .u8 46), .lit (.int .u8 35), .lit (.int .u8 44), .lit (.int .u8 21), .lit (.int .u8 52), .lit (.int .u8 32), .lit (.int .u8 23), .lit (.int .u8 11), .lit (.int .u8 54), .lit (.int .u8 26), .lit (.int .u8 40), .lit (.int .u8 15), .lit (.int .u8 34), .lit (.int .u8 20), .lit (.int .u8 31), .lit (.int .u8 10), .lit (.int .u8 25), .lit (.int .u8 14), .lit (.int .u8 19), .lit (.int .u8 9), .lit (.int .u8 13), .lit (.int .u8 8), .lit (.int .u8 7), .lit (.int .u8 6)]
def laid_internal_strconv_uint64pow10 {H : Type} : DataW H := .agg [.lit (.int .u64 1), .lit (.int .u64 10), .lit (.int .u64 100), .lit (.int .u64 1000), .lit (.int .u64 10000), .lit (.int .u64 100000), .lit (.int .u64 1000000), .lit (.int .u64 10000000), .lit (.int .u64 100000000), .lit (.int .u64 1000000000), .lit (.int .u64 10000000000), .lit (.int .u64 100000000000), .lit (.int .u64 1000000000000), .lit (.int .u64 10000000000000), .lit (.int .u64 100000000000000), .lit (.int .u64 1000000000000000), .lit (.int .u64 10000000000000000), .lit (.int .u64 100000000000000000), .lit (.int .u64 1000000000000000000), .lit (.int .u64 10000000000000000000)]
def laid_strconv_ErrRange {H : Type} : DataW H := .iface "*errors.errorString" (.ptr (.agg [.lit (.string [118, 97, 108, 117, 101, 32, 111, 117, 116, 32, 111, 102, 32, 114, 97, 110, 103, 101])]))
def laid_strconv_ErrSyntax {H : Type} : DataW H := .iface "*errors.errorString" (.ptr (.agg [.lit (.string [105, 110, 118, 97, 108, 105, 100, 32, 115, 121, 110, 116, 97, 120])]))

/-- 'laws.FnExactRowOf': WHATEVER THE INPUT: true; the input reads as it did. -/
def fnExactRowOfSpec : ChangeSpec := { name := "fnExactRowOf", fn := fun _ => fun
  | [d1, d2] => { results := [.lit (.bool true)], args := [d1, d2] }
  | _ => none }
def fnExactRowOfRow : OpenClaim := { program := "ytohodehmidbmlaadoor", sum := "b8b3c1459118c4e99e0c9ee8923a8134a1e0fbb427440f6bb7dc501290f2910f", func := "loop.example/g00477/laws.FnExactRowOf", spec := "fnExactRowOf", unfollowed := true, recurses := true, named := ["strconv.ErrSyntax", "strconv.ErrRange", "internal/strconv.uint64pow10", "math/bits.deBruijn32tab", "math/bits.deBruijn64tab"], apart := false, laid := [("math/bits.deBruijn32tab", laid_math_bits_deBruijn32tab), ("math/bits.deBruijn64tab", laid_math_bits_deBruijn64tab), ("internal/strconv.uint64pow10", laid_internal_strconv_uint64pow10), ("strconv.ErrRange", laid_strconv_ErrRange), ("strconv.ErrSyntax", laid_strconv_ErrSyntax)] }
def FnExactRowOfSaid : Prop := fnExactRowOfRow.holds Tryd.pinned (OpenSpec.ofChange fnExactRowOfSpec)

/-- ITS FALSE NEIGHBOUR: 'it returns false'. Refute it at one input. -/
def fnExactRowOfWrong : ChangeSpec := { name := "fnExactRowOf", fn := fun _ => fun
  | [d1, d2] => { results := [.lit (.bool false)], args := [d1, d2] }
  | _ => none }
def FnExactRowOfWrongFalsely : Prop := fnExactRowOfRow.holds Tryd.pinned (OpenSpec.ofChange fnExactRowOfWrong)

/-- 'laws.FnSchemaRead': WHATEVER THE INPUT: true; the input reads as it did. -/
def fnSchemaReadSpec : ChangeSpec := { name := "fnSchemaRead", fn := fun _ => fun
  | [d] => { results := [.lit (.bool true)], args := [d] }
  | _ => none }
def fnSchemaReadRow : OpenClaim := { program := "ytohodehmidbmlaadoor", sum := "b8b3c1459118c4e99e0c9ee8923a8134a1e0fbb427440f6bb7dc501290f2910f", func := "loop.example/g00477/laws.FnSchemaRead", spec := "fnSchemaRead", inPlace := ["internal/bytealg.IndexByteString", "internal/bytealg.IndexString", "internal/abi.NoEscape", "internal/bytealg.MakeNoZero"], unfollowed := true, recurses := true, named := ["internal/bytealg.MaxLen", "strconv.ErrSyntax", "strconv.ErrRange", "internal/strconv.uint64pow10", "math/bits.deBruijn32tab", "math/bits.deBruijn64tab"], apart := false, laid := [("math/bits.deBruijn32tab", laid_math_bits_deBruijn32tab), ("math/bits.deBruijn64tab", laid_math_bits_deBruijn64tab), ("internal/strconv.uint64pow10", laid_internal_strconv_uint64pow10), ("strconv.ErrRange", laid_strconv_ErrRange), ("strconv.ErrSyntax", laid_strconv_ErrSyntax)] }
def FnSchemaReadSaid : Prop := fnSchemaReadRow.holds Tryd.pinned (OpenSpec.ofChange fnSchemaReadSpec)

/-- ITS FALSE NEIGHBOUR: 'it returns false'. Refute it at one input. -/
def fnSchemaReadWrong : ChangeSpec := { name := "fnSchemaRead", fn := fun _ => fun
  | [d] => { results := [.lit (.bool false)], args := [d] }
  | _ => none }
def FnSchemaReadWrongFalsely : Prop := fnSchemaReadRow.holds Tryd.pinned (OpenSpec.ofChange fnSchemaReadWrong)

/-- 'laws.FnExactSchemaOf': WHATEVER THE INPUT: true; the input reads as it did. -/
def fnExactSchemaOfSpec : ChangeSpec := { name := "fnExactSchemaOf", fn := fun _ => fun
  | [d] => { results := [.lit (.bool true)], args := [d] }
  | _ => none }
def fnExactSchemaOfRow : OpenClaim := { program := "ytohodehmidbmlaadoor", sum := "b8b3c1459118c4e99e0c9ee8923a8134a1e0fbb427440f6bb7dc501290f2910f", func := "loop.example/g00477/laws.FnExactSchemaOf", spec := "fnExactSchemaOf", inPlace := ["internal/bytealg.IndexByteString", "internal/bytealg.IndexString", "internal/abi.NoEscape", "internal/bytealg.MakeNoZero"], unfollowed := true, recurses := true, named := ["internal/bytealg.MaxLen", "strconv.ErrSyntax", "strconv.ErrRange", "internal/strconv.uint64pow10", "math/bits.deBruijn32tab", "math/bits.deBruijn64tab"], apart := false, laid := [("math/bits.deBruijn32tab", laid_math_bits_deBruijn32tab), ("math/bits.deBruijn64tab", laid_math_bits_deBruijn64tab), ("internal/strconv.uint64pow10", laid_internal_strconv_uint64pow10), ("strconv.ErrRange", laid_strconv_ErrRange), ("strconv.ErrSyntax", laid_strconv_ErrSyntax)] }
def FnExactSchemaOfSaid : Prop := fnExactSchemaOfRow.holds Tryd.pinned (OpenSpec.ofChange fnExactSchemaOfSpec)

/-- ITS FALSE NEIGHBOUR: 'it returns false'. Refute it at one input. -/
def fnExactSchemaOfWrong : ChangeSpec := { name := "fnExactSchemaOf", fn := fun _ => fun
  | [d] => { results := [.lit (.bool false)], args := [d] }
  | _ => none }
def FnExactSchemaOfWrongFalsely : Prop := fnExactSchemaOfRow.holds Tryd.pinned (OpenSpec.ofChange fnExactSchemaOfWrong)

/-- 'laws.FnExactDigits': WHATEVER THE INPUT: true; the input reads as it did. -/
def fnExactDigitsSpec : ChangeSpec := { name := "fnExactDigits", fn := fun _ => fun
  | [d] => { results := [.lit (.bool true)], args := [d] }
  | _ => none }
def fnExactDigitsRow : OpenClaim := { program := "ytohodehmidbmlaadoor", sum := "b8b3c1459118c4e99e0c9ee8923a8134a1e0fbb427440f6bb7dc501290f2910f", func := "loop.example/g00477/laws.FnExactDigits", spec := "fnExactDigits", named := ["internal/strconv.uint64pow10", "math/bits.deBruijn32tab", "math/bits.deBruijn64tab"], apart := false, laid := [("math/bits.deBruijn32tab", laid_math_bits_deBruijn32tab), ("math/bits.deBruijn64tab", laid_math_bits_deBruijn64tab), ("internal/strconv.uint64pow10", laid_internal_strconv_uint64pow10)] }
def FnExactDigitsSaid : Prop := fnExactDigitsRow.holds Tryd.pinned (OpenSpec.ofChange fnExactDigitsSpec)

/-- ITS FALSE NEIGHBOUR: 'it returns false'. Refute it at one input. -/
def fnExactDigitsWrong : ChangeSpec := { name := "fnExactDigits", fn := fun _ => fun
  | [d] => { results := [.lit (.bool false)], args := [d] }
  | _ => none }
def FnExactDigitsWrongFalsely : Prop := fnExactDigitsRow.holds Tryd.pinned (OpenSpec.ofChange fnExactDigitsWrong)

/-- 'laws.FnExactFracText': WHATEVER THE INPUT: true; the input reads as it did. -/
def fnExactFracTextSpec : ChangeSpec := { name := "fnExactFracText", fn := fun _ => fun
  | [d] => { results := [.lit (.bool true)], args := [d] }
  | _ => none }
def fnExactFracTextRow : OpenClaim := { program := "ytohodehmidbmlaadoor", sum := "b8b3c1459118c4e99e0c9ee8923a8134a1e0fbb427440f6bb7dc501290f2910f", func := "loop.example/g00477/laws.FnExactFracText", spec := "fnExactFracText", named := ["internal/strconv.uint64pow10", "math/bits.deBruijn32tab", "math/bits.deBruijn64tab"], apart := false, laid := [("math/bits.deBruijn32tab", laid_math_bits_deBruijn32tab), ("math/bits.deBruijn64tab", laid_math_bits_deBruijn64tab), ("internal/strconv.uint64pow10", laid_internal_strconv_uint64pow10)] }
def FnExactFracTextSaid : Prop := fnExactFracTextRow.holds Tryd.pinned (OpenSpec.ofChange fnExactFracTextSpec)

/-- ITS FALSE NEIGHBOUR: 'it returns false'. Refute it at one input. -/
def fnExactFracTextWrong : ChangeSpec := { name := "fnExactFracText", fn := fun _ => fun
  | [d] => { results := [.lit (.bool false)], args := [d] }
  | _ => none }
def FnExactFracTextWrongFalsely : Prop := fnExactFracTextRow.holds Tryd.pinned (OpenSpec.ofChange fnExactFracTextWrong)

/-- 'laws.FnExactCellText': WHATEVER THE INPUT: true; the input reads as it did. -/
def fnExactCellTextSpec : ChangeSpec := { name := "fnExactCellText", fn := fun _ => fun
  | [d1, d2] => { results := [.lit (.bool true)], args := [d1, d2] }
  | _ => none }
def fnExactCellTextRow : OpenClaim := { program := "ytohodehmidbmlaadoor", sum := "b8b3c1459118c4e99e0c9ee8923a8134a1e0fbb427440f6bb7dc501290f2910f", func := "loop.example/g00477/laws.FnExactCellText", spec := "fnExactCellText", unfollowed := true, recurses := true, named := ["internal/strconv.uint64pow10", "math/bits.deBruijn32tab", "math/bits.deBruijn64tab"], apart := false, laid := [("math/bits.deBruijn32tab", laid_math_bits_deBruijn32tab), ("math/bits.deBruijn64tab", laid_math_bits_deBruijn64tab), ("internal/strconv.uint64pow10", laid_internal_strconv_uint64pow10)] }
def FnExactCellTextSaid : Prop := fnExactCellTextRow.holds Tryd.pinned (OpenSpec.ofChange fnExactCellTextSpec)

/-- ITS FALSE NEIGHBOUR: 'it returns false'. Refute it at one input. -/
def fnExactCellTextWrong : ChangeSpec := { name := "fnExactCellText", fn := fun _ => fun
  | [d1, d2] => { results := [.lit (.bool false)], args := [d1, d2] }
  | _ => none }
def FnExactCellTextWrongFalsely : Prop := fnExactCellTextRow.holds Tryd.pinned (OpenSpec.ofChange fnExactCellTextWrong)

/-- 'laws.FnExactNumber': WHATEVER THE INPUT: true; the input reads as it did. -/
def fnExactNumberSpec : ChangeSpec := { name := "fnExactNumber", fn := fun _ => fun
  | [d] => { results := [.lit (.bool true)], args := [d] }
  | _ => none }
def fnExactNumberRow : OpenClaim := { program := "ytohodehmidbmlaadoor", sum := "b8b3c1459118c4e99e0c9ee8923a8134a1e0fbb427440f6bb7dc501290f2910f", func := "loop.example/g00477/laws.FnExactNumber", spec := "fnExactNumber", named := ["strconv.ErrSyntax", "strconv.ErrRange", "internal/strconv.uint64pow10", "math/bits.deBruijn32tab", "math/bits.deBruijn64tab"], apart := false, laid := [("math/bits.deBruijn32tab", laid_math_bits_deBruijn32tab), ("math/bits.deBruijn64tab", laid_math_bits_deBruijn64tab), ("internal/strconv.uint64pow10", laid_internal_strconv_uint64pow10), ("strconv.ErrRange", laid_strconv_ErrRange), ("strconv.ErrSyntax", laid_strconv_ErrSyntax)] }
def FnExactNumberSaid : Prop := fnExactNumberRow.holds Tryd.pinned (OpenSpec.ofChange fnExactNumberSpec)

/-- ITS FALSE NEIGHBOUR: 'it returns false'. Refute it at one input. -/
def fnExactNumberWrong : ChangeSpec := { name := "fnExactNumber", fn := fun _ => fun
  | [d] => { results := [.lit (.bool false)], args := [d] }
  | _ => none }
def FnExactNumberWrongFalsely : Prop := fnExactNumberRow.holds Tryd.pinned (OpenSpec.ofChange fnExactNumberWrong)

/-- 'laws.FnExactAttrText': WHATEVER THE INPUT: true; the input reads as it did. -/
def fnExactAttrTextSpec : ChangeSpec := { name := "fnExactAttrText", fn := fun _ => fun
  | [d] => { results := [.lit (.bool true)], args := [d] }
  | _ => none }
def fnExactAttrTextRow : OpenClaim := { program := "ytohodehmidbmlaadoor", sum := "b8b3c1459118c4e99e0c9ee8923a8134a1e0fbb427440f6bb7dc501290f2910f", func := "loop.example/g00477/laws.FnExactAttrText", spec := "fnExactAttrText", inPlace := ["internal/abi.NoEscape", "internal/bytealg.MakeNoZero"], unfollowed := true, recurses := true, named := ["internal/strconv.uint64pow10", "math/bits.deBruijn32tab", "math/bits.deBruijn64tab"], apart := false, laid := [("math/bits.deBruijn32tab", laid_math_bits_deBruijn32tab), ("math/bits.deBruijn64tab", laid_math_bits_deBruijn64tab), ("internal/strconv.uint64pow10", laid_internal_strconv_uint64pow10)] }
def FnExactAttrTextSaid : Prop := fnExactAttrTextRow.holds Tryd.pinned (OpenSpec.ofChange fnExactAttrTextSpec)

/-- ITS FALSE NEIGHBOUR: 'it returns false'. Refute it at one input. -/
def fnExactAttrTextWrong : ChangeSpec := { name := "fnExactAttrText", fn := fun _ => fun
  | [d] => { results := [.lit (.bool false)], args := [d] }
  | _ => none }
def FnExactAttrTextWrongFalsely : Prop := fnExactAttrTextRow.holds Tryd.pinned (OpenSpec.ofChange fnExactAttrTextWrong)

/-- 'laws.FnExactSigned': WHATEVER THE INPUT: true; the input reads as it did. -/
def fnExactSignedSpec : ChangeSpec := { name := "fnExactSigned", fn := fun _ => fun
  | [d] => { results := [.lit (.bool true)], args := [d] }
  | _ => none }
def fnExactSignedRow : OpenClaim := { program := "ytohodehmidbmlaadoor", sum := "b8b3c1459118c4e99e0c9ee8923a8134a1e0fbb427440f6bb7dc501290f2910f", func := "loop.example/g00477/laws.FnExactSigned", spec := "fnExactSigned", named := ["strconv.ErrSyntax", "strconv.ErrRange", "internal/strconv.uint64pow10", "math/bits.deBruijn32tab", "math/bits.deBruijn64tab"], apart := false, laid := [("math/bits.deBruijn32tab", laid_math_bits_deBruijn32tab), ("math/bits.deBruijn64tab", laid_math_bits_deBruijn64tab), ("internal/strconv.uint64pow10", laid_internal_strconv_uint64pow10), ("strconv.ErrRange", laid_strconv_ErrRange), ("strconv.ErrSyntax", laid_strconv_ErrSyntax)] }
def FnExactSignedSaid : Prop := fnExactSignedRow.holds Tryd.pinned (OpenSpec.ofChange fnExactSignedSpec)

/-- ITS FALSE NEIGHBOUR: 'it returns false'. Refute it at one input. -/
def fnExactSignedWrong : ChangeSpec := { name := "fnExactSigned", fn := fun _ => fun
  | [d] => { results := [.lit (.bool false)], args := [d] }
  | _ => none }
def FnExactSignedWrongFalsely : Prop := fnExactSignedRow.holds Tryd.pinned (OpenSpec.ofChange fnExactSignedWrong)

/-- 'laws.FnNumbers': WHATEVER THE INPUT: true; the input reads as it did. -/
def fnNumbersSpec : ChangeSpec := { name := "fnNumbers", fn := fun _ => fun
  | [d] => { results := [.lit (.bool true)], args := [d] }
  | _ => none }
def fnNumbersRow : OpenClaim := { program := "ytohodehmidbmlaadoor", sum := "b8b3c1459118c4e99e0c9ee8923a8134a1e0fbb427440f6bb7dc501290f2910f", func := "loop.example/g00477/laws.FnNumbers", spec := "fnNumbers", named := ["internal/strconv.uint64pow10", "math/bits.deBruijn32tab", "math/bits.deBruijn64tab", "strconv.ErrSyntax", "strconv.ErrRange"], apart := false, laid := [("math/bits.deBruijn32tab", laid_math_bits_deBruijn32tab), ("math/bits.deBruijn64tab", laid_math_bits_deBruijn64tab), ("internal/strconv.uint64pow10", laid_internal_strconv_uint64pow10), ("strconv.ErrRange", laid_strconv_ErrRange), ("strconv.ErrSyntax", laid_strconv_ErrSyntax)] }
def FnNumbersSaid : Prop := fnNumbersRow.holds Tryd.pinned (OpenSpec.ofChange fnNumbersSpec)

/-- ITS FALSE NEIGHBOUR: 'it returns false'. Refute it at one input. -/
def fnNumbersWrong : ChangeSpec := { name := "fnNumbers", fn := fun _ => fun
  | [d] => { results := [.lit (.bool false)], args := [d] }
  | _ => none }
def FnNumbersWrongFalsely : Prop := fnNumbersRow.holds Tryd.pinned (OpenSpec.ofChange fnNumbersWrong)

/-- 'laws.FnExactSchemaText': WHATEVER THE INPUT: true; the input reads as it did. -/
def fnExactSchemaTextSpec : ChangeSpec := { name := "fnExactSchemaText", fn := fun _ => fun
  | [d] => { results := [.lit (.bool true)], args := [d] }
  | _ => none }
def fnExactSchemaTextRow : OpenClaim := { program := "ytohodehmidbmlaadoor", sum := "b8b3c1459118c4e99e0c9ee8923a8134a1e0fbb427440f6bb7dc501290f2910f", func := "loop.example/g00477/laws.FnExactSchemaText", spec := "fnExactSchemaText", inPlace := ["internal/abi.NoEscape", "internal/bytealg.MakeNoZero"], unfollowed := true, recurses := true, named := ["internal/strconv.uint64pow10", "math/bits.deBruijn32tab", "math/bits.deBruijn64tab"], apart := false, laid := [("math/bits.deBruijn32tab", laid_math_bits_deBruijn32tab), ("math/bits.deBruijn64tab", laid_math_bits_deBruijn64tab), ("internal/strconv.uint64pow10", laid_internal_strconv_uint64pow10)] }
def FnExactSchemaTextSaid : Prop := fnExactSchemaTextRow.holds Tryd.pinned (OpenSpec.ofChange fnExactSchemaTextSpec)

/-- ITS FALSE NEIGHBOUR: 'it returns false'. Refute it at one input. -/
def fnExactSchemaTextWrong : ChangeSpec := { name := "fnExactSchemaText", fn := fun _ => fun
  | [d] => { results := [.lit (.bool false)], args := [d] }
  | _ => none }
def FnExactSchemaTextWrongFalsely : Prop := fnExactSchemaTextRow.holds Tryd.pinned (OpenSpec.ofChange fnExactSchemaTextWrong)

/-- 'laws.FnExactExText': WHATEVER THE INPUT: true; the input reads as it did. -/
def fnExactExTextSpec : ChangeSpec := { name := "fnExactExText", fn := fun _ => fun
  | [d1, d2] => { results := [.lit (.bool true)], args := [d1, d2] }
  | _ => none }
def fnExactExTextRow : OpenClaim := { program := "ytohodehmidbmlaadoor", sum := "b8b3c1459118c4e99e0c9ee8923a8134a1e0fbb427440f6bb7dc501290f2910f", func := "loop.example/g00477/laws.FnExactExText", spec := "fnExactExText", inPlace := ["internal/abi.NoEscape", "internal/bytealg.MakeNoZero"], unfollowed := true, recurses := true, named := ["internal/strconv.uint64pow10", "math/bits.deBruijn32tab", "math/bits.deBruijn64tab"], apart := false, laid := [("math/bits.deBruijn32tab", laid_math_bits_deBruijn32tab), ("math/bits.deBruijn64tab", laid_math_bits_deBruijn64tab), ("internal/strconv.uint64pow10", laid_internal_strconv_uint64pow10)] }
def FnExactExTextSaid : Prop := fnExactExTextRow.holds Tryd.pinned (OpenSpec.ofChange fnExactExTextSpec)

/-- ITS FALSE NEIGHBOUR: 'it returns false'. Refute it at one input. -/
def fnExactExTextWrong : ChangeSpec := { name := "fnExactExText", fn := fun _ => fun
  | [d1, d2] => { results := [.lit (.bool false)], args := [d1, d2] }
  | _ => none }
def FnExactExTextWrongFalsely : Prop := fnExactExTextRow.holds Tryd.pinned (OpenSpec.ofChange fnExactExTextWrong)

/-- 'laws.FnRowText': WHATEVER THE INPUT: true; the input reads as it did. -/
def fnRowTextSpec : ChangeSpec := { name := "fnRowText", fn := fun _ => fun
  | [d] => { results := [.lit (.bool true)], args := [d] }
  | _ => none }
def fnRowTextRow : OpenClaim := { program := "ytohodehmidbmlaadoor", sum := "b8b3c1459118c4e99e0c9ee8923a8134a1e0fbb427440f6bb7dc501290f2910f", func := "loop.example/g00477/laws.FnRowText", spec := "fnRowText", inPlace := ["internal/abi.NoEscape", "internal/bytealg.MakeNoZero"], unfollowed := true, recurses := true, named := ["internal/strconv.uint64pow10", "math/bits.deBruijn32tab", "math/bits.deBruijn64tab", "strconv.ErrSyntax", "strconv.ErrRange"], apart := false, laid := [("math/bits.deBruijn32tab", laid_math_bits_deBruijn32tab), ("math/bits.deBruijn64tab", laid_math_bits_deBruijn64tab), ("internal/strconv.uint64pow10", laid_internal_strconv_uint64pow10), ("strconv.ErrRange", laid_strconv_ErrRange), ("strconv.ErrSyntax", laid_strconv_ErrSyntax)] }
def FnRowTextSaid : Prop := fnRowTextRow.holds Tryd.pinned (OpenSpec.ofChange fnRowTextSpec)

/-- ITS FALSE NEIGHBOUR: 'it returns false'. Refute it at one input. -/
def fnRowTextWrong : ChangeSpec := { name := "fnRowText", fn := fun _ => fun
  | [d] => { results := [.lit (.bool false)], args := [d] }
  | _ => none }
def FnRowTextWrongFalsely : Prop := fnRowTextRow.holds Tryd.pinned (OpenSpec.ofChange fnRowTextWrong)

/-- 'laws.FnRowTotal': WHATEVER THE INPUT: true; the input reads as it did. -/
def fnRowTotalSpec : ChangeSpec := { name := "fnRowTotal", fn := fun _ => fun
  | [d] => { results := [.lit (.bool true)], args := [d] }
  | _ => none }
def fnRowTotalRow : OpenClaim := { program := "ytohodehmidbmlaadoor", sum := "b8b3c1459118c4e99e0c9ee8923a8134a1e0fbb427440f6bb7dc501290f2910f", func := "loop.example/g00477/laws.FnRowTotal", spec := "fnRowTotal", inPlace := ["internal/abi.NoEscape", "internal/bytealg.MakeNoZero"], unfollowed := true, recurses := true, named := ["strconv.ErrSyntax", "strconv.ErrRange", "internal/strconv.uint64pow10", "math/bits.deBruijn32tab", "math/bits.deBruijn64tab"], apart := false, laid := [("math/bits.deBruijn32tab", laid_math_bits_deBruijn32tab), ("math/bits.deBruijn64tab", laid_math_bits_deBruijn64tab), ("internal/strconv.uint64pow10", laid_internal_strconv_uint64pow10), ("strconv.ErrRange", laid_strconv_ErrRange), ("strconv.ErrSyntax", laid_strconv_ErrSyntax)] }
def FnRowTotalSaid : Prop := fnRowTotalRow.holds Tryd.pinned (OpenSpec.ofChange fnRowTotalSpec)

/-- ITS FALSE NEIGHBOUR: 'it returns false'. Refute it at one input. -/
def fnRowTotalWrong : ChangeSpec := { name := "fnRowTotal", fn := fun _ => fun
  | [d] => { results := [.lit (.bool false)], args := [d] }
  | _ => none }
def FnRowTotalWrongFalsely : Prop := fnRowTotalRow.holds Tryd.pinned (OpenSpec.ofChange fnRowTotalWrong)

/-- 'laws.FnExactAttrOf': WHATEVER THE INPUT: true; the input reads as it did. -/
def fnExactAttrOfSpec : ChangeSpec := { name := "fnExactAttrOf", fn := fun _ => fun
  | [d] => { results := [.lit (.bool true)], args := [d] }
  | _ => none }
def fnExactAttrOfRow : OpenClaim := { program := "ytohodehmidbmlaadoor", sum := "b8b3c1459118c4e99e0c9ee8923a8134a1e0fbb427440f6bb7dc501290f2910f", func := "loop.example/g00477/laws.FnExactAttrOf", spec := "fnExactAttrOf", inPlace := ["internal/bytealg.IndexByteString", "internal/bytealg.IndexString", "internal/abi.NoEscape", "internal/bytealg.MakeNoZero"], unfollowed := true, recurses := true, named := ["internal/bytealg.MaxLen", "strconv.ErrSyntax", "strconv.ErrRange", "internal/strconv.uint64pow10", "math/bits.deBruijn32tab", "math/bits.deBruijn64tab"], apart := false, laid := [("math/bits.deBruijn32tab", laid_math_bits_deBruijn32tab), ("math/bits.deBruijn64tab", laid_math_bits_deBruijn64tab), ("internal/strconv.uint64pow10", laid_internal_strconv_uint64pow10), ("strconv.ErrRange", laid_strconv_ErrRange), ("strconv.ErrSyntax", laid_strconv_ErrSyntax)] }
def FnExactAttrOfSaid : Prop := fnExactAttrOfRow.holds Tryd.pinned (OpenSpec.ofChange fnExactAttrOfSpec)

/-- ITS FALSE NEIGHBOUR: 'it returns false'. Refute it at one input. -/
def fnExactAttrOfWrong : ChangeSpec := { name := "fnExactAttrOf", fn := fun _ => fun
  | [d] => { results := [.lit (.bool false)], args := [d] }
  | _ => none }
def FnExactAttrOfWrongFalsely : Prop := fnExactAttrOfRow.holds Tryd.pinned (OpenSpec.ofChange fnExactAttrOfWrong)

/-- 'laws.FnSchemaText': WHATEVER THE INPUT: true; the input reads as it did. -/
def fnSchemaTextSpec : ChangeSpec := { name := "fnSchemaText", fn := fun _ => fun
  | [d] => { results := [.lit (.bool true)], args := [d] }
  | _ => none }
def fnSchemaTextRow : OpenClaim := { program := "ytohodehmidbmlaadoor", sum := "b8b3c1459118c4e99e0c9ee8923a8134a1e0fbb427440f6bb7dc501290f2910f", func := "loop.example/g00477/laws.FnSchemaText", spec := "fnSchemaText", inPlace := ["internal/abi.NoEscape", "internal/bytealg.MakeNoZero", "internal/bytealg.IndexByteString", "internal/bytealg.IndexString"], unfollowed := true, recurses := true, named := ["internal/strconv.uint64pow10", "math/bits.deBruijn32tab", "math/bits.deBruijn64tab", "internal/bytealg.MaxLen", "strconv.ErrSyntax", "strconv.ErrRange"], apart := false, laid := [("math/bits.deBruijn32tab", laid_math_bits_deBruijn32tab), ("math/bits.deBruijn64tab", laid_math_bits_deBruijn64tab), ("internal/strconv.uint64pow10", laid_internal_strconv_uint64pow10), ("strconv.ErrRange", laid_strconv_ErrRange), ("strconv.ErrSyntax", laid_strconv_ErrSyntax)] }
def FnSchemaTextSaid : Prop := fnSchemaTextRow.holds Tryd.pinned (OpenSpec.ofChange fnSchemaTextSpec)

/-- ITS FALSE NEIGHBOUR: 'it returns false'. Refute it at one input. -/
def fnSchemaTextWrong : ChangeSpec := { name := "fnSchemaText", fn := fun _ => fun
  | [d] => { results := [.lit (.bool false)], args := [d] }
  | _ => none }
def FnSchemaTextWrongFalsely : Prop := fnSchemaTextRow.holds Tryd.pinned (OpenSpec.ofChange fnSchemaTextWrong)

/- THE SECOND FORM. 'bulk': how many values and letters a reading holds, each counted each time it is reached (what is shared counts as often as it is met; a slice's spare places count too). A statement '..UptoSaid' is the law's where the arguments, and the package variables that the reading takes, are together of bulk at most 1048576: NARROWER than '..Said'. Prove '..Said' where nothing that the law and all that it calls make is longer than what came in: it says more and counts as full. Else prove '..UptoSaid'. A law counts once. -/
mutual
def uptoBulk {H : Type} : DataW H → Nat
  | .lit (.string bytes) => bytes.length + 1
  | .lit _ => 1
  | .nil => 1
  | .ptr d => uptoBulk d + 1
  | .slice elems spare => uptoBulkAll elems + uptoBulkAll spare + 1
  | .agg parts => uptoBulkAll parts + 1
  | .iface _ d => uptoBulk d + 1
  | .map entries => uptoBulkEntries entries + 1
  | .held _ => 1
def uptoBulkAll {H : Type} : List (DataW H) → Nat
  | [] => 0
  | d :: r => uptoBulk d + uptoBulkAll r
def uptoBulkEntries {H : Type} : List (Lit × DataW H) → Nat
  | [] => 0
  | x :: r => uptoBulkEntry x + uptoBulkEntries r
def uptoBulkEntry {H : Type} : Lit × DataW H → Nat
  | (.string bytes, d) => bytes.length + uptoBulk d + 1
  | (_, d) => uptoBulk d + 1
 end
def uptoSmall : (H : Type) → List (DataW H) → Bool := fun _ ds => decide (uptoBulkAll ds ≤ 1048576)
def OpenSpec.upto (s : _root_.Go.ChangeSpec) : _root_.Go.OpenSpec := { _root_.Go.OpenSpec.ofChange s with cond := some uptoSmall }

/-- 'laws.FnExactRowOf', WHERE WHAT IT READS IS OF BULK AT MOST 1048576: true; the input reads as it did. -/
def fnExactRowOfUptoRow : OpenClaim := { program := "ytohodehmidbmlaadoor", sum := "b8b3c1459118c4e99e0c9ee8923a8134a1e0fbb427440f6bb7dc501290f2910f", func := "loop.example/g00477/laws.FnExactRowOf", spec := "fnExactRowOf", unfollowed := true, recurses := true, named := ["strconv.ErrSyntax", "strconv.ErrRange", "internal/strconv.uint64pow10", "math/bits.deBruijn32tab", "math/bits.deBruijn64tab"], apart := false, laid := [("math/bits.deBruijn32tab", laid_math_bits_deBruijn32tab), ("math/bits.deBruijn64tab", laid_math_bits_deBruijn64tab), ("internal/strconv.uint64pow10", laid_internal_strconv_uint64pow10), ("strconv.ErrRange", laid_strconv_ErrRange), ("strconv.ErrSyntax", laid_strconv_ErrSyntax)], narrowed := true }
def FnExactRowOfUptoSaid : Prop := fnExactRowOfUptoRow.holds Tryd.pinned (OpenSpec.upto fnExactRowOfSpec)

/-- 'laws.FnSchemaRead', WHERE WHAT IT READS IS OF BULK AT MOST 1048576: true; the input reads as it did. -/
def fnSchemaReadUptoRow : OpenClaim := { program := "ytohodehmidbmlaadoor", sum := "b8b3c1459118c4e99e0c9ee8923a8134a1e0fbb427440f6bb7dc501290f2910f", func := "loop.example/g00477/laws.FnSchemaRead", spec := "fnSchemaRead", inPlace := ["internal/bytealg.IndexByteString", "internal/bytealg.IndexString", "internal/abi.NoEscape", "internal/bytealg.MakeNoZero"], unfollowed := true, recurses := true, named := ["internal/bytealg.MaxLen", "strconv.ErrSyntax", "strconv.ErrRange", "internal/strconv.uint64pow10", "math/bits.deBruijn32tab", "math/bits.deBruijn64tab"], apart := false, laid := [("math/bits.deBruijn32tab", laid_math_bits_deBruijn32tab), ("math/bits.deBruijn64tab", laid_math_bits_deBruijn64tab), ("internal/strconv.uint64pow10", laid_internal_strconv_uint64pow10), ("strconv.ErrRange", laid_strconv_ErrRange), ("strconv.ErrSyntax", laid_strconv_ErrSyntax)], narrowed := true }
def FnSchemaReadUptoSaid : Prop := fnSchemaReadUptoRow.holds Tryd.pinned (OpenSpec.upto fnSchemaReadSpec)

/-- 'laws.FnExactSchemaOf', WHERE WHAT IT READS IS OF BULK AT MOST 1048576: true; the input reads as it did. -/
def fnExactSchemaOfUptoRow : OpenClaim := { program := "ytohodehmidbmlaadoor", sum := "b8b3c1459118c4e99e0c9ee8923a8134a1e0fbb427440f6bb7dc501290f2910f", func := "loop.example/g00477/laws.FnExactSchemaOf", spec := "fnExactSchemaOf", inPlace := ["internal/bytealg.IndexByteString", "internal/bytealg.IndexString", "internal/abi.NoEscape", "internal/bytealg.MakeNoZero"], unfollowed := true, recurses := true, named := ["internal/bytealg.MaxLen", "strconv.ErrSyntax", "strconv.ErrRange", "internal/strconv.uint64pow10", "math/bits.deBruijn32tab", "math/bits.deBruijn64tab"], apart := false, laid := [("math/bits.deBruijn32tab", laid_math_bits_deBruijn32tab), ("math/bits.deBruijn64tab", laid_math_bits_deBruijn64tab), ("internal/strconv.uint64pow10", laid_internal_strconv_uint64pow10), ("strconv.ErrRange", laid_strconv_ErrRange), ("strconv.ErrSyntax", laid_strconv_ErrSyntax)], narrowed := true }
def FnExactSchemaOfUptoSaid : Prop := fnExactSchemaOfUptoRow.holds Tryd.pinned (OpenSpec.upto fnExactSchemaOfSpec)

/-- 'laws.FnExactDigits', WHERE WHAT IT READS IS OF BULK AT MOST 1048576: true; the input reads as it did. -/
def fnExactDigitsUptoRow : OpenClaim := { program := "ytohodehmidbmlaadoor", sum := "b8b3c1459118c4e99e0c9ee8923a8134a1e0fbb427440f6bb7dc501290f2910f", func := "loop.example/g00477/laws.FnExactDigits", spec := "fnExactDigits", named := ["internal/strconv.uint64pow10", "math/bits.deBruijn32tab", "math/bits.deBruijn64tab"], apart := false, laid := [("math/bits.deBruijn32tab", laid_math_bits_deBruijn32tab), ("math/bits.deBruijn64tab", laid_math_bits_deBruijn64tab), ("internal/strconv.uint64pow10", laid_internal_strconv_uint64pow10)], narrowed := true }
def FnExactDigitsUptoSaid : Prop := fnExactDigitsUptoRow.holds Tryd.pinned (OpenSpec.upto fnExactDigitsSpec)

/-- 'laws.FnExactFracText', WHERE WHAT IT READS IS OF BULK AT MOST 1048576: true; the input reads as it did. -/
def fnExactFracTextUptoRow : OpenClaim := { program := "ytohodehmidbmlaadoor", sum := "b8b3c1459118c4e99e0c9ee8923a8134a1e0fbb427440f6bb7dc501290f2910f", func := "loop.example/g00477/laws.FnExactFracText", spec := "fnExactFracText", named := ["internal/strconv.uint64pow10", "math/bits.deBruijn32tab", "math/bits.deBruijn64tab"], apart := false, laid := [("math/bits.deBruijn32tab", laid_math_bits_deBruijn32tab), ("math/bits.deBruijn64tab", laid_math_bits_deBruijn64tab), ("internal/strconv.uint64pow10", laid_internal_strconv_uint64pow10)], narrowed := true }
def FnExactFracTextUptoSaid : Prop := fnExactFracTextUptoRow.holds Tryd.pinned (OpenSpec.upto fnExactFracTextSpec)

/-- 'laws.FnExactCellText', WHERE WHAT IT READS IS OF BULK AT MOST 1048576: true; the input reads as it did. -/
def fnExactCellTextUptoRow : OpenClaim := { program := "ytohodehmidbmlaadoor", sum := "b8b3c1459118c4e99e0c9ee8923a8134a1e0fbb427440f6bb7dc501290f2910f", func := "loop.example/g00477/laws.FnExactCellText", spec := "fnExactCellText", unfollowed := true, recurses := true, named := ["internal/strconv.uint64pow10", "math/bits.deBruijn32tab", "math/bits.deBruijn64tab"], apart := false, laid := [("math/bits.deBruijn32tab", laid_math_bits_deBruijn32tab), ("math/bits.deBruijn64tab", laid_math_bits_deBruijn64tab), ("internal/strconv.uint64pow10", laid_internal_strconv_uint64pow10)], narrowed := true }
def FnExactCellTextUptoSaid : Prop := fnExactCellTextUptoRow.holds Tryd.pinned (OpenSpec.upto fnExactCellTextSpec)

/-- 'laws.FnExactNumber', WHERE WHAT IT READS IS OF BULK AT MOST 1048576: true; the input reads as it did. -/
def fnExactNumberUptoRow : OpenClaim := { program := "ytohodehmidbmlaadoor", sum := "b8b3c1459118c4e99e0c9ee8923a8134a1e0fbb427440f6bb7dc501290f2910f", func := "loop.example/g00477/laws.FnExactNumber", spec := "fnExactNumber", named := ["strconv.ErrSyntax", "strconv.ErrRange", "internal/strconv.uint64pow10", "math/bits.deBruijn32tab", "math/bits.deBruijn64tab"], apart := false, laid := [("math/bits.deBruijn32tab", laid_math_bits_deBruijn32tab), ("math/bits.deBruijn64tab", laid_math_bits_deBruijn64tab), ("internal/strconv.uint64pow10", laid_internal_strconv_uint64pow10), ("strconv.ErrRange", laid_strconv_ErrRange), ("strconv.ErrSyntax", laid_strconv_ErrSyntax)], narrowed := true }
def FnExactNumberUptoSaid : Prop := fnExactNumberUptoRow.holds Tryd.pinned (OpenSpec.upto fnExactNumberSpec)

/-- 'laws.FnExactAttrText', WHERE WHAT IT READS IS OF BULK AT MOST 1048576: true; the input reads as it did. -/
def fnExactAttrTextUptoRow : OpenClaim := { program := "ytohodehmidbmlaadoor", sum := "b8b3c1459118c4e99e0c9ee8923a8134a1e0fbb427440f6bb7dc501290f2910f", func := "loop.example/g00477/laws.FnExactAttrText", spec := "fnExactAttrText", inPlace := ["internal/abi.NoEscape", "internal/bytealg.MakeNoZero"], unfollowed := true, recurses := true, named := ["internal/strconv.uint64pow10", "math/bits.deBruijn32tab", "math/bits.deBruijn64tab"], apart := false, laid := [("math/bits.deBruijn32tab", laid_math_bits_deBruijn32tab), ("math/bits.deBruijn64tab", laid_math_bits_deBruijn64tab), ("internal/strconv.uint64pow10", laid_internal_strconv_uint64pow10)], narrowed := true }
def FnExactAttrTextUptoSaid : Prop := fnExactAttrTextUptoRow.holds Tryd.pinned (OpenSpec.upto fnExactAttrTextSpec)

/-- 'laws.FnExactSigned', WHERE WHAT IT READS IS OF BULK AT MOST 1048576: true; the input reads as it did. -/
def fnExactSignedUptoRow : OpenClaim := { program := "ytohodehmidbmlaadoor", sum := "b8b3c1459118c4e99e0c9ee8923a8134a1e0fbb427440f6bb7dc501290f2910f", func := "loop.example/g00477/laws.FnExactSigned", spec := "fnExactSigned", named := ["strconv.ErrSyntax", "strconv.ErrRange", "internal/strconv.uint64pow10", "math/bits.deBruijn32tab", "math/bits.deBruijn64tab"], apart := false, laid := [("math/bits.deBruijn32tab", laid_math_bits_deBruijn32tab), ("math/bits.deBruijn64tab", laid_math_bits_deBruijn64tab), ("internal/strconv.uint64pow10", laid_internal_strconv_uint64pow10), ("strconv.ErrRange", laid_strconv_ErrRange), ("strconv.ErrSyntax", laid_strconv_ErrSyntax)], narrowed := true }
def FnExactSignedUptoSaid : Prop := fnExactSignedUptoRow.holds Tryd.pinned (OpenSpec.upto fnExactSignedSpec)

/-- 'laws.FnNumbers', WHERE WHAT IT READS IS OF BULK AT MOST 1048576: true; the input reads as it did. -/
def fnNumbersUptoRow : OpenClaim := { program := "ytohodehmidbmlaadoor", sum := "b8b3c1459118c4e99e0c9ee8923a8134a1e0fbb427440f6bb7dc501290f2910f", func := "loop.example/g00477/laws.FnNumbers", spec := "fnNumbers", named := ["internal/strconv.uint64pow10", "math/bits.deBruijn32tab", "math/bits.deBruijn64tab", "strconv.ErrSyntax", "strconv.ErrRange"], apart := false, laid := [("math/bits.deBruijn32tab", laid_math_bits_deBruijn32tab), ("math/bits.deBruijn64tab", laid_math_bits_deBruijn64tab), ("internal/strconv.uint64pow10", laid_internal_strconv_uint64pow10), ("strconv.ErrRange", laid_strconv_ErrRange), ("strconv.ErrSyntax", laid_strconv_ErrSyntax)], narrowed := true }
def FnNumbersUptoSaid : Prop := fnNumbersUptoRow.holds Tryd.pinned (OpenSpec.upto fnNumbersSpec)

/-- 'laws.FnExactSchemaText', WHERE WHAT IT READS IS OF BULK AT MOST 1048576: true; the input reads as it did. -/
def fnExactSchemaTextUptoRow : OpenClaim := { program := "ytohodehmidbmlaadoor", sum := "b8b3c1459118c4e99e0c9ee8923a8134a1e0fbb427440f6bb7dc501290f2910f", func := "loop.example/g00477/laws.FnExactSchemaText", spec := "fnExactSchemaText", inPlace := ["internal/abi.NoEscape", "internal/bytealg.MakeNoZero"], unfollowed := true, recurses := true, named := ["internal/strconv.uint64pow10", "math/bits.deBruijn32tab", "math/bits.deBruijn64tab"], apart := false, laid := [("math/bits.deBruijn32tab", laid_math_bits_deBruijn32tab), ("math/bits.deBruijn64tab", laid_math_bits_deBruijn64tab), ("internal/strconv.uint64pow10", laid_internal_strconv_uint64pow10)], narrowed := true }
def FnExactSchemaTextUptoSaid : Prop := fnExactSchemaTextUptoRow.holds Tryd.pinned (OpenSpec.upto fnExactSchemaTextSpec)

/-- 'laws.FnExactExText', WHERE WHAT IT READS IS OF BULK AT MOST 1048576: true; the input reads as it did. -/
def fnExactExTextUptoRow : OpenClaim := { program := "ytohodehmidbmlaadoor", sum := "b8b3c1459118c4e99e0c9ee8923a8134a1e0fbb427440f6bb7dc501290f2910f", func := "loop.example/g00477/laws.FnExactExText", spec := "fnExactExText", inPlace := ["internal/abi.NoEscape", "internal/bytealg.MakeNoZero"], unfollowed := true, recurses := true, named := ["internal/strconv.uint64pow10", "math/bits.deBruijn32tab", "math/bits.deBruijn64tab"], apart := false, laid := [("math/bits.deBruijn32tab", laid_math_bits_deBruijn32tab), ("math/bits.deBruijn64tab", laid_math_bits_deBruijn64tab), ("internal/strconv.uint64pow10", laid_internal_strconv_uint64pow10)], narrowed := true }
def FnExactExTextUptoSaid : Prop := fnExactExTextUptoRow.holds Tryd.pinned (OpenSpec.upto fnExactExTextSpec)

/-- 'laws.FnRowText', WHERE WHAT IT READS IS OF BULK AT MOST 1048576: true; the input reads as it did. -/
def fnRowTextUptoRow : OpenClaim := { program := "ytohodehmidbmlaadoor", sum := "b8b3c1459118c4e99e0c9ee8923a8134a1e0fbb427440f6bb7dc501290f2910f", func := "loop.example/g00477/laws.FnRowText", spec := "fnRowText", inPlace := ["internal/abi.NoEscape", "internal/bytealg.MakeNoZero"], unfollowed := true, recurses := true, named := ["internal/strconv.uint64pow10", "math/bits.deBruijn32tab", "math/bits.deBruijn64tab", "strconv.ErrSyntax", "strconv.ErrRange"], apart := false, laid := [("math/bits.deBruijn32tab", laid_math_bits_deBruijn32tab), ("math/bits.deBruijn64tab", laid_math_bits_deBruijn64tab), ("internal/strconv.uint64pow10", laid_internal_strconv_uint64pow10), ("strconv.ErrRange", laid_strconv_ErrRange), ("strconv.ErrSyntax", laid_strconv_ErrSyntax)], narrowed := true }
def FnRowTextUptoSaid : Prop := fnRowTextUptoRow.holds Tryd.pinned (OpenSpec.upto fnRowTextSpec)

/-- 'laws.FnRowTotal', WHERE WHAT IT READS IS OF BULK AT MOST 1048576: true; the input reads as it did. -/
def fnRowTotalUptoRow : OpenClaim := { program := "ytohodehmidbmlaadoor", sum := "b8b3c1459118c4e99e0c9ee8923a8134a1e0fbb427440f6bb7dc501290f2910f", func := "loop.example/g00477/laws.FnRowTotal", spec := "fnRowTotal", inPlace := ["internal/abi.NoEscape", "internal/bytealg.MakeNoZero"], unfollowed := true, recurses := true, named := ["strconv.ErrSyntax", "strconv.ErrRange", "internal/strconv.uint64pow10", "math/bits.deBruijn32tab", "math/bits.deBruijn64tab"], apart := false, laid := [("math/bits.deBruijn32tab", laid_math_bits_deBruijn32tab), ("math/bits.deBruijn64tab", laid_math_bits_deBruijn64tab), ("internal/strconv.uint64pow10", laid_internal_strconv_uint64pow10), ("strconv.ErrRange", laid_strconv_ErrRange), ("strconv.ErrSyntax", laid_strconv_ErrSyntax)], narrowed := true }
def FnRowTotalUptoSaid : Prop := fnRowTotalUptoRow.holds Tryd.pinned (OpenSpec.upto fnRowTotalSpec)

/-- 'laws.FnExactAttrOf', WHERE WHAT IT READS IS OF BULK AT MOST 1048576: true; the input reads as it did. -/
def fnExactAttrOfUptoRow : OpenClaim := { program := "ytohodehmidbmlaadoor", sum := "b8b3c1459118c4e99e0c9ee8923a8134a1e0fbb427440f6bb7dc501290f2910f", func := "loop.example/g00477/laws.FnExactAttrOf", spec := "fnExactAttrOf", inPlace := ["internal/bytealg.IndexByteString", "internal/bytealg.IndexString", "internal/abi.NoEscape", "internal/bytealg.MakeNoZero"], unfollowed := true, recurses := true, named := ["internal/bytealg.MaxLen", "strconv.ErrSyntax", "strconv.ErrRange", "internal/strconv.uint64pow10", "math/bits.deBruijn32tab", "math/bits.deBruijn64tab"], apart := false, laid := [("math/bits.deBruijn32tab", laid_math_bits_deBruijn32tab), ("math/bits.deBruijn64tab", laid_math_bits_deBruijn64tab), ("internal/strconv.uint64pow10", laid_internal_strconv_uint64pow10), ("strconv.ErrRange", laid_strconv_ErrRange), ("strconv.ErrSyntax", laid_strconv_ErrSyntax)], narrowed := true }
def FnExactAttrOfUptoSaid : Prop := fnExactAttrOfUptoRow.holds Tryd.pinned (OpenSpec.upto fnExactAttrOfSpec)

/-- 'laws.FnSchemaText', WHERE WHAT IT READS IS OF BULK AT MOST 1048576: true; the input reads as it did. -/
def fnSchemaTextUptoRow : OpenClaim := { program := "ytohodehmidbmlaadoor", sum := "b8b3c1459118c4e99e0c9ee8923a8134a1e0fbb427440f6bb7dc501290f2910f", func := "loop.example/g00477/laws.FnSchemaText", spec := "fnSchemaText", inPlace := ["internal/abi.NoEscape", "internal/bytealg.MakeNoZero", "internal/bytealg.IndexByteString", "internal/bytealg.IndexString"], unfollowed := true, recurses := true, named := ["internal/strconv.uint64pow10", "math/bits.deBruijn32tab", "math/bits.deBruijn64tab", "internal/bytealg.MaxLen", "strconv.ErrSyntax", "strconv.ErrRange"], apart := false, laid := [("math/bits.deBruijn32tab", laid_math_bits_deBruijn32tab), ("math/bits.deBruijn64tab", laid_math_bits_deBruijn64tab), ("internal/strconv.uint64pow10", laid_internal_strconv_uint64pow10), ("strconv.ErrRange", laid_strconv_ErrRange), ("strconv.ErrSyntax", laid_strconv_ErrSyntax)], narrowed := true }
def FnSchemaTextUptoSaid : Prop := fnSchemaTextUptoRow.holds Tryd.pinned (OpenSpec.upto fnSchemaTextSpec)

end Rows
end Go.Proofs.YtohodehmidbmlaaDoor
