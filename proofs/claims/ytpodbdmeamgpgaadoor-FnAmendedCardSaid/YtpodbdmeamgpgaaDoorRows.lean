/-
  NARROWER THAN 'FOR EVERY INPUT', by the rows' own cells (each row's printed sentence says how): FnExactFormatInt: laid · FnExactDigits: laid · FnExactFormatTime: laid · FnExactFormatLeg: laid · FnExactCheckOf: laid · FnExactFormatLabel: laid · FnExactParseInt: laid · FnRemainder: laid · FnLabelRead: laid · FnExactParseLabel: laid · FnOneChange: laid · FnExactParseTime: laid · FnOneSwap: laid · FnExactAmended: laid · FnAmended: laid · FnTimeRead: laid · FnExactParseLeg: laid.
  DERIVED. THE GIVEN ROWS OF THIS SEAT. 17 by the template 'for every input the law returns true; each argument reads behind the call as it read before'; 0 by the template 'total and deterministic' (their statements: YtpodbdmeamgpgaaDoorTotals.lean).
  GIVEN WITH THE SEED: the statements are not yours to turn. If you find one false, say at which input.
  Laid BY PROGRAM, IN A SANDBOX (cutbox-rows.mjs): the forced cells as the released guide's own fill.sh prints them over the translation c9c99d1111ce6ca4… (all of the seat's roots in one cut). By AI agents, Wed Nov 11 2026. No macro, syntax, notation, axiom, sorry.
-/
import Derived.Test.YtpodbdmeamgpgaaDoorChecked
import GoSem.PinnedTables
import GoSem.Claim
import GoSem.ClaimJoined
import GoSem.ClaimMapViews
import Derived.JoinedTies
import Derived.KernelRfl
namespace Go.Proofs.YtpodbdmeamgpgaaDoor
/- THE CELL 'sum', in the pinned program and in every row, IS THE sha256 OF THE DUMP (.gsa) THAT YtpodbdmeamgpgaaDoorProg.lean LOADS. Nothing in Lean hashes anything: it is a label: what it is worth is what the hold of that sum in a sandbox is worth. -/
noncomputable def Tryd.pinned : Pinned := { name := "ytpodbdmeamgpgaadoor", sum := "c9c99d1111ce6ca4ea982a0360dc78147d6a2b5d1a119ba0695017167de99fbc", checked := Tryd.checked }
namespace Rows
def none {H : Type} : Left H := { results := [], args := [] }

/- WHAT THE LISTED PACKAGE-LEVEL VARIABLES READ AS WHEN THE CALL BEGINS. Each datum BY PROGRAM (the guide's laid-datum.mjs) off the statement by which the dump's own 'gosem.cut.vars' lays the variable. In a bare row this is a premise. The card (YtpodbdmeamgpgaaDoorCards.lean) ties it to the program's text. -/
def laid_math_bits_deBruijn32tab {H : Type} : DataW H := .agg [.lit (.int .u8 0), .lit (.int .u8 1), .lit (.int .u8 28), .lit (.int .u8 2), .lit (.int .u8 29), .lit (.int .u8 14), .lit (.int .u8 24), .lit (.int .u8 3), .lit (.int .u8 30), .lit (.int .u8 22), .lit (.int .u8 20), .lit (.int .u8 15), .lit (.int .u8 25), .lit (.int .u8 17), .lit (.int .u8 4), .lit (.int .u8 8), .lit (.int .u8 31), .lit (.int .u8 27), .lit (.int .u8 13), .lit (.int .u8 23), .lit (.int .u8 21), .lit (.int .u8 19), .lit (.int .u8 16), .lit (.int .u8 7), .lit (.int .u8 26), .lit (.int .u8 12), .lit (.int .u8 18), .lit (.int .u8 6), .lit (.int .u8 11), .lit (.int .u8 5), .lit (.int .u8 10), .lit (.int .u8 9)]
def laid_math_bits_deBruijn64tab {H : Type} : DataW H := .agg [.lit (.int .u8 0), .lit (.int .u8 1), .lit (.int .u8 56), .lit (.int .u8 2), .lit (.int .u8 57), .lit (.int .u8 49), .lit (.int .u8 28), .lit (.int .u8 3), .lit (.int .u8 61), .lit (.int .u8 58), .lit (.int .u8 42), .lit (.int .u8 50), .lit (.int .u8 38), .lit (.int .u8 29), .lit (.int .u8 17), .lit (.int .u8 4), .lit (.int .u8 62), .lit (.int .u8 47), .lit (.int .u8 59), .lit (.int .u8 36), .lit (.int .u8 45), .lit (.int .u8 43), .lit (.int .u8 51), .lit (.int .u8 22), .lit (.int .u8 53), .lit (.int .u8 39), .lit (.int .u8 33), .lit (.int .u8 30), .lit (.int .u8 24), .lit (.int .u8 18), .lit (.int .u8 12), .lit (.int .u8 5), .lit (.int .u8 63), .lit (.int .u8 55), .lit (.int .u8 48), .lit (.int .u8 27), .lit (.int .u8 60), .lit (.int .u8 41), .lit (.int .u8 37), .lit (.int .u8 16), .lit (.int .u8 46), .lit (.int .u8 35), .lit (.int .u8 44), .lit (.int .u8 21), .lit (.int .u8 52), .lit (.int .u8 32), .lit (.int .u8 23), .lit (.int .u8 11), .lit (.int .u8 54), .lit (.int .u8 26), .lit (.int .u8 40), .lit (.int .u8 15), .lit (.int .u8 34), .lit (.int .u8 20), .lit (.int .u8 31), .lit (.int .u8 10), .lit (.int .u8 25), .lit (.int .u8 14), .lit (.int .u8 19), .lit (.int .u8 9), .lit (.int .u8 13), .lit (.int .u8 8), .lit (.int .u8 7), .lit (.int .u8 6)]
def laid_internal_strconv_uint64pow10 {H : Type} : DataW H := .agg [.lit (.int .u64 1), .lit (.int .u64 10), .lit (.int .u64 100), .lit (.int .u64 1000), .lit (.int .u64 10000), .lit (.int .u64 100000), .lit (.int .u64 1000000), .lit (.int .u64 10000000), .lit (.int .u64 100000000), .lit (.int .u64 1000000000), .lit (.int .u64 10000000000), .lit (.int .u64 100000000000), .lit (.int .u64 1000000000000), .lit (.int .u64 10000000000000), .lit (.int .u64 100000000000000), .lit (.int .u64 1000000000000000), .lit (.int .u64 10000000000000000), .lit (.int .u64 100000000000000000), .lit (.int .u64 1000000000000000000), .lit (.int .u64 10000000000000000000)]
def laid_strconv_ErrRange {H : Type} : DataW H := .iface "*errors.errorString" (.ptr (.agg [.lit (.string [118, 97, 108, 117, 101, 32, 111, 117, 116, 32, 111, 102, 32, 114, 97, 110, 103, 101])]))
def laid_strconv_ErrSyntax {H : Type} : DataW H := .iface "*errors.errorString" (.ptr (.agg [.lit (.string [105, 110, 118, 97, 108, 105, 100, 32, 115, 121, 110, 116, 97, 120])]))
def laid_unicode_utf8_acceptRanges {H : Type} : DataW H := .agg [.agg [.lit (.int .u8 128), .lit (.int .u8 191)], .agg [.lit (.int .u8 160), .lit (.int .u8 191)], .agg [.lit (.int .u8 128), .lit (.int .u8 159)], .agg [.lit (.int .u8 144), .lit (.int .u8 191)], .agg [.lit (.int .u8 128), .lit (.int .u8 143)], .agg [.lit (.int .u8 0), .lit (.int .u8 0)], .agg [.lit (.int .u8 0), .lit (.int .u8 0)], .agg [.lit (.int .u8 0), .lit (.int .u8 0)], .agg [.lit (.int .u8 0), .lit (.int .u8 0)], .agg [.lit (.int .u8 0), .lit (.int .u8 0)], .agg [.lit (.int .u8 0), .lit (.int .u8 0)], .agg [.lit (.int .u8 0), .lit (.int .u8 0)], .agg [.lit (.int .u8 0), .lit (.int .u8 0)], .agg [.lit (.int .u8 0), .lit (.int .u8 0)], .agg [.lit (.int .u8 0), .lit (.int .u8 0)], .agg [.lit (.int .u8 0), .lit (.int .u8 0)]]
/-- One of Go's own tables, pinned by name: the form's constant. -/
def laid_unicode_utf8_first : DataW Unit := Go.Pinned.utf8First

/-- 'laws.FnExactFormatInt': WHATEVER THE INPUT: true; the input reads as it did. -/
def fnExactFormatIntSpec : ChangeSpec := { name := "fnExactFormatInt", fn := fun _ => fun
  | [d] => { results := [.lit (.bool true)], args := [d] }
  | _ => none }
def fnExactFormatIntRow : OpenClaim := { program := "ytpodbdmeamgpgaadoor", sum := "c9c99d1111ce6ca4ea982a0360dc78147d6a2b5d1a119ba0695017167de99fbc", func := "loop.example/g03014/laws.FnExactFormatInt", spec := "fnExactFormatInt", named := ["internal/strconv.uint64pow10", "math/bits.deBruijn32tab", "math/bits.deBruijn64tab"], apart := false, laid := [("math/bits.deBruijn32tab", laid_math_bits_deBruijn32tab), ("math/bits.deBruijn64tab", laid_math_bits_deBruijn64tab), ("internal/strconv.uint64pow10", laid_internal_strconv_uint64pow10)] }
def FnExactFormatIntSaid : Prop := fnExactFormatIntRow.holds Tryd.pinned (OpenSpec.ofChange fnExactFormatIntSpec)

/-- ITS FALSE NEIGHBOUR: 'it returns false'. Refute it at one input. -/
def fnExactFormatIntWrong : ChangeSpec := { name := "fnExactFormatInt", fn := fun _ => fun
  | [d] => { results := [.lit (.bool false)], args := [d] }
  | _ => none }
def FnExactFormatIntWrongFalsely : Prop := fnExactFormatIntRow.holds Tryd.pinned (OpenSpec.ofChange fnExactFormatIntWrong)

/-- 'laws.FnExactDigits': WHATEVER THE INPUT: true; the input reads as it did. -/
def fnExactDigitsSpec : ChangeSpec := { name := "fnExactDigits", fn := fun _ => fun
  | [d] => { results := [.lit (.bool true)], args := [d] }
  | _ => none }
def fnExactDigitsRow : OpenClaim := { program := "ytpodbdmeamgpgaadoor", sum := "c9c99d1111ce6ca4ea982a0360dc78147d6a2b5d1a119ba0695017167de99fbc", func := "loop.example/g03014/laws.FnExactDigits", spec := "fnExactDigits", inPlace := ["internal/abi.NoEscape"], named := ["internal/strconv.uint64pow10", "math/bits.deBruijn32tab", "math/bits.deBruijn64tab"], apart := false, laid := [("math/bits.deBruijn32tab", laid_math_bits_deBruijn32tab), ("math/bits.deBruijn64tab", laid_math_bits_deBruijn64tab), ("internal/strconv.uint64pow10", laid_internal_strconv_uint64pow10)] }
def FnExactDigitsSaid : Prop := fnExactDigitsRow.holds Tryd.pinned (OpenSpec.ofChange fnExactDigitsSpec)

/-- ITS FALSE NEIGHBOUR: 'it returns false'. Refute it at one input. -/
def fnExactDigitsWrong : ChangeSpec := { name := "fnExactDigits", fn := fun _ => fun
  | [d] => { results := [.lit (.bool false)], args := [d] }
  | _ => none }
def FnExactDigitsWrongFalsely : Prop := fnExactDigitsRow.holds Tryd.pinned (OpenSpec.ofChange fnExactDigitsWrong)

/-- 'laws.FnExactFormatTime': WHATEVER THE INPUT: true; the input reads as it did. -/
def fnExactFormatTimeSpec : ChangeSpec := { name := "fnExactFormatTime", fn := fun _ => fun
  | [d] => { results := [.lit (.bool true)], args := [d] }
  | _ => none }
def fnExactFormatTimeRow : OpenClaim := { program := "ytpodbdmeamgpgaadoor", sum := "c9c99d1111ce6ca4ea982a0360dc78147d6a2b5d1a119ba0695017167de99fbc", func := "loop.example/g03014/laws.FnExactFormatTime", spec := "fnExactFormatTime", inPlace := ["internal/abi.NoEscape", "internal/bytealg.MakeNoZero"], named := ["internal/strconv.uint64pow10", "math/bits.deBruijn32tab", "math/bits.deBruijn64tab"], apart := false, laid := [("math/bits.deBruijn32tab", laid_math_bits_deBruijn32tab), ("math/bits.deBruijn64tab", laid_math_bits_deBruijn64tab), ("internal/strconv.uint64pow10", laid_internal_strconv_uint64pow10)] }
def FnExactFormatTimeSaid : Prop := fnExactFormatTimeRow.holds Tryd.pinned (OpenSpec.ofChange fnExactFormatTimeSpec)

/-- ITS FALSE NEIGHBOUR: 'it returns false'. Refute it at one input. -/
def fnExactFormatTimeWrong : ChangeSpec := { name := "fnExactFormatTime", fn := fun _ => fun
  | [d] => { results := [.lit (.bool false)], args := [d] }
  | _ => none }
def FnExactFormatTimeWrongFalsely : Prop := fnExactFormatTimeRow.holds Tryd.pinned (OpenSpec.ofChange fnExactFormatTimeWrong)

/-- 'laws.FnExactFormatLeg': WHATEVER THE INPUT: true; the input reads as it did. -/
def fnExactFormatLegSpec : ChangeSpec := { name := "fnExactFormatLeg", fn := fun _ => fun
  | [d] => { results := [.lit (.bool true)], args := [d] }
  | _ => none }
def fnExactFormatLegRow : OpenClaim := { program := "ytpodbdmeamgpgaadoor", sum := "c9c99d1111ce6ca4ea982a0360dc78147d6a2b5d1a119ba0695017167de99fbc", func := "loop.example/g03014/laws.FnExactFormatLeg", spec := "fnExactFormatLeg", inPlace := ["internal/abi.NoEscape", "internal/bytealg.MakeNoZero"], named := ["internal/strconv.uint64pow10", "math/bits.deBruijn32tab", "math/bits.deBruijn64tab"], apart := false, laid := [("math/bits.deBruijn32tab", laid_math_bits_deBruijn32tab), ("math/bits.deBruijn64tab", laid_math_bits_deBruijn64tab), ("internal/strconv.uint64pow10", laid_internal_strconv_uint64pow10)] }
def FnExactFormatLegSaid : Prop := fnExactFormatLegRow.holds Tryd.pinned (OpenSpec.ofChange fnExactFormatLegSpec)

/-- ITS FALSE NEIGHBOUR: 'it returns false'. Refute it at one input. -/
def fnExactFormatLegWrong : ChangeSpec := { name := "fnExactFormatLeg", fn := fun _ => fun
  | [d] => { results := [.lit (.bool false)], args := [d] }
  | _ => none }
def FnExactFormatLegWrongFalsely : Prop := fnExactFormatLegRow.holds Tryd.pinned (OpenSpec.ofChange fnExactFormatLegWrong)

/-- 'laws.FnExactCheckOf': WHATEVER THE INPUT: true; the input reads as it did. -/
def fnExactCheckOfSpec : ChangeSpec := { name := "fnExactCheckOf", fn := fun _ => fun
  | [d] => { results := [.lit (.bool true)], args := [d] }
  | _ => none }
def fnExactCheckOfRow : OpenClaim := { program := "ytpodbdmeamgpgaadoor", sum := "c9c99d1111ce6ca4ea982a0360dc78147d6a2b5d1a119ba0695017167de99fbc", func := "loop.example/g03014/laws.FnExactCheckOf", spec := "fnExactCheckOf", inPlace := ["internal/abi.NoEscape", "internal/bytealg.MakeNoZero"], named := ["internal/strconv.uint64pow10", "math/bits.deBruijn32tab", "math/bits.deBruijn64tab"], apart := false, laid := [("math/bits.deBruijn32tab", laid_math_bits_deBruijn32tab), ("math/bits.deBruijn64tab", laid_math_bits_deBruijn64tab), ("internal/strconv.uint64pow10", laid_internal_strconv_uint64pow10)] }
def FnExactCheckOfSaid : Prop := fnExactCheckOfRow.holds Tryd.pinned (OpenSpec.ofChange fnExactCheckOfSpec)

/-- ITS FALSE NEIGHBOUR: 'it returns false'. Refute it at one input. -/
def fnExactCheckOfWrong : ChangeSpec := { name := "fnExactCheckOf", fn := fun _ => fun
  | [d] => { results := [.lit (.bool false)], args := [d] }
  | _ => none }
def FnExactCheckOfWrongFalsely : Prop := fnExactCheckOfRow.holds Tryd.pinned (OpenSpec.ofChange fnExactCheckOfWrong)

/-- 'laws.FnExactFormatLabel': WHATEVER THE INPUT: true; the input reads as it did. -/
def fnExactFormatLabelSpec : ChangeSpec := { name := "fnExactFormatLabel", fn := fun _ => fun
  | [d] => { results := [.lit (.bool true)], args := [d] }
  | _ => none }
def fnExactFormatLabelRow : OpenClaim := { program := "ytpodbdmeamgpgaadoor", sum := "c9c99d1111ce6ca4ea982a0360dc78147d6a2b5d1a119ba0695017167de99fbc", func := "loop.example/g03014/laws.FnExactFormatLabel", spec := "fnExactFormatLabel", inPlace := ["internal/abi.NoEscape", "internal/bytealg.MakeNoZero"], named := ["internal/strconv.uint64pow10", "math/bits.deBruijn32tab", "math/bits.deBruijn64tab"], apart := false, laid := [("math/bits.deBruijn32tab", laid_math_bits_deBruijn32tab), ("math/bits.deBruijn64tab", laid_math_bits_deBruijn64tab), ("internal/strconv.uint64pow10", laid_internal_strconv_uint64pow10)] }
def FnExactFormatLabelSaid : Prop := fnExactFormatLabelRow.holds Tryd.pinned (OpenSpec.ofChange fnExactFormatLabelSpec)

/-- ITS FALSE NEIGHBOUR: 'it returns false'. Refute it at one input. -/
def fnExactFormatLabelWrong : ChangeSpec := { name := "fnExactFormatLabel", fn := fun _ => fun
  | [d] => { results := [.lit (.bool false)], args := [d] }
  | _ => none }
def FnExactFormatLabelWrongFalsely : Prop := fnExactFormatLabelRow.holds Tryd.pinned (OpenSpec.ofChange fnExactFormatLabelWrong)

/-- 'laws.FnExactParseInt': WHATEVER THE INPUT: true; the input reads as it did. -/
def fnExactParseIntSpec : ChangeSpec := { name := "fnExactParseInt", fn := fun _ => fun
  | [d] => { results := [.lit (.bool true)], args := [d] }
  | _ => none }
def fnExactParseIntRow : OpenClaim := { program := "ytpodbdmeamgpgaadoor", sum := "c9c99d1111ce6ca4ea982a0360dc78147d6a2b5d1a119ba0695017167de99fbc", func := "loop.example/g03014/laws.FnExactParseInt", spec := "fnExactParseInt", named := ["strconv.ErrSyntax", "strconv.ErrRange", "internal/strconv.uint64pow10", "math/bits.deBruijn32tab", "math/bits.deBruijn64tab"], apart := false, laid := [("math/bits.deBruijn32tab", laid_math_bits_deBruijn32tab), ("math/bits.deBruijn64tab", laid_math_bits_deBruijn64tab), ("internal/strconv.uint64pow10", laid_internal_strconv_uint64pow10), ("strconv.ErrRange", laid_strconv_ErrRange), ("strconv.ErrSyntax", laid_strconv_ErrSyntax)] }
def FnExactParseIntSaid : Prop := fnExactParseIntRow.holds Tryd.pinned (OpenSpec.ofChange fnExactParseIntSpec)

/-- ITS FALSE NEIGHBOUR: 'it returns false'. Refute it at one input. -/
def fnExactParseIntWrong : ChangeSpec := { name := "fnExactParseInt", fn := fun _ => fun
  | [d] => { results := [.lit (.bool false)], args := [d] }
  | _ => none }
def FnExactParseIntWrongFalsely : Prop := fnExactParseIntRow.holds Tryd.pinned (OpenSpec.ofChange fnExactParseIntWrong)

/-- 'laws.FnRemainder': WHATEVER THE INPUT: true; the input reads as it did. -/
def fnRemainderSpec : ChangeSpec := { name := "fnRemainder", fn := fun _ => fun
  | [d] => { results := [.lit (.bool true)], args := [d] }
  | _ => none }
def fnRemainderRow : OpenClaim := { program := "ytpodbdmeamgpgaadoor", sum := "c9c99d1111ce6ca4ea982a0360dc78147d6a2b5d1a119ba0695017167de99fbc", func := "loop.example/g03014/laws.FnRemainder", spec := "fnRemainder", named := ["internal/strconv.uint64pow10", "math/bits.deBruijn32tab", "math/bits.deBruijn64tab", "strconv.ErrSyntax", "strconv.ErrRange"], apart := false, laid := [("math/bits.deBruijn32tab", laid_math_bits_deBruijn32tab), ("math/bits.deBruijn64tab", laid_math_bits_deBruijn64tab), ("internal/strconv.uint64pow10", laid_internal_strconv_uint64pow10), ("strconv.ErrRange", laid_strconv_ErrRange), ("strconv.ErrSyntax", laid_strconv_ErrSyntax)] }
def FnRemainderSaid : Prop := fnRemainderRow.holds Tryd.pinned (OpenSpec.ofChange fnRemainderSpec)

/-- ITS FALSE NEIGHBOUR: 'it returns false'. Refute it at one input. -/
def fnRemainderWrong : ChangeSpec := { name := "fnRemainder", fn := fun _ => fun
  | [d] => { results := [.lit (.bool false)], args := [d] }
  | _ => none }
def FnRemainderWrongFalsely : Prop := fnRemainderRow.holds Tryd.pinned (OpenSpec.ofChange fnRemainderWrong)

/-- 'laws.FnLabelRead': WHATEVER THE INPUT: true; the input reads as it did. -/
def fnLabelReadSpec : ChangeSpec := { name := "fnLabelRead", fn := fun _ => fun
  | [d] => { results := [.lit (.bool true)], args := [d] }
  | _ => none }
def fnLabelReadRow : OpenClaim := { program := "ytpodbdmeamgpgaadoor", sum := "c9c99d1111ce6ca4ea982a0360dc78147d6a2b5d1a119ba0695017167de99fbc", func := "loop.example/g03014/laws.FnLabelRead", spec := "fnLabelRead", inPlace := ["internal/abi.NoEscape", "internal/bytealg.MakeNoZero"], named := ["internal/strconv.uint64pow10", "math/bits.deBruijn32tab", "math/bits.deBruijn64tab", "strconv.ErrSyntax", "strconv.ErrRange"], apart := false, laid := [("math/bits.deBruijn32tab", laid_math_bits_deBruijn32tab), ("math/bits.deBruijn64tab", laid_math_bits_deBruijn64tab), ("internal/strconv.uint64pow10", laid_internal_strconv_uint64pow10), ("strconv.ErrRange", laid_strconv_ErrRange), ("strconv.ErrSyntax", laid_strconv_ErrSyntax)] }
def FnLabelReadSaid : Prop := fnLabelReadRow.holds Tryd.pinned (OpenSpec.ofChange fnLabelReadSpec)

/-- ITS FALSE NEIGHBOUR: 'it returns false'. Refute it at one input. -/
def fnLabelReadWrong : ChangeSpec := { name := "fnLabelRead", fn := fun _ => fun
  | [d] => { results := [.lit (.bool false)], args := [d] }
  | _ => none }
def FnLabelReadWrongFalsely : Prop := fnLabelReadRow.holds Tryd.pinned (OpenSpec.ofChange fnLabelReadWrong)

/-- 'laws.FnExactParseLabel': WHATEVER THE INPUT: true; the input reads as it did. -/
def fnExactParseLabelSpec : ChangeSpec := { name := "fnExactParseLabel", fn := fun _ => fun
  | [d] => { results := [.lit (.bool true)], args := [d] }
  | _ => none }
def fnExactParseLabelRow : OpenClaim := { program := "ytpodbdmeamgpgaadoor", sum := "c9c99d1111ce6ca4ea982a0360dc78147d6a2b5d1a119ba0695017167de99fbc", func := "loop.example/g03014/laws.FnExactParseLabel", spec := "fnExactParseLabel", inPlace := ["internal/abi.NoEscape", "internal/bytealg.MakeNoZero"], named := ["strconv.ErrSyntax", "strconv.ErrRange", "internal/strconv.uint64pow10", "math/bits.deBruijn32tab", "math/bits.deBruijn64tab"], apart := false, laid := [("math/bits.deBruijn32tab", laid_math_bits_deBruijn32tab), ("math/bits.deBruijn64tab", laid_math_bits_deBruijn64tab), ("internal/strconv.uint64pow10", laid_internal_strconv_uint64pow10), ("strconv.ErrRange", laid_strconv_ErrRange), ("strconv.ErrSyntax", laid_strconv_ErrSyntax)] }
def FnExactParseLabelSaid : Prop := fnExactParseLabelRow.holds Tryd.pinned (OpenSpec.ofChange fnExactParseLabelSpec)

/-- ITS FALSE NEIGHBOUR: 'it returns false'. Refute it at one input. -/
def fnExactParseLabelWrong : ChangeSpec := { name := "fnExactParseLabel", fn := fun _ => fun
  | [d] => { results := [.lit (.bool false)], args := [d] }
  | _ => none }
def FnExactParseLabelWrongFalsely : Prop := fnExactParseLabelRow.holds Tryd.pinned (OpenSpec.ofChange fnExactParseLabelWrong)

/-- 'laws.FnOneChange': WHATEVER THE INPUT: true; the input reads as it did. -/
def fnOneChangeSpec : ChangeSpec := { name := "fnOneChange", fn := fun _ => fun
  | [d] => { results := [.lit (.bool true)], args := [d] }
  | _ => none }
def fnOneChangeRow : OpenClaim := { program := "ytpodbdmeamgpgaadoor", sum := "c9c99d1111ce6ca4ea982a0360dc78147d6a2b5d1a119ba0695017167de99fbc", func := "loop.example/g03014/laws.FnOneChange", spec := "fnOneChange", inPlace := ["internal/abi.NoEscape", "internal/bytealg.MakeNoZero"], named := ["strconv.ErrSyntax", "strconv.ErrRange", "internal/strconv.uint64pow10", "math/bits.deBruijn32tab", "math/bits.deBruijn64tab"], apart := false, laid := [("math/bits.deBruijn32tab", laid_math_bits_deBruijn32tab), ("math/bits.deBruijn64tab", laid_math_bits_deBruijn64tab), ("internal/strconv.uint64pow10", laid_internal_strconv_uint64pow10), ("strconv.ErrRange", laid_strconv_ErrRange), ("strconv.ErrSyntax", laid_strconv_ErrSyntax)] }
def FnOneChangeSaid : Prop := fnOneChangeRow.holds Tryd.pinned (OpenSpec.ofChange fnOneChangeSpec)

/-- ITS FALSE NEIGHBOUR: 'it returns false'. Refute it at one input. -/
def fnOneChangeWrong : ChangeSpec := { name := "fnOneChange", fn := fun _ => fun
  | [d] => { results := [.lit (.bool false)], args := [d] }
  | _ => none }
def FnOneChangeWrongFalsely : Prop := fnOneChangeRow.holds Tryd.pinned (OpenSpec.ofChange fnOneChangeWrong)

/-- 'laws.FnExactParseTime': WHATEVER THE INPUT: true; the input reads as it did. -/
def fnExactParseTimeSpec : ChangeSpec := { name := "fnExactParseTime", fn := fun _ => fun
  | [d] => { results := [.lit (.bool true)], args := [d] }
  | _ => none }
def fnExactParseTimeRow : OpenClaim := { program := "ytpodbdmeamgpgaadoor", sum := "c9c99d1111ce6ca4ea982a0360dc78147d6a2b5d1a119ba0695017167de99fbc", func := "loop.example/g03014/laws.FnExactParseTime", spec := "fnExactParseTime", inPlace := ["internal/bytealg.IndexByteString", "internal/bytealg.IndexString", "internal/abi.NoEscape", "internal/bytealg.MakeNoZero"], named := ["internal/bytealg.MaxLen", "strconv.ErrSyntax", "strconv.ErrRange", "internal/strconv.uint64pow10", "math/bits.deBruijn32tab", "math/bits.deBruijn64tab"], apart := false, laid := [("math/bits.deBruijn32tab", laid_math_bits_deBruijn32tab), ("math/bits.deBruijn64tab", laid_math_bits_deBruijn64tab), ("internal/strconv.uint64pow10", laid_internal_strconv_uint64pow10), ("strconv.ErrRange", laid_strconv_ErrRange), ("strconv.ErrSyntax", laid_strconv_ErrSyntax)] }
def FnExactParseTimeSaid : Prop := fnExactParseTimeRow.holds Tryd.pinned (OpenSpec.ofChange fnExactParseTimeSpec)

/-- ITS FALSE NEIGHBOUR: 'it returns false'. Refute it at one input. -/
def fnExactParseTimeWrong : ChangeSpec := { name := "fnExactParseTime", fn := fun _ => fun
  | [d] => { results := [.lit (.bool false)], args := [d] }
  | _ => none }
def FnExactParseTimeWrongFalsely : Prop := fnExactParseTimeRow.holds Tryd.pinned (OpenSpec.ofChange fnExactParseTimeWrong)

/-- 'laws.FnOneSwap': WHATEVER THE INPUT: true; the input reads as it did. -/
def fnOneSwapSpec : ChangeSpec := { name := "fnOneSwap", fn := fun _ => fun
  | [d] => { results := [.lit (.bool true)], args := [d] }
  | _ => none }
def fnOneSwapRow : OpenClaim := { program := "ytpodbdmeamgpgaadoor", sum := "c9c99d1111ce6ca4ea982a0360dc78147d6a2b5d1a119ba0695017167de99fbc", func := "loop.example/g03014/laws.FnOneSwap", spec := "fnOneSwap", inPlace := ["internal/abi.NoEscape", "internal/bytealg.MakeNoZero"], named := ["strconv.ErrSyntax", "strconv.ErrRange", "internal/strconv.uint64pow10", "math/bits.deBruijn32tab", "math/bits.deBruijn64tab"], apart := false, laid := [("math/bits.deBruijn32tab", laid_math_bits_deBruijn32tab), ("math/bits.deBruijn64tab", laid_math_bits_deBruijn64tab), ("internal/strconv.uint64pow10", laid_internal_strconv_uint64pow10), ("strconv.ErrRange", laid_strconv_ErrRange), ("strconv.ErrSyntax", laid_strconv_ErrSyntax)] }
def FnOneSwapSaid : Prop := fnOneSwapRow.holds Tryd.pinned (OpenSpec.ofChange fnOneSwapSpec)

/-- ITS FALSE NEIGHBOUR: 'it returns false'. Refute it at one input. -/
def fnOneSwapWrong : ChangeSpec := { name := "fnOneSwap", fn := fun _ => fun
  | [d] => { results := [.lit (.bool false)], args := [d] }
  | _ => none }
def FnOneSwapWrongFalsely : Prop := fnOneSwapRow.holds Tryd.pinned (OpenSpec.ofChange fnOneSwapWrong)

/-- 'laws.FnExactAmended': WHATEVER THE INPUT: true; the input reads as it did. -/
def fnExactAmendedSpec : ChangeSpec := { name := "fnExactAmended", fn := fun _ => fun
  | [d] => { results := [.lit (.bool true)], args := [d] }
  | _ => none }
def fnExactAmendedRow : OpenClaim := { program := "ytpodbdmeamgpgaadoor", sum := "c9c99d1111ce6ca4ea982a0360dc78147d6a2b5d1a119ba0695017167de99fbc", func := "loop.example/g03014/laws.FnExactAmended", spec := "fnExactAmended", inPlace := ["internal/abi.NoEscape", "internal/bytealg.MakeNoZero"], named := ["strconv.ErrSyntax", "strconv.ErrRange", "internal/strconv.uint64pow10", "math/bits.deBruijn32tab", "math/bits.deBruijn64tab"], apart := false, laid := [("math/bits.deBruijn32tab", laid_math_bits_deBruijn32tab), ("math/bits.deBruijn64tab", laid_math_bits_deBruijn64tab), ("internal/strconv.uint64pow10", laid_internal_strconv_uint64pow10), ("strconv.ErrRange", laid_strconv_ErrRange), ("strconv.ErrSyntax", laid_strconv_ErrSyntax)] }
def FnExactAmendedSaid : Prop := fnExactAmendedRow.holds Tryd.pinned (OpenSpec.ofChange fnExactAmendedSpec)

/-- ITS FALSE NEIGHBOUR: 'it returns false'. Refute it at one input. -/
def fnExactAmendedWrong : ChangeSpec := { name := "fnExactAmended", fn := fun _ => fun
  | [d] => { results := [.lit (.bool false)], args := [d] }
  | _ => none }
def FnExactAmendedWrongFalsely : Prop := fnExactAmendedRow.holds Tryd.pinned (OpenSpec.ofChange fnExactAmendedWrong)

/-- 'laws.FnAmended': WHATEVER THE INPUT: true; the input reads as it did. -/
def fnAmendedSpec : ChangeSpec := { name := "fnAmended", fn := fun _ => fun
  | [d] => { results := [.lit (.bool true)], args := [d] }
  | _ => none }
def fnAmendedRow : OpenClaim := { program := "ytpodbdmeamgpgaadoor", sum := "c9c99d1111ce6ca4ea982a0360dc78147d6a2b5d1a119ba0695017167de99fbc", func := "loop.example/g03014/laws.FnAmended", spec := "fnAmended", inPlace := ["internal/abi.NoEscape", "internal/bytealg.MakeNoZero"], named := ["strconv.ErrSyntax", "strconv.ErrRange", "internal/strconv.uint64pow10", "math/bits.deBruijn32tab", "math/bits.deBruijn64tab"], apart := false, laid := [("math/bits.deBruijn32tab", laid_math_bits_deBruijn32tab), ("math/bits.deBruijn64tab", laid_math_bits_deBruijn64tab), ("internal/strconv.uint64pow10", laid_internal_strconv_uint64pow10), ("strconv.ErrRange", laid_strconv_ErrRange), ("strconv.ErrSyntax", laid_strconv_ErrSyntax)] }
def FnAmendedSaid : Prop := fnAmendedRow.holds Tryd.pinned (OpenSpec.ofChange fnAmendedSpec)

/-- ITS FALSE NEIGHBOUR: 'it returns false'. Refute it at one input. -/
def fnAmendedWrong : ChangeSpec := { name := "fnAmended", fn := fun _ => fun
  | [d] => { results := [.lit (.bool false)], args := [d] }
  | _ => none }
def FnAmendedWrongFalsely : Prop := fnAmendedRow.holds Tryd.pinned (OpenSpec.ofChange fnAmendedWrong)

/-- 'laws.FnTimeRead': WHATEVER THE INPUT: true; the input reads as it did. -/
def fnTimeReadSpec : ChangeSpec := { name := "fnTimeRead", fn := fun _ => fun
  | [d] => { results := [.lit (.bool true)], args := [d] }
  | _ => none }
def fnTimeReadRow : OpenClaim := { program := "ytpodbdmeamgpgaadoor", sum := "c9c99d1111ce6ca4ea982a0360dc78147d6a2b5d1a119ba0695017167de99fbc", func := "loop.example/g03014/laws.FnTimeRead", spec := "fnTimeRead", inPlace := ["internal/abi.NoEscape", "internal/bytealg.MakeNoZero", "internal/bytealg.IndexByteString", "internal/bytealg.IndexString", "internal/bytealg.CountString"], named := ["internal/strconv.uint64pow10", "math/bits.deBruijn32tab", "math/bits.deBruijn64tab", "internal/bytealg.MaxLen", "strconv.ErrSyntax", "strconv.ErrRange", "unicode/utf8.first", "unicode/utf8.acceptRanges"], apart := false, laid := [("math/bits.deBruijn32tab", laid_math_bits_deBruijn32tab), ("math/bits.deBruijn64tab", laid_math_bits_deBruijn64tab), ("internal/strconv.uint64pow10", laid_internal_strconv_uint64pow10), ("unicode/utf8.acceptRanges", laid_unicode_utf8_acceptRanges), ("strconv.ErrRange", laid_strconv_ErrRange), ("strconv.ErrSyntax", laid_strconv_ErrSyntax), ("unicode/utf8.first", laid_unicode_utf8_first)] }
def FnTimeReadSaid : Prop := fnTimeReadRow.holds Tryd.pinned (OpenSpec.ofChange fnTimeReadSpec)

/-- ITS FALSE NEIGHBOUR: 'it returns false'. Refute it at one input. -/
def fnTimeReadWrong : ChangeSpec := { name := "fnTimeRead", fn := fun _ => fun
  | [d] => { results := [.lit (.bool false)], args := [d] }
  | _ => none }
def FnTimeReadWrongFalsely : Prop := fnTimeReadRow.holds Tryd.pinned (OpenSpec.ofChange fnTimeReadWrong)

/-- 'laws.FnExactParseLeg': WHATEVER THE INPUT: true; the input reads as it did. -/
def fnExactParseLegSpec : ChangeSpec := { name := "fnExactParseLeg", fn := fun _ => fun
  | [d] => { results := [.lit (.bool true)], args := [d] }
  | _ => none }
def fnExactParseLegRow : OpenClaim := { program := "ytpodbdmeamgpgaadoor", sum := "c9c99d1111ce6ca4ea982a0360dc78147d6a2b5d1a119ba0695017167de99fbc", func := "loop.example/g03014/laws.FnExactParseLeg", spec := "fnExactParseLeg", inPlace := ["internal/bytealg.CountString", "internal/bytealg.IndexByteString", "internal/bytealg.IndexString", "internal/abi.NoEscape", "internal/bytealg.MakeNoZero"], named := ["unicode/utf8.first", "unicode/utf8.acceptRanges", "internal/bytealg.MaxLen", "internal/strconv.uint64pow10", "math/bits.deBruijn32tab", "math/bits.deBruijn64tab", "strconv.ErrSyntax", "strconv.ErrRange"], apart := false, laid := [("math/bits.deBruijn32tab", laid_math_bits_deBruijn32tab), ("math/bits.deBruijn64tab", laid_math_bits_deBruijn64tab), ("internal/strconv.uint64pow10", laid_internal_strconv_uint64pow10), ("unicode/utf8.acceptRanges", laid_unicode_utf8_acceptRanges), ("strconv.ErrRange", laid_strconv_ErrRange), ("strconv.ErrSyntax", laid_strconv_ErrSyntax), ("unicode/utf8.first", laid_unicode_utf8_first)] }
def FnExactParseLegSaid : Prop := fnExactParseLegRow.holds Tryd.pinned (OpenSpec.ofChange fnExactParseLegSpec)

/-- ITS FALSE NEIGHBOUR: 'it returns false'. Refute it at one input. -/
def fnExactParseLegWrong : ChangeSpec := { name := "fnExactParseLeg", fn := fun _ => fun
  | [d] => { results := [.lit (.bool false)], args := [d] }
  | _ => none }
def FnExactParseLegWrongFalsely : Prop := fnExactParseLegRow.holds Tryd.pinned (OpenSpec.ofChange fnExactParseLegWrong)

/- THE SECOND FORM. 'bulk': how many values and letters a reading holds, each counted each time it is reached (what is shared counts as often as it is met; a slice's spare places count too). A statement '..UptoSaid' is the law's where the arguments, and the package variables that the reading takes, are together of bulk at most 1048576: NARROWER than '..Said'. Prove '..Said' where nothing that the law and all that it calls make is longer than what came in: it says more and counts as full. Else prove '..UptoSaid'. A law counts once. -/
mutual
def uptoBulk {H : Type} : DataW H → Nat
  | .lit (.string bytes) => bytes.length + 1
  | .lit _ => 1
  | .nil => 1
  | .ptr d => uptoBulk d + 1
  | .slice elems spare => uptoBulkAll elems + uptoBulkAll spare + 1
  | .agg parts => uptoBulkAll parts + 1
  | .iface _ d => uptoBulk d + 1
  | .map entries => uptoBulkEntries entries + 1
  | .held _ => 1
def uptoBulkAll {H : Type} : List (DataW H) → Nat
  | [] => 0
  | d :: r => uptoBulk d + uptoBulkAll r
def uptoBulkEntries {H : Type} : List (Lit × DataW H) → Nat
  | [] => 0
  | x :: r => uptoBulkEntry x + uptoBulkEntries r
def uptoBulkEntry {H : Type} : Lit × DataW H → Nat
  | (.string bytes, d) => bytes.length + uptoBulk d + 1
  | (_, d) => uptoBulk d + 1
 end
def uptoSmall : (H : Type) → List (DataW H) → Bool := fun _ ds => decide (uptoBulkAll ds ≤ 1048576)
def OpenSpec.upto (s : _root_.Go.ChangeSpec) : _root_.Go.OpenSpec := { _root_.Go.OpenSpec.ofChange s with cond := some uptoSmall }

/-- 'laws.FnExactFormatInt', WHERE WHAT IT READS IS OF BULK AT MOST 1048576: true; the input reads as it did. -/
def fnExactFormatIntUptoRow : OpenClaim := { program := "ytpodbdmeamgpgaadoor", sum := "c9c99d1111ce6ca4ea982a0360dc78147d6a2b5d1a119ba0695017167de99fbc", func := "loop.example/g03014/laws.FnExactFormatInt", spec := "fnExactFormatInt", named := ["internal/strconv.uint64pow10", "math/bits.deBruijn32tab", "math/bits.deBruijn64tab"], apart := false, laid := [("math/bits.deBruijn32tab", laid_math_bits_deBruijn32tab), ("math/bits.deBruijn64tab", laid_math_bits_deBruijn64tab), ("internal/strconv.uint64pow10", laid_internal_strconv_uint64pow10)], narrowed := true }
def FnExactFormatIntUptoSaid : Prop := fnExactFormatIntUptoRow.holds Tryd.pinned (OpenSpec.upto fnExactFormatIntSpec)

/-- 'laws.FnExactDigits', WHERE WHAT IT READS IS OF BULK AT MOST 1048576: true; the input reads as it did. -/
def fnExactDigitsUptoRow : OpenClaim := { program := "ytpodbdmeamgpgaadoor", sum := "c9c99d1111ce6ca4ea982a0360dc78147d6a2b5d1a119ba0695017167de99fbc", func := "loop.example/g03014/laws.FnExactDigits", spec := "fnExactDigits", inPlace := ["internal/abi.NoEscape"], named := ["internal/strconv.uint64pow10", "math/bits.deBruijn32tab", "math/bits.deBruijn64tab"], apart := false, laid := [("math/bits.deBruijn32tab", laid_math_bits_deBruijn32tab), ("math/bits.deBruijn64tab", laid_math_bits_deBruijn64tab), ("internal/strconv.uint64pow10", laid_internal_strconv_uint64pow10)], narrowed := true }
def FnExactDigitsUptoSaid : Prop := fnExactDigitsUptoRow.holds Tryd.pinned (OpenSpec.upto fnExactDigitsSpec)

/-- 'laws.FnExactFormatTime', WHERE WHAT IT READS IS OF BULK AT MOST 1048576: true; the input reads as it did. -/
def fnExactFormatTimeUptoRow : OpenClaim := { program := "ytpodbdmeamgpgaadoor", sum := "c9c99d1111ce6ca4ea982a0360dc78147d6a2b5d1a119ba0695017167de99fbc", func := "loop.example/g03014/laws.FnExactFormatTime", spec := "fnExactFormatTime", inPlace := ["internal/abi.NoEscape", "internal/bytealg.MakeNoZero"], named := ["internal/strconv.uint64pow10", "math/bits.deBruijn32tab", "math/bits.deBruijn64tab"], apart := false, laid := [("math/bits.deBruijn32tab", laid_math_bits_deBruijn32tab), ("math/bits.deBruijn64tab", laid_math_bits_deBruijn64tab), ("internal/strconv.uint64pow10", laid_internal_strconv_uint64pow10)], narrowed := true }
def FnExactFormatTimeUptoSaid : Prop := fnExactFormatTimeUptoRow.holds Tryd.pinned (OpenSpec.upto fnExactFormatTimeSpec)

/-- 'laws.FnExactFormatLeg', WHERE WHAT IT READS IS OF BULK AT MOST 1048576: true; the input reads as it did. -/
def fnExactFormatLegUptoRow : OpenClaim := { program := "ytpodbdmeamgpgaadoor", sum := "c9c99d1111ce6ca4ea982a0360dc78147d6a2b5d1a119ba0695017167de99fbc", func := "loop.example/g03014/laws.FnExactFormatLeg", spec := "fnExactFormatLeg", inPlace := ["internal/abi.NoEscape", "internal/bytealg.MakeNoZero"], named := ["internal/strconv.uint64pow10", "math/bits.deBruijn32tab", "math/bits.deBruijn64tab"], apart := false, laid := [("math/bits.deBruijn32tab", laid_math_bits_deBruijn32tab), ("math/bits.deBruijn64tab", laid_math_bits_deBruijn64tab), ("internal/strconv.uint64pow10", laid_internal_strconv_uint64pow10)], narrowed := true }
def FnExactFormatLegUptoSaid : Prop := fnExactFormatLegUptoRow.holds Tryd.pinned (OpenSpec.upto fnExactFormatLegSpec)

/-- 'laws.FnExactCheckOf', WHERE WHAT IT READS IS OF BULK AT MOST 1048576: true; the input reads as it did. -/
def fnExactCheckOfUptoRow : OpenClaim := { program := "ytpodbdmeamgpgaadoor", sum := "c9c99d1111ce6ca4ea982a0360dc78147d6a2b5d1a119ba0695017167de99fbc", func := "loop.example/g03014/laws.FnExactCheckOf", spec := "fnExactCheckOf", inPlace := ["internal/abi.NoEscape", "internal/bytealg.MakeNoZero"], named := ["internal/strconv.uint64pow10", "math/bits.deBruijn32tab", "math/bits.deBruijn64tab"], apart := false, laid := [("math/bits.deBruijn32tab", laid_math_bits_deBruijn32tab), ("math/bits.deBruijn64tab", laid_math_bits_deBruijn64tab), ("internal/strconv.uint64pow10", laid_internal_strconv_uint64pow10)], narrowed := true }
def FnExactCheckOfUptoSaid : Prop := fnExactCheckOfUptoRow.holds Tryd.pinned (OpenSpec.upto fnExactCheckOfSpec)

/-- 'laws.FnExactFormatLabel', WHERE WHAT IT READS IS OF BULK AT MOST 1048576: true; the input reads as it did. -/
def fnExactFormatLabelUptoRow : OpenClaim := { program := "ytpodbdmeamgpgaadoor", sum := "c9c99d1111ce6ca4ea982a0360dc78147d6a2b5d1a119ba0695017167de99fbc", func := "loop.example/g03014/laws.FnExactFormatLabel", spec := "fnExactFormatLabel", inPlace := ["internal/abi.NoEscape", "internal/bytealg.MakeNoZero"], named := ["internal/strconv.uint64pow10", "math/bits.deBruijn32tab", "math/bits.deBruijn64tab"], apart := false, laid := [("math/bits.deBruijn32tab", laid_math_bits_deBruijn32tab), ("math/bits.deBruijn64tab", laid_math_bits_deBruijn64tab), ("internal/strconv.uint64pow10", laid_internal_strconv_uint64pow10)], narrowed := true }
def FnExactFormatLabelUptoSaid : Prop := fnExactFormatLabelUptoRow.holds Tryd.pinned (OpenSpec.upto fnExactFormatLabelSpec)

/-- 'laws.FnExactParseInt', WHERE WHAT IT READS IS OF BULK AT MOST 1048576: true; the input reads as it did. -/
def fnExactParseIntUptoRow : OpenClaim := { program := "ytpodbdmeamgpgaadoor", sum := "c9c99d1111ce6ca4ea982a0360dc78147d6a2b5d1a119ba0695017167de99fbc", func := "loop.example/g03014/laws.FnExactParseInt", spec := "fnExactParseInt", named := ["strconv.ErrSyntax", "strconv.ErrRange", "internal/strconv.uint64pow10", "math/bits.deBruijn32tab", "math/bits.deBruijn64tab"], apart := false, laid := [("math/bits.deBruijn32tab", laid_math_bits_deBruijn32tab), ("math/bits.deBruijn64tab", laid_math_bits_deBruijn64tab), ("internal/strconv.uint64pow10", laid_internal_strconv_uint64pow10), ("strconv.ErrRange", laid_strconv_ErrRange), ("strconv.ErrSyntax", laid_strconv_ErrSyntax)], narrowed := true }
def FnExactParseIntUptoSaid : Prop := fnExactParseIntUptoRow.holds Tryd.pinned (OpenSpec.upto fnExactParseIntSpec)

/-- 'laws.FnRemainder', WHERE WHAT IT READS IS OF BULK AT MOST 1048576: true; the input reads as it did. -/
def fnRemainderUptoRow : OpenClaim := { program := "ytpodbdmeamgpgaadoor", sum := "c9c99d1111ce6ca4ea982a0360dc78147d6a2b5d1a119ba0695017167de99fbc", func := "loop.example/g03014/laws.FnRemainder", spec := "fnRemainder", named := ["internal/strconv.uint64pow10", "math/bits.deBruijn32tab", "math/bits.deBruijn64tab", "strconv.ErrSyntax", "strconv.ErrRange"], apart := false, laid := [("math/bits.deBruijn32tab", laid_math_bits_deBruijn32tab), ("math/bits.deBruijn64tab", laid_math_bits_deBruijn64tab), ("internal/strconv.uint64pow10", laid_internal_strconv_uint64pow10), ("strconv.ErrRange", laid_strconv_ErrRange), ("strconv.ErrSyntax", laid_strconv_ErrSyntax)], narrowed := true }
def FnRemainderUptoSaid : Prop := fnRemainderUptoRow.holds Tryd.pinned (OpenSpec.upto fnRemainderSpec)

/-- 'laws.FnLabelRead', WHERE WHAT IT READS IS OF BULK AT MOST 1048576: true; the input reads as it did. -/
def fnLabelReadUptoRow : OpenClaim := { program := "ytpodbdmeamgpgaadoor", sum := "c9c99d1111ce6ca4ea982a0360dc78147d6a2b5d1a119ba0695017167de99fbc", func := "loop.example/g03014/laws.FnLabelRead", spec := "fnLabelRead", inPlace := ["internal/abi.NoEscape", "internal/bytealg.MakeNoZero"], named := ["internal/strconv.uint64pow10", "math/bits.deBruijn32tab", "math/bits.deBruijn64tab", "strconv.ErrSyntax", "strconv.ErrRange"], apart := false, laid := [("math/bits.deBruijn32tab", laid_math_bits_deBruijn32tab), ("math/bits.deBruijn64tab", laid_math_bits_deBruijn64tab), ("internal/strconv.uint64pow10", laid_internal_strconv_uint64pow10), ("strconv.ErrRange", laid_strconv_ErrRange), ("strconv.ErrSyntax", laid_strconv_ErrSyntax)], narrowed := true }
def FnLabelReadUptoSaid : Prop := fnLabelReadUptoRow.holds Tryd.pinned (OpenSpec.upto fnLabelReadSpec)

/-- 'laws.FnExactParseLabel', WHERE WHAT IT READS IS OF BULK AT MOST 1048576: true; the input reads as it did. -/
def fnExactParseLabelUptoRow : OpenClaim := { program := "ytpodbdmeamgpgaadoor", sum := "c9c99d1111ce6ca4ea982a0360dc78147d6a2b5d1a119ba0695017167de99fbc", func := "loop.example/g03014/laws.FnExactParseLabel", spec := "fnExactParseLabel", inPlace := ["internal/abi.NoEscape", "internal/bytealg.MakeNoZero"], named := ["strconv.ErrSyntax", "strconv.ErrRange", "internal/strconv.uint64pow10", "math/bits.deBruijn32tab", "math/bits.deBruijn64tab"], apart := false, laid := [("math/bits.deBruijn32tab", laid_math_bits_deBruijn32tab), ("math/bits.deBruijn64tab", laid_math_bits_deBruijn64tab), ("internal/strconv.uint64pow10", laid_internal_strconv_uint64pow10), ("strconv.ErrRange", laid_strconv_ErrRange), ("strconv.ErrSyntax", laid_strconv_ErrSyntax)], narrowed := true }
def FnExactParseLabelUptoSaid : Prop := fnExactParseLabelUptoRow.holds Tryd.pinned (OpenSpec.upto fnExactParseLabelSpec)

/-- 'laws.FnOneChange', WHERE WHAT IT READS IS OF BULK AT MOST 1048576: true; the input reads as it did. -/
def fnOneChangeUptoRow : OpenClaim := { program := "ytpodbdmeamgpgaadoor", sum := "c9c99d1111ce6ca4ea982a0360dc78147d6a2b5d1a119ba0695017167de99fbc", func := "loop.example/g03014/laws.FnOneChange", spec := "fnOneChange", inPlace := ["internal/abi.NoEscape", "internal/bytealg.MakeNoZero"], named := ["strconv.ErrSyntax", "strconv.ErrRange", "internal/strconv.uint64pow10", "math/bits.deBruijn32tab", "math/bits.deBruijn64tab"], apart := false, laid := [("math/bits.deBruijn32tab", laid_math_bits_deBruijn32tab), ("math/bits.deBruijn64tab", laid_math_bits_deBruijn64tab), ("internal/strconv.uint64pow10", laid_internal_strconv_uint64pow10), ("strconv.ErrRange", laid_strconv_ErrRange), ("strconv.ErrSyntax", laid_strconv_ErrSyntax)], narrowed := true }
def FnOneChangeUptoSaid : Prop := fnOneChangeUptoRow.holds Tryd.pinned (OpenSpec.upto fnOneChangeSpec)

/-- 'laws.FnExactParseTime', WHERE WHAT IT READS IS OF BULK AT MOST 1048576: true; the input reads as it did. -/
def fnExactParseTimeUptoRow : OpenClaim := { program := "ytpodbdmeamgpgaadoor", sum := "c9c99d1111ce6ca4ea982a0360dc78147d6a2b5d1a119ba0695017167de99fbc", func := "loop.example/g03014/laws.FnExactParseTime", spec := "fnExactParseTime", inPlace := ["internal/bytealg.IndexByteString", "internal/bytealg.IndexString", "internal/abi.NoEscape", "internal/bytealg.MakeNoZero"], named := ["internal/bytealg.MaxLen", "strconv.ErrSyntax", "strconv.ErrRange", "internal/strconv.uint64pow10", "math/bits.deBruijn32tab", "math/bits.deBruijn64tab"], apart := false, laid := [("math/bits.deBruijn32tab", laid_math_bits_deBruijn32tab), ("math/bits.deBruijn64tab", laid_math_bits_deBruijn64tab), ("internal/strconv.uint64pow10", laid_internal_strconv_uint64pow10), ("strconv.ErrRange", laid_strconv_ErrRange), ("strconv.ErrSyntax", laid_strconv_ErrSyntax)], narrowed := true }
def FnExactParseTimeUptoSaid : Prop := fnExactParseTimeUptoRow.holds Tryd.pinned (OpenSpec.upto fnExactParseTimeSpec)

/-- 'laws.FnOneSwap', WHERE WHAT IT READS IS OF BULK AT MOST 1048576: true; the input reads as it did. -/
def fnOneSwapUptoRow : OpenClaim := { program := "ytpodbdmeamgpgaadoor", sum := "c9c99d1111ce6ca4ea982a0360dc78147d6a2b5d1a119ba0695017167de99fbc", func := "loop.example/g03014/laws.FnOneSwap", spec := "fnOneSwap", inPlace := ["internal/abi.NoEscape", "internal/bytealg.MakeNoZero"], named := ["strconv.ErrSyntax", "strconv.ErrRange", "internal/strconv.uint64pow10", "math/bits.deBruijn32tab", "math/bits.deBruijn64tab"], apart := false, laid := [("math/bits.deBruijn32tab", laid_math_bits_deBruijn32tab), ("math/bits.deBruijn64tab", laid_math_bits_deBruijn64tab), ("internal/strconv.uint64pow10", laid_internal_strconv_uint64pow10), ("strconv.ErrRange", laid_strconv_ErrRange), ("strconv.ErrSyntax", laid_strconv_ErrSyntax)], narrowed := true }
def FnOneSwapUptoSaid : Prop := fnOneSwapUptoRow.holds Tryd.pinned (OpenSpec.upto fnOneSwapSpec)

/-- 'laws.FnExactAmended', WHERE WHAT IT READS IS OF BULK AT MOST 1048576: true; the input reads as it did. -/
def fnExactAmendedUptoRow : OpenClaim := { program := "ytpodbdmeamgpgaadoor", sum := "c9c99d1111ce6ca4ea982a0360dc78147d6a2b5d1a119ba0695017167de99fbc", func := "loop.example/g03014/laws.FnExactAmended", spec := "fnExactAmended", inPlace := ["internal/abi.NoEscape", "internal/bytealg.MakeNoZero"], named := ["strconv.ErrSyntax", "strconv.ErrRange", "internal/strconv.uint64pow10", "math/bits.deBruijn32tab", "math/bits.deBruijn64tab"], apart := false, laid := [("math/bits.deBruijn32tab", laid_math_bits_deBruijn32tab), ("math/bits.deBruijn64tab", laid_math_bits_deBruijn64tab), ("internal/strconv.uint64pow10", laid_internal_strconv_uint64pow10), ("strconv.ErrRange", laid_strconv_ErrRange), ("strconv.ErrSyntax", laid_strconv_ErrSyntax)], narrowed := true }
def FnExactAmendedUptoSaid : Prop := fnExactAmendedUptoRow.holds Tryd.pinned (OpenSpec.upto fnExactAmendedSpec)

/-- 'laws.FnAmended', WHERE WHAT IT READS IS OF BULK AT MOST 1048576: true; the input reads as it did. -/
def fnAmendedUptoRow : OpenClaim := { program := "ytpodbdmeamgpgaadoor", sum := "c9c99d1111ce6ca4ea982a0360dc78147d6a2b5d1a119ba0695017167de99fbc", func := "loop.example/g03014/laws.FnAmended", spec := "fnAmended", inPlace := ["internal/abi.NoEscape", "internal/bytealg.MakeNoZero"], named := ["strconv.ErrSyntax", "strconv.ErrRange", "internal/strconv.uint64pow10", "math/bits.deBruijn32tab", "math/bits.deBruijn64tab"], apart := false, laid := [("math/bits.deBruijn32tab", laid_math_bits_deBruijn32tab), ("math/bits.deBruijn64tab", laid_math_bits_deBruijn64tab), ("internal/strconv.uint64pow10", laid_internal_strconv_uint64pow10), ("strconv.ErrRange", laid_strconv_ErrRange), ("strconv.ErrSyntax", laid_strconv_ErrSyntax)], narrowed := true }
def FnAmendedUptoSaid : Prop := fnAmendedUptoRow.holds Tryd.pinned (OpenSpec.upto fnAmendedSpec)

/-- 'laws.FnTimeRead', WHERE WHAT IT READS IS OF BULK AT MOST 1048576: true; the input reads as it did. -/
def fnTimeReadUptoRow : OpenClaim := { program := "ytpodbdmeamgpgaadoor", sum := "c9c99d1111ce6ca4ea982a0360dc78147d6a2b5d1a119ba0695017167de99fbc", func := "loop.example/g03014/laws.FnTimeRead", spec := "fnTimeRead", inPlace := ["internal/abi.NoEscape", "internal/bytealg.MakeNoZero", "internal/bytealg.IndexByteString", "internal/bytealg.IndexString", "internal/bytealg.CountString"], named := ["internal/strconv.uint64pow10", "math/bits.deBruijn32tab", "math/bits.deBruijn64tab", "internal/bytealg.MaxLen", "strconv.ErrSyntax", "strconv.ErrRange", "unicode/utf8.first", "unicode/utf8.acceptRanges"], apart := false, laid := [("math/bits.deBruijn32tab", laid_math_bits_deBruijn32tab), ("math/bits.deBruijn64tab", laid_math_bits_deBruijn64tab), ("internal/strconv.uint64pow10", laid_internal_strconv_uint64pow10), ("unicode/utf8.acceptRanges", laid_unicode_utf8_acceptRanges), ("strconv.ErrRange", laid_strconv_ErrRange), ("strconv.ErrSyntax", laid_strconv_ErrSyntax), ("unicode/utf8.first", laid_unicode_utf8_first)], narrowed := true }
def FnTimeReadUptoSaid : Prop := fnTimeReadUptoRow.holds Tryd.pinned (OpenSpec.upto fnTimeReadSpec)

/-- 'laws.FnExactParseLeg', WHERE WHAT IT READS IS OF BULK AT MOST 1048576: true; the input reads as it did. -/
def fnExactParseLegUptoRow : OpenClaim := { program := "ytpodbdmeamgpgaadoor", sum := "c9c99d1111ce6ca4ea982a0360dc78147d6a2b5d1a119ba0695017167de99fbc", func := "loop.example/g03014/laws.FnExactParseLeg", spec := "fnExactParseLeg", inPlace := ["internal/bytealg.CountString", "internal/bytealg.IndexByteString", "internal/bytealg.IndexString", "internal/abi.NoEscape", "internal/bytealg.MakeNoZero"], named := ["unicode/utf8.first", "unicode/utf8.acceptRanges", "internal/bytealg.MaxLen", "internal/strconv.uint64pow10", "math/bits.deBruijn32tab", "math/bits.deBruijn64tab", "strconv.ErrSyntax", "strconv.ErrRange"], apart := false, laid := [("math/bits.deBruijn32tab", laid_math_bits_deBruijn32tab), ("math/bits.deBruijn64tab", laid_math_bits_deBruijn64tab), ("internal/strconv.uint64pow10", laid_internal_strconv_uint64pow10), ("unicode/utf8.acceptRanges", laid_unicode_utf8_acceptRanges), ("strconv.ErrRange", laid_strconv_ErrRange), ("strconv.ErrSyntax", laid_strconv_ErrSyntax), ("unicode/utf8.first", laid_unicode_utf8_first)], narrowed := true }
def FnExactParseLegUptoSaid : Prop := fnExactParseLegUptoRow.holds Tryd.pinned (OpenSpec.upto fnExactParseLegSpec)

end Rows
end Go.Proofs.YtpodbdmeamgpgaaDoor
