/-
  NARROWER THAN 'FOR EVERY INPUT', by the rows' own cells (each row's printed sentence says how): FractionNews: laid · FractionProducts: laid · FractionTexts: laid · FractionSimplest: laid · FractionLimits: laid · FractionSums: laid · FractionField: laid · FractionOrder: laid · FractionMinimal: laid · FractionCompares: laid · FractionNearest: laid · FractionFresh: laid.
  DERIVED. THE GIVEN ROWS OF THIS SEAT. 12 by the template 'for every input the law returns true; each argument reads behind the call as it read before'; 0 by the template 'total and deterministic' (their statements: YtfhbigfbeppinaaGreatDoorTotals.lean).
  GIVEN WITH THE SEED: the statements are not yours to turn. If you find one false, say at which input.
  Laid BY PROGRAM, IN A SANDBOX (cutbox-rows.mjs): the forced cells as the released guide's own fill.sh prints them over the translation c5dfd1df5c510c34… (all of the seat's roots in one cut). By AI agents, Wed Nov 11 2026. No macro, syntax, notation, axiom, sorry.
-/
import Derived.Test.YtfhbigfbeppinaaGreatDoorChecked
import GoSem.Claim
import GoSem.ClaimJoined
import GoSem.ClaimMapViews
import Derived.JoinedTies
import Derived.KernelRfl
namespace Go.Proofs.YtfhbigfbeppinaaGreatDoor
/- THE CELL 'sum', in the pinned program and in every row, IS THE sha256 OF THE DUMP (.gsa) THAT YtfhbigfbeppinaaGreatDoorProg.lean LOADS. Nothing in Lean hashes anything: it is a label: what it is worth is what the hold of that sum in a sandbox is worth. -/
noncomputable def Tryz.pinned : Pinned := { name := "ytfhbigfbeppinaagreatdoor", sum := "c5dfd1df5c510c34b8a2053832d60540fb735d13ab4971819e9daa430c74dcc1", checked := Tryz.checked }
namespace Rows
def none {H : Type} : Left H := { results := [], args := [] }

/- WHAT THE LISTED PACKAGE-LEVEL VARIABLES READ AS WHEN THE CALL BEGINS. Each datum BY PROGRAM (the guide's laid-datum.mjs) off the statement by which the dump's own 'gosem.cut.vars' lays the variable. In a bare row this is a premise. The card (YtfhbigfbeppinaaGreatDoorCards.lean) ties it to the program's text. -/
def laid_math_bits_deBruijn32tab {H : Type} : DataW H := .agg [.lit (.int .u8 0), .lit (.int .u8 1), .lit (.int .u8 28), .lit (.int .u8 2), .lit (.int .u8 29), .lit (.int .u8 14), .lit (.int .u8 24), .lit (.int .u8 3), .lit (.int .u8 30), .lit (.int .u8 22), .lit (.int .u8 20), .lit (.int .u8 15), .lit (.int .u8 25), .lit (.int .u8 17), .lit (.int .u8 4), .lit (.int .u8 8), .lit (.int .u8 31), .lit (.int .u8 27), .lit (.int .u8 13), .lit (.int .u8 23), .lit (.int .u8 21), .lit (.int .u8 19), .lit (.int .u8 16), .lit (.int .u8 7), .lit (.int .u8 26), .lit (.int .u8 12), .lit (.int .u8 18), .lit (.int .u8 6), .lit (.int .u8 11), .lit (.int .u8 5), .lit (.int .u8 10), .lit (.int .u8 9)]
def laid_math_bits_deBruijn64tab {H : Type} : DataW H := .agg [.lit (.int .u8 0), .lit (.int .u8 1), .lit (.int .u8 56), .lit (.int .u8 2), .lit (.int .u8 57), .lit (.int .u8 49), .lit (.int .u8 28), .lit (.int .u8 3), .lit (.int .u8 61), .lit (.int .u8 58), .lit (.int .u8 42), .lit (.int .u8 50), .lit (.int .u8 38), .lit (.int .u8 29), .lit (.int .u8 17), .lit (.int .u8 4), .lit (.int .u8 62), .lit (.int .u8 47), .lit (.int .u8 59), .lit (.int .u8 36), .lit (.int .u8 45), .lit (.int .u8 43), .lit (.int .u8 51), .lit (.int .u8 22), .lit (.int .u8 53), .lit (.int .u8 39), .lit (.int .u8 33), .lit (.int .u8 30), .lit (.int .u8 24), .lit (.int .u8 18), .lit (.int .u8 12), .lit (.int .u8 5), .lit (.int .u8 63), .lit (.int .u8 55), .lit (.int .u8 48), .lit (.int .u8 27), .lit (.int .u8 60), .lit (.int .u8 41), .lit (.int .u8 37), .lit (.int .u8 16), .lit (.int .u8 46), .lit (.int .u8 35), .lit (.int .u8 44), .lit (.int .u8 21), .lit (.int .u8 52), .lit (.int .u8 32), .lit (.int .u8 23), .lit (.int .u8 11), .lit (.int .u8 54), .lit (.int .u8 26), .lit (.int .u8 40), .lit (.int .u8 15), .lit (.int .u8 34), .lit (.int .u8 20), .lit (.int .u8 31), .lit (.int .u8 10), .lit (.int .u8 25), .lit (.int .u8 14), .lit (.int .u8 19), .lit (.int .u8 9), .lit (.int .u8 13), .lit (.int .u8 8), .lit (.int .u8 7), .lit (.int .u8 6)]
def laid_internal_strconv_uint64pow10 {H : Type} : DataW H := .agg [.lit (.int .u64 1), .lit (.int .u64 10), .lit (.int .u64 100), .lit (.int .u64 1000), .lit (.int .u64 10000), .lit (.int .u64 100000), .lit (.int .u64 1000000), .lit (.int .u64 10000000), .lit (.int .u64 100000000), .lit (.int .u64 1000000000), .lit (.int .u64 10000000000), .lit (.int .u64 100000000000), .lit (.int .u64 1000000000000), .lit (.int .u64 10000000000000), .lit (.int .u64 100000000000000), .lit (.int .u64 1000000000000000), .lit (.int .u64 10000000000000000), .lit (.int .u64 100000000000000000), .lit (.int .u64 1000000000000000000), .lit (.int .u64 10000000000000000000)]

/-- 'barscanlaw03.FractionNews': WHATEVER THE INPUT: true; the input reads as it did. -/
def fractionNewsSpec : ChangeSpec := { name := "fractionNews", fn := fun _ => fun
  | [d1, d2, d3] => { results := [.lit (.bool true)], args := [d1, d2, d3] }
  | _ => none }
def fractionNewsRow : OpenClaim := { program := "ytfhbigfbeppinaagreatdoor", sum := "c5dfd1df5c510c34b8a2053832d60540fb735d13ab4971819e9daa430c74dcc1", func := "barscan/barscanlaw03.FractionNews", spec := "fractionNews", inPlace := ["internal/bytealg.IndexByteString", "internal/bytealg.IndexString", "internal/abi.NoEscape", "internal/bytealg.MakeNoZero"], named := ["internal/bytealg.MaxLen", "internal/strconv.uint64pow10", "math/bits.deBruijn32tab", "math/bits.deBruijn64tab"], apart := false, laid := [("math/bits.deBruijn32tab", laid_math_bits_deBruijn32tab), ("math/bits.deBruijn64tab", laid_math_bits_deBruijn64tab), ("internal/strconv.uint64pow10", laid_internal_strconv_uint64pow10)] }
def FractionNewsSaid : Prop := fractionNewsRow.holds Tryz.pinned (OpenSpec.ofChange fractionNewsSpec)

/-- ITS FALSE NEIGHBOUR: 'it returns false'. Refute it at one input. -/
def fractionNewsWrong : ChangeSpec := { name := "fractionNews", fn := fun _ => fun
  | [d1, d2, d3] => { results := [.lit (.bool false)], args := [d1, d2, d3] }
  | _ => none }
def FractionNewsWrongFalsely : Prop := fractionNewsRow.holds Tryz.pinned (OpenSpec.ofChange fractionNewsWrong)

/-- 'barscanlaw03.FractionProducts': WHATEVER THE INPUT: true; the input reads as it did. -/
def fractionProductsSpec : ChangeSpec := { name := "fractionProducts", fn := fun _ => fun
  | [d1, d2] => { results := [.lit (.bool true)], args := [d1, d2] }
  | _ => none }
def fractionProductsRow : OpenClaim := { program := "ytfhbigfbeppinaagreatdoor", sum := "c5dfd1df5c510c34b8a2053832d60540fb735d13ab4971819e9daa430c74dcc1", func := "barscan/barscanlaw03.FractionProducts", spec := "fractionProducts", inPlace := ["internal/bytealg.IndexByteString", "internal/bytealg.IndexString", "internal/abi.NoEscape", "internal/bytealg.MakeNoZero"], named := ["internal/bytealg.MaxLen", "internal/strconv.uint64pow10", "math/bits.deBruijn32tab", "math/bits.deBruijn64tab"], apart := false, laid := [("math/bits.deBruijn32tab", laid_math_bits_deBruijn32tab), ("math/bits.deBruijn64tab", laid_math_bits_deBruijn64tab), ("internal/strconv.uint64pow10", laid_internal_strconv_uint64pow10)] }
def FractionProductsSaid : Prop := fractionProductsRow.holds Tryz.pinned (OpenSpec.ofChange fractionProductsSpec)

/-- ITS FALSE NEIGHBOUR: 'it returns false'. Refute it at one input. -/
def fractionProductsWrong : ChangeSpec := { name := "fractionProducts", fn := fun _ => fun
  | [d1, d2] => { results := [.lit (.bool false)], args := [d1, d2] }
  | _ => none }
def FractionProductsWrongFalsely : Prop := fractionProductsRow.holds Tryz.pinned (OpenSpec.ofChange fractionProductsWrong)

/-- 'barscanlaw03.FractionTexts': WHATEVER THE INPUT: true; the input reads as it did. -/
def fractionTextsSpec : ChangeSpec := { name := "fractionTexts", fn := fun _ => fun
  | [d1, d2] => { results := [.lit (.bool true)], args := [d1, d2] }
  | _ => none }
def fractionTextsRow : OpenClaim := { program := "ytfhbigfbeppinaagreatdoor", sum := "c5dfd1df5c510c34b8a2053832d60540fb735d13ab4971819e9daa430c74dcc1", func := "barscan/barscanlaw03.FractionTexts", spec := "fractionTexts", inPlace := ["internal/bytealg.IndexByteString", "internal/bytealg.IndexString", "internal/abi.NoEscape", "internal/bytealg.MakeNoZero"], named := ["internal/bytealg.MaxLen", "internal/strconv.uint64pow10", "math/bits.deBruijn32tab", "math/bits.deBruijn64tab"], apart := false, laid := [("math/bits.deBruijn32tab", laid_math_bits_deBruijn32tab), ("math/bits.deBruijn64tab", laid_math_bits_deBruijn64tab), ("internal/strconv.uint64pow10", laid_internal_strconv_uint64pow10)] }
def FractionTextsSaid : Prop := fractionTextsRow.holds Tryz.pinned (OpenSpec.ofChange fractionTextsSpec)

/-- ITS FALSE NEIGHBOUR: 'it returns false'. Refute it at one input. -/
def fractionTextsWrong : ChangeSpec := { name := "fractionTexts", fn := fun _ => fun
  | [d1, d2] => { results := [.lit (.bool false)], args := [d1, d2] }
  | _ => none }
def FractionTextsWrongFalsely : Prop := fractionTextsRow.holds Tryz.pinned (OpenSpec.ofChange fractionTextsWrong)

/-- 'barscanlaw03.FractionSimplest': WHATEVER THE INPUT: true; the input reads as it did. -/
def fractionSimplestSpec : ChangeSpec := { name := "fractionSimplest", fn := fun _ => fun
  | [d1, d2] => { results := [.lit (.bool true)], args := [d1, d2] }
  | _ => none }
def fractionSimplestRow : OpenClaim := { program := "ytfhbigfbeppinaagreatdoor", sum := "c5dfd1df5c510c34b8a2053832d60540fb735d13ab4971819e9daa430c74dcc1", func := "barscan/barscanlaw03.FractionSimplest", spec := "fractionSimplest", inPlace := ["internal/bytealg.IndexByteString", "internal/bytealg.IndexString", "internal/abi.NoEscape", "internal/bytealg.MakeNoZero"], recurses := true, named := ["internal/bytealg.MaxLen", "internal/strconv.uint64pow10", "math/bits.deBruijn32tab", "math/bits.deBruijn64tab"], apart := false, laid := [("math/bits.deBruijn32tab", laid_math_bits_deBruijn32tab), ("math/bits.deBruijn64tab", laid_math_bits_deBruijn64tab), ("internal/strconv.uint64pow10", laid_internal_strconv_uint64pow10)] }
def FractionSimplestSaid : Prop := fractionSimplestRow.holds Tryz.pinned (OpenSpec.ofChange fractionSimplestSpec)

/-- ITS FALSE NEIGHBOUR: 'it returns false'. Refute it at one input. -/
def fractionSimplestWrong : ChangeSpec := { name := "fractionSimplest", fn := fun _ => fun
  | [d1, d2] => { results := [.lit (.bool false)], args := [d1, d2] }
  | _ => none }
def FractionSimplestWrongFalsely : Prop := fractionSimplestRow.holds Tryz.pinned (OpenSpec.ofChange fractionSimplestWrong)

/-- 'barscanlaw03.FractionLimits': WHATEVER THE INPUT: true; the input reads as it did. -/
def fractionLimitsSpec : ChangeSpec := { name := "fractionLimits", fn := fun _ => fun
  | [d1, d2, d3] => { results := [.lit (.bool true)], args := [d1, d2, d3] }
  | _ => none }
def fractionLimitsRow : OpenClaim := { program := "ytfhbigfbeppinaagreatdoor", sum := "c5dfd1df5c510c34b8a2053832d60540fb735d13ab4971819e9daa430c74dcc1", func := "barscan/barscanlaw03.FractionLimits", spec := "fractionLimits", inPlace := ["internal/bytealg.IndexByteString", "internal/bytealg.IndexString", "internal/abi.NoEscape", "internal/bytealg.MakeNoZero"], named := ["internal/bytealg.MaxLen", "internal/strconv.uint64pow10", "math/bits.deBruijn32tab", "math/bits.deBruijn64tab"], apart := false, laid := [("math/bits.deBruijn32tab", laid_math_bits_deBruijn32tab), ("math/bits.deBruijn64tab", laid_math_bits_deBruijn64tab), ("internal/strconv.uint64pow10", laid_internal_strconv_uint64pow10)] }
def FractionLimitsSaid : Prop := fractionLimitsRow.holds Tryz.pinned (OpenSpec.ofChange fractionLimitsSpec)

/-- ITS FALSE NEIGHBOUR: 'it returns false'. Refute it at one input. -/
def fractionLimitsWrong : ChangeSpec := { name := "fractionLimits", fn := fun _ => fun
  | [d1, d2, d3] => { results := [.lit (.bool false)], args := [d1, d2, d3] }
  | _ => none }
def FractionLimitsWrongFalsely : Prop := fractionLimitsRow.holds Tryz.pinned (OpenSpec.ofChange fractionLimitsWrong)

/-- 'barscanlaw03.FractionSums': WHATEVER THE INPUT: true; the input reads as it did. -/
def fractionSumsSpec : ChangeSpec := { name := "fractionSums", fn := fun _ => fun
  | [d1, d2] => { results := [.lit (.bool true)], args := [d1, d2] }
  | _ => none }
def fractionSumsRow : OpenClaim := { program := "ytfhbigfbeppinaagreatdoor", sum := "c5dfd1df5c510c34b8a2053832d60540fb735d13ab4971819e9daa430c74dcc1", func := "barscan/barscanlaw03.FractionSums", spec := "fractionSums", inPlace := ["internal/bytealg.IndexByteString", "internal/bytealg.IndexString", "internal/abi.NoEscape", "internal/bytealg.MakeNoZero"], named := ["internal/bytealg.MaxLen", "internal/strconv.uint64pow10", "math/bits.deBruijn32tab", "math/bits.deBruijn64tab"], apart := false, laid := [("math/bits.deBruijn32tab", laid_math_bits_deBruijn32tab), ("math/bits.deBruijn64tab", laid_math_bits_deBruijn64tab), ("internal/strconv.uint64pow10", laid_internal_strconv_uint64pow10)] }
def FractionSumsSaid : Prop := fractionSumsRow.holds Tryz.pinned (OpenSpec.ofChange fractionSumsSpec)

/-- ITS FALSE NEIGHBOUR: 'it returns false'. Refute it at one input. -/
def fractionSumsWrong : ChangeSpec := { name := "fractionSums", fn := fun _ => fun
  | [d1, d2] => { results := [.lit (.bool false)], args := [d1, d2] }
  | _ => none }
def FractionSumsWrongFalsely : Prop := fractionSumsRow.holds Tryz.pinned (OpenSpec.ofChange fractionSumsWrong)

/-- 'barscanlaw03.FractionField': WHATEVER THE INPUT: true; the input reads as it did. -/
def fractionFieldSpec : ChangeSpec := { name := "fractionField", fn := fun _ => fun
  | [d1, d2, d3] => { results := [.lit (.bool true)], args := [d1, d2, d3] }
  | _ => none }
def fractionFieldRow : OpenClaim := { program := "ytfhbigfbeppinaagreatdoor", sum := "c5dfd1df5c510c34b8a2053832d60540fb735d13ab4971819e9daa430c74dcc1", func := "barscan/barscanlaw03.FractionField", spec := "fractionField", inPlace := ["internal/bytealg.IndexByteString", "internal/bytealg.IndexString", "internal/abi.NoEscape", "internal/bytealg.MakeNoZero"], named := ["internal/bytealg.MaxLen", "internal/strconv.uint64pow10", "math/bits.deBruijn32tab", "math/bits.deBruijn64tab"], apart := false, laid := [("math/bits.deBruijn32tab", laid_math_bits_deBruijn32tab), ("math/bits.deBruijn64tab", laid_math_bits_deBruijn64tab), ("internal/strconv.uint64pow10", laid_internal_strconv_uint64pow10)] }
def FractionFieldSaid : Prop := fractionFieldRow.holds Tryz.pinned (OpenSpec.ofChange fractionFieldSpec)

/-- ITS FALSE NEIGHBOUR: 'it returns false'. Refute it at one input. -/
def fractionFieldWrong : ChangeSpec := { name := "fractionField", fn := fun _ => fun
  | [d1, d2, d3] => { results := [.lit (.bool false)], args := [d1, d2, d3] }
  | _ => none }
def FractionFieldWrongFalsely : Prop := fractionFieldRow.holds Tryz.pinned (OpenSpec.ofChange fractionFieldWrong)

/-- 'barscanlaw03.FractionOrder': WHATEVER THE INPUT: true; the input reads as it did. -/
def fractionOrderSpec : ChangeSpec := { name := "fractionOrder", fn := fun _ => fun
  | [d1, d2, d3] => { results := [.lit (.bool true)], args := [d1, d2, d3] }
  | _ => none }
def fractionOrderRow : OpenClaim := { program := "ytfhbigfbeppinaagreatdoor", sum := "c5dfd1df5c510c34b8a2053832d60540fb735d13ab4971819e9daa430c74dcc1", func := "barscan/barscanlaw03.FractionOrder", spec := "fractionOrder", inPlace := ["internal/bytealg.IndexByteString", "internal/bytealg.IndexString", "internal/abi.NoEscape", "internal/bytealg.MakeNoZero"], named := ["internal/bytealg.MaxLen", "internal/strconv.uint64pow10", "math/bits.deBruijn32tab", "math/bits.deBruijn64tab"], apart := false, laid := [("math/bits.deBruijn32tab", laid_math_bits_deBruijn32tab), ("math/bits.deBruijn64tab", laid_math_bits_deBruijn64tab), ("internal/strconv.uint64pow10", laid_internal_strconv_uint64pow10)] }
def FractionOrderSaid : Prop := fractionOrderRow.holds Tryz.pinned (OpenSpec.ofChange fractionOrderSpec)

/-- ITS FALSE NEIGHBOUR: 'it returns false'. Refute it at one input. -/
def fractionOrderWrong : ChangeSpec := { name := "fractionOrder", fn := fun _ => fun
  | [d1, d2, d3] => { results := [.lit (.bool false)], args := [d1, d2, d3] }
  | _ => none }
def FractionOrderWrongFalsely : Prop := fractionOrderRow.holds Tryz.pinned (OpenSpec.ofChange fractionOrderWrong)

/-- 'barscanlaw03.FractionMinimal': WHATEVER THE INPUT: true; the input reads as it did. -/
def fractionMinimalSpec : ChangeSpec := { name := "fractionMinimal", fn := fun _ => fun
  | [d1, d2] => { results := [.lit (.bool true)], args := [d1, d2] }
  | _ => none }
def fractionMinimalRow : OpenClaim := { program := "ytfhbigfbeppinaagreatdoor", sum := "c5dfd1df5c510c34b8a2053832d60540fb735d13ab4971819e9daa430c74dcc1", func := "barscan/barscanlaw03.FractionMinimal", spec := "fractionMinimal", inPlace := ["internal/bytealg.IndexByteString", "internal/bytealg.IndexString", "internal/abi.NoEscape", "internal/bytealg.MakeNoZero"], named := ["internal/bytealg.MaxLen", "internal/strconv.uint64pow10", "math/bits.deBruijn32tab", "math/bits.deBruijn64tab"], apart := false, laid := [("math/bits.deBruijn32tab", laid_math_bits_deBruijn32tab), ("math/bits.deBruijn64tab", laid_math_bits_deBruijn64tab), ("internal/strconv.uint64pow10", laid_internal_strconv_uint64pow10)] }
def FractionMinimalSaid : Prop := fractionMinimalRow.holds Tryz.pinned (OpenSpec.ofChange fractionMinimalSpec)

/-- ITS FALSE NEIGHBOUR: 'it returns false'. Refute it at one input. -/
def fractionMinimalWrong : ChangeSpec := { name := "fractionMinimal", fn := fun _ => fun
  | [d1, d2] => { results := [.lit (.bool false)], args := [d1, d2] }
  | _ => none }
def FractionMinimalWrongFalsely : Prop := fractionMinimalRow.holds Tryz.pinned (OpenSpec.ofChange fractionMinimalWrong)

/-- 'barscanlaw03.FractionCompares': WHATEVER THE INPUT: true; the input reads as it did. -/
def fractionComparesSpec : ChangeSpec := { name := "fractionCompares", fn := fun _ => fun
  | [d1, d2] => { results := [.lit (.bool true)], args := [d1, d2] }
  | _ => none }
def fractionComparesRow : OpenClaim := { program := "ytfhbigfbeppinaagreatdoor", sum := "c5dfd1df5c510c34b8a2053832d60540fb735d13ab4971819e9daa430c74dcc1", func := "barscan/barscanlaw03.FractionCompares", spec := "fractionCompares", inPlace := ["internal/bytealg.IndexByteString", "internal/bytealg.IndexString", "internal/abi.NoEscape", "internal/bytealg.MakeNoZero"], named := ["internal/bytealg.MaxLen", "internal/strconv.uint64pow10", "math/bits.deBruijn32tab", "math/bits.deBruijn64tab"], apart := false, laid := [("math/bits.deBruijn32tab", laid_math_bits_deBruijn32tab), ("math/bits.deBruijn64tab", laid_math_bits_deBruijn64tab), ("internal/strconv.uint64pow10", laid_internal_strconv_uint64pow10)] }
def FractionComparesSaid : Prop := fractionComparesRow.holds Tryz.pinned (OpenSpec.ofChange fractionComparesSpec)

/-- ITS FALSE NEIGHBOUR: 'it returns false'. Refute it at one input. -/
def fractionComparesWrong : ChangeSpec := { name := "fractionCompares", fn := fun _ => fun
  | [d1, d2] => { results := [.lit (.bool false)], args := [d1, d2] }
  | _ => none }
def FractionComparesWrongFalsely : Prop := fractionComparesRow.holds Tryz.pinned (OpenSpec.ofChange fractionComparesWrong)

/-- 'barscanlaw03.FractionNearest': WHATEVER THE INPUT: true; the input reads as it did. -/
def fractionNearestSpec : ChangeSpec := { name := "fractionNearest", fn := fun _ => fun
  | [d] => { results := [.lit (.bool true)], args := [d] }
  | _ => none }
def fractionNearestRow : OpenClaim := { program := "ytfhbigfbeppinaagreatdoor", sum := "c5dfd1df5c510c34b8a2053832d60540fb735d13ab4971819e9daa430c74dcc1", func := "barscan/barscanlaw03.FractionNearest", spec := "fractionNearest", inPlace := ["internal/bytealg.IndexByteString", "internal/bytealg.IndexString", "internal/abi.NoEscape", "internal/bytealg.MakeNoZero"], named := ["internal/bytealg.MaxLen", "internal/strconv.uint64pow10", "math/bits.deBruijn32tab", "math/bits.deBruijn64tab"], apart := false, laid := [("math/bits.deBruijn32tab", laid_math_bits_deBruijn32tab), ("math/bits.deBruijn64tab", laid_math_bits_deBruijn64tab), ("internal/strconv.uint64pow10", laid_internal_strconv_uint64pow10)] }
def FractionNearestSaid : Prop := fractionNearestRow.holds Tryz.pinned (OpenSpec.ofChange fractionNearestSpec)

/-- ITS FALSE NEIGHBOUR: 'it returns false'. Refute it at one input. -/
def fractionNearestWrong : ChangeSpec := { name := "fractionNearest", fn := fun _ => fun
  | [d] => { results := [.lit (.bool false)], args := [d] }
  | _ => none }
def FractionNearestWrongFalsely : Prop := fractionNearestRow.holds Tryz.pinned (OpenSpec.ofChange fractionNearestWrong)

/-- 'barscanlaw03.FractionFresh': WHATEVER THE INPUT: true; the input reads as it did. -/
def fractionFreshSpec : ChangeSpec := { name := "fractionFresh", fn := fun _ => fun
  | [d1, d2] => { results := [.lit (.bool true)], args := [d1, d2] }
  | _ => none }
def fractionFreshRow : OpenClaim := { program := "ytfhbigfbeppinaagreatdoor", sum := "c5dfd1df5c510c34b8a2053832d60540fb735d13ab4971819e9daa430c74dcc1", func := "barscan/barscanlaw03.FractionFresh", spec := "fractionFresh", inPlace := ["internal/bytealg.IndexByteString", "internal/bytealg.IndexString", "internal/abi.NoEscape", "internal/bytealg.MakeNoZero"], named := ["internal/bytealg.MaxLen", "internal/strconv.uint64pow10", "math/bits.deBruijn32tab", "math/bits.deBruijn64tab"], apart := false, laid := [("math/bits.deBruijn32tab", laid_math_bits_deBruijn32tab), ("math/bits.deBruijn64tab", laid_math_bits_deBruijn64tab), ("internal/strconv.uint64pow10", laid_internal_strconv_uint64pow10)] }
def FractionFreshSaid : Prop := fractionFreshRow.holds Tryz.pinned (OpenSpec.ofChange fractionFreshSpec)

/-- ITS FALSE NEIGHBOUR: 'it returns false'. Refute it at one input. -/
def fractionFreshWrong : ChangeSpec := { name := "fractionFresh", fn := fun _ => fun
  | [d1, d2] => { results := [.lit (.bool false)], args := [d1, d2] }
  | _ => none }
def FractionFreshWrongFalsely : Prop := fractionFreshRow.holds Tryz.pinned (OpenSpec.ofChange fractionFreshWrong)

/- THE SECOND FORM. 'bulk': how many values and letters a reading holds, each counted each time it is reached (what is shared counts as often as it is met; a slice's spare places count too). A statement '..UptoSaid' is the law's where the arguments, and the package variables that the reading takes, are together of bulk at most 1048576: NARROWER than '..Said'. Prove '..Said' where nothing that the law and all that it calls make is longer than what came in: it says more and counts as full. Else prove '..UptoSaid'. A law counts once. -/
mutual
def uptoBulk {H : Type} : DataW H → Nat
  | .lit (.string bytes) => bytes.length + 1
  | .lit _ => 1
  | .nil => 1
  | .ptr d => uptoBulk d + 1
  | .slice elems spare => uptoBulkAll elems + uptoBulkAll spare + 1
  | .agg parts => uptoBulkAll parts + 1
  | .iface _ d => uptoBulk d + 1
  | .map entries => uptoBulkEntries entries + 1
  | .held _ => 1
def uptoBulkAll {H : Type} : List (DataW H) → Nat
  | [] => 0
  | d :: r => uptoBulk d + uptoBulkAll r
def uptoBulkEntries {H : Type} : List (Lit × DataW H) → Nat
  | [] => 0
  | x :: r => uptoBulkEntry x + uptoBulkEntries r
def uptoBulkEntry {H : Type} : Lit × DataW H → Nat
  | (.string bytes, d) => bytes.length + uptoBulk d + 1
  | (_, d) => uptoBulk d + 1
 end
def uptoSmall : (H : Type) → List (DataW H) → Bool := fun _ ds => decide (uptoBulkAll ds ≤ 1048576)
def OpenSpec.upto (s : _root_.Go.ChangeSpec) : _root_.Go.OpenSpec := { _root_.Go.OpenSpec.ofChange s with cond := some uptoSmall }

/-- 'barscanlaw03.FractionNews', WHERE WHAT IT READS IS OF BULK AT MOST 1048576: true; the input reads as it did. -/
def fractionNewsUptoRow : OpenClaim := { program := "ytfhbigfbeppinaagreatdoor", sum := "c5dfd1df5c510c34b8a2053832d60540fb735d13ab4971819e9daa430c74dcc1", func := "barscan/barscanlaw03.FractionNews", spec := "fractionNews", inPlace := ["internal/bytealg.IndexByteString", "internal/bytealg.IndexString", "internal/abi.NoEscape", "internal/bytealg.MakeNoZero"], named := ["internal/bytealg.MaxLen", "internal/strconv.uint64pow10", "math/bits.deBruijn32tab", "math/bits.deBruijn64tab"], apart := false, laid := [("math/bits.deBruijn32tab", laid_math_bits_deBruijn32tab), ("math/bits.deBruijn64tab", laid_math_bits_deBruijn64tab), ("internal/strconv.uint64pow10", laid_internal_strconv_uint64pow10)], narrowed := true }
def FractionNewsUptoSaid : Prop := fractionNewsUptoRow.holds Tryz.pinned (OpenSpec.upto fractionNewsSpec)

/-- 'barscanlaw03.FractionProducts', WHERE WHAT IT READS IS OF BULK AT MOST 1048576: true; the input reads as it did. -/
def fractionProductsUptoRow : OpenClaim := { program := "ytfhbigfbeppinaagreatdoor", sum := "c5dfd1df5c510c34b8a2053832d60540fb735d13ab4971819e9daa430c74dcc1", func := "barscan/barscanlaw03.FractionProducts", spec := "fractionProducts", inPlace := ["internal/bytealg.IndexByteString", "internal/bytealg.IndexString", "internal/abi.NoEscape", "internal/bytealg.MakeNoZero"], named := ["internal/bytealg.MaxLen", "internal/strconv.uint64pow10", "math/bits.deBruijn32tab", "math/bits.deBruijn64tab"], apart := false, laid := [("math/bits.deBruijn32tab", laid_math_bits_deBruijn32tab), ("math/bits.deBruijn64tab", laid_math_bits_deBruijn64tab), ("internal/strconv.uint64pow10", laid_internal_strconv_uint64pow10)], narrowed := true }
def FractionProductsUptoSaid : Prop := fractionProductsUptoRow.holds Tryz.pinned (OpenSpec.upto fractionProductsSpec)

/-- 'barscanlaw03.FractionTexts', WHERE WHAT IT READS IS OF BULK AT MOST 1048576: true; the input reads as it did. -/
def fractionTextsUptoRow : OpenClaim := { program := "ytfhbigfbeppinaagreatdoor", sum := "c5dfd1df5c510c34b8a2053832d60540fb735d13ab4971819e9daa430c74dcc1", func := "barscan/barscanlaw03.FractionTexts", spec := "fractionTexts", inPlace := ["internal/bytealg.IndexByteString", "internal/bytealg.IndexString", "internal/abi.NoEscape", "internal/bytealg.MakeNoZero"], named := ["internal/bytealg.MaxLen", "internal/strconv.uint64pow10", "math/bits.deBruijn32tab", "math/bits.deBruijn64tab"], apart := false, laid := [("math/bits.deBruijn32tab", laid_math_bits_deBruijn32tab), ("math/bits.deBruijn64tab", laid_math_bits_deBruijn64tab), ("internal/strconv.uint64pow10", laid_internal_strconv_uint64pow10)], narrowed := true }
def FractionTextsUptoSaid : Prop := fractionTextsUptoRow.holds Tryz.pinned (OpenSpec.upto fractionTextsSpec)

/-- 'barscanlaw03.FractionSimplest', WHERE WHAT IT READS IS OF BULK AT MOST 1048576: true; the input reads as it did. -/
def fractionSimplestUptoRow : OpenClaim := { program := "ytfhbigfbeppinaagreatdoor", sum := "c5dfd1df5c510c34b8a2053832d60540fb735d13ab4971819e9daa430c74dcc1", func := "barscan/barscanlaw03.FractionSimplest", spec := "fractionSimplest", inPlace := ["internal/bytealg.IndexByteString", "internal/bytealg.IndexString", "internal/abi.NoEscape", "internal/bytealg.MakeNoZero"], recurses := true, named := ["internal/bytealg.MaxLen", "internal/strconv.uint64pow10", "math/bits.deBruijn32tab", "math/bits.deBruijn64tab"], apart := false, laid := [("math/bits.deBruijn32tab", laid_math_bits_deBruijn32tab), ("math/bits.deBruijn64tab", laid_math_bits_deBruijn64tab), ("internal/strconv.uint64pow10", laid_internal_strconv_uint64pow10)], narrowed := true }
def FractionSimplestUptoSaid : Prop := fractionSimplestUptoRow.holds Tryz.pinned (OpenSpec.upto fractionSimplestSpec)

/-- 'barscanlaw03.FractionLimits', WHERE WHAT IT READS IS OF BULK AT MOST 1048576: true; the input reads as it did. -/
def fractionLimitsUptoRow : OpenClaim := { program := "ytfhbigfbeppinaagreatdoor", sum := "c5dfd1df5c510c34b8a2053832d60540fb735d13ab4971819e9daa430c74dcc1", func := "barscan/barscanlaw03.FractionLimits", spec := "fractionLimits", inPlace := ["internal/bytealg.IndexByteString", "internal/bytealg.IndexString", "internal/abi.NoEscape", "internal/bytealg.MakeNoZero"], named := ["internal/bytealg.MaxLen", "internal/strconv.uint64pow10", "math/bits.deBruijn32tab", "math/bits.deBruijn64tab"], apart := false, laid := [("math/bits.deBruijn32tab", laid_math_bits_deBruijn32tab), ("math/bits.deBruijn64tab", laid_math_bits_deBruijn64tab), ("internal/strconv.uint64pow10", laid_internal_strconv_uint64pow10)], narrowed := true }
def FractionLimitsUptoSaid : Prop := fractionLimitsUptoRow.holds Tryz.pinned (OpenSpec.upto fractionLimitsSpec)

/-- 'barscanlaw03.FractionSums', WHERE WHAT IT READS IS OF BULK AT MOST 1048576: true; the input reads as it did. -/
def fractionSumsUptoRow : OpenClaim := { program := "ytfhbigfbeppinaagreatdoor", sum := "c5dfd1df5c510c34b8a2053832d60540fb735d13ab4971819e9daa430c74dcc1", func := "barscan/barscanlaw03.FractionSums", spec := "fractionSums", inPlace := ["internal/bytealg.IndexByteString", "internal/bytealg.IndexString", "internal/abi.NoEscape", "internal/bytealg.MakeNoZero"], named := ["internal/bytealg.MaxLen", "internal/strconv.uint64pow10", "math/bits.deBruijn32tab", "math/bits.deBruijn64tab"], apart := false, laid := [("math/bits.deBruijn32tab", laid_math_bits_deBruijn32tab), ("math/bits.deBruijn64tab", laid_math_bits_deBruijn64tab), ("internal/strconv.uint64pow10", laid_internal_strconv_uint64pow10)], narrowed := true }
def FractionSumsUptoSaid : Prop := fractionSumsUptoRow.holds Tryz.pinned (OpenSpec.upto fractionSumsSpec)

/-- 'barscanlaw03.FractionField', WHERE WHAT IT READS IS OF BULK AT MOST 1048576: true; the input reads as it did. -/
def fractionFieldUptoRow : OpenClaim := { program := "ytfhbigfbeppinaagreatdoor", sum := "c5dfd1df5c510c34b8a2053832d60540fb735d13ab4971819e9daa430c74dcc1", func := "barscan/barscanlaw03.FractionField", spec := "fractionField", inPlace := ["internal/bytealg.IndexByteString", "internal/bytealg.IndexString", "internal/abi.NoEscape", "internal/bytealg.MakeNoZero"], named := ["internal/bytealg.MaxLen", "internal/strconv.uint64pow10", "math/bits.deBruijn32tab", "math/bits.deBruijn64tab"], apart := false, laid := [("math/bits.deBruijn32tab", laid_math_bits_deBruijn32tab), ("math/bits.deBruijn64tab", laid_math_bits_deBruijn64tab), ("internal/strconv.uint64pow10", laid_internal_strconv_uint64pow10)], narrowed := true }
def FractionFieldUptoSaid : Prop := fractionFieldUptoRow.holds Tryz.pinned (OpenSpec.upto fractionFieldSpec)

/-- 'barscanlaw03.FractionOrder', WHERE WHAT IT READS IS OF BULK AT MOST 1048576: true; the input reads as it did. -/
def fractionOrderUptoRow : OpenClaim := { program := "ytfhbigfbeppinaagreatdoor", sum := "c5dfd1df5c510c34b8a2053832d60540fb735d13ab4971819e9daa430c74dcc1", func := "barscan/barscanlaw03.FractionOrder", spec := "fractionOrder", inPlace := ["internal/bytealg.IndexByteString", "internal/bytealg.IndexString", "internal/abi.NoEscape", "internal/bytealg.MakeNoZero"], named := ["internal/bytealg.MaxLen", "internal/strconv.uint64pow10", "math/bits.deBruijn32tab", "math/bits.deBruijn64tab"], apart := false, laid := [("math/bits.deBruijn32tab", laid_math_bits_deBruijn32tab), ("math/bits.deBruijn64tab", laid_math_bits_deBruijn64tab), ("internal/strconv.uint64pow10", laid_internal_strconv_uint64pow10)], narrowed := true }
def FractionOrderUptoSaid : Prop := fractionOrderUptoRow.holds Tryz.pinned (OpenSpec.upto fractionOrderSpec)

/-- 'barscanlaw03.FractionMinimal', WHERE WHAT IT READS IS OF BULK AT MOST 1048576: true; the input reads as it did. -/
def fractionMinimalUptoRow : OpenClaim := { program := "ytfhbigfbeppinaagreatdoor", sum := "c5dfd1df5c510c34b8a2053832d60540fb735d13ab4971819e9daa430c74dcc1", func := "barscan/barscanlaw03.FractionMinimal", spec := "fractionMinimal", inPlace := ["internal/bytealg.IndexByteString", "internal/bytealg.IndexString", "internal/abi.NoEscape", "internal/bytealg.MakeNoZero"], named := ["internal/bytealg.MaxLen", "internal/strconv.uint64pow10", "math/bits.deBruijn32tab", "math/bits.deBruijn64tab"], apart := false, laid := [("math/bits.deBruijn32tab", laid_math_bits_deBruijn32tab), ("math/bits.deBruijn64tab", laid_math_bits_deBruijn64tab), ("internal/strconv.uint64pow10", laid_internal_strconv_uint64pow10)], narrowed := true }
def FractionMinimalUptoSaid : Prop := fractionMinimalUptoRow.holds Tryz.pinned (OpenSpec.upto fractionMinimalSpec)

/-- 'barscanlaw03.FractionCompares', WHERE WHAT IT READS IS OF BULK AT MOST 1048576: true; the input reads as it did. -/
def fractionComparesUptoRow : OpenClaim := { program := "ytfhbigfbeppinaagreatdoor", sum := "c5dfd1df5c510c34b8a2053832d60540fb735d13ab4971819e9daa430c74dcc1", func := "barscan/barscanlaw03.FractionCompares", spec := "fractionCompares", inPlace := ["internal/bytealg.IndexByteString", "internal/bytealg.IndexString", "internal/abi.NoEscape", "internal/bytealg.MakeNoZero"], named := ["internal/bytealg.MaxLen", "internal/strconv.uint64pow10", "math/bits.deBruijn32tab", "math/bits.deBruijn64tab"], apart := false, laid := [("math/bits.deBruijn32tab", laid_math_bits_deBruijn32tab), ("math/bits.deBruijn64tab", laid_math_bits_deBruijn64tab), ("internal/strconv.uint64pow10", laid_internal_strconv_uint64pow10)], narrowed := true }
def FractionComparesUptoSaid : Prop := fractionComparesUptoRow.holds Tryz.pinned (OpenSpec.upto fractionComparesSpec)

/-- 'barscanlaw03.FractionNearest', WHERE WHAT IT READS IS OF BULK AT MOST 1048576: true; the input reads as it did. -/
def fractionNearestUptoRow : OpenClaim := { program := "ytfhbigfbeppinaagreatdoor", sum := "c5dfd1df5c510c34b8a2053832d60540fb735d13ab4971819e9daa430c74dcc1", func := "barscan/barscanlaw03.FractionNearest", spec := "fractionNearest", inPlace := ["internal/bytealg.IndexByteString", "internal/bytealg.IndexString", "internal/abi.NoEscape", "internal/bytealg.MakeNoZero"], named := ["internal/bytealg.MaxLen", "internal/strconv.uint64pow10", "math/bits.deBruijn32tab", "math/bits.deBruijn64tab"], apart := false, laid := [("math/bits.deBruijn32tab", laid_math_bits_deBruijn32tab), ("math/bits.deBruijn64tab", laid_math_bits_deBruijn64tab), ("internal/strconv.uint64pow10", laid_internal_strconv_uint64pow10)], narrowed := true }
def FractionNearestUptoSaid : Prop := fractionNearestUptoRow.holds Tryz.pinned (OpenSpec.upto fractionNearestSpec)

/-- 'barscanlaw03.FractionFresh', WHERE WHAT IT READS IS OF BULK AT MOST 1048576: true; the input reads as it did. -/
def fractionFreshUptoRow : OpenClaim := { program := "ytfhbigfbeppinaagreatdoor", sum := "c5dfd1df5c510c34b8a2053832d60540fb735d13ab4971819e9daa430c74dcc1", func := "barscan/barscanlaw03.FractionFresh", spec := "fractionFresh", inPlace := ["internal/bytealg.IndexByteString", "internal/bytealg.IndexString", "internal/abi.NoEscape", "internal/bytealg.MakeNoZero"], named := ["internal/bytealg.MaxLen", "internal/strconv.uint64pow10", "math/bits.deBruijn32tab", "math/bits.deBruijn64tab"], apart := false, laid := [("math/bits.deBruijn32tab", laid_math_bits_deBruijn32tab), ("math/bits.deBruijn64tab", laid_math_bits_deBruijn64tab), ("internal/strconv.uint64pow10", laid_internal_strconv_uint64pow10)], narrowed := true }
def FractionFreshUptoSaid : Prop := fractionFreshUptoRow.holds Tryz.pinned (OpenSpec.upto fractionFreshSpec)

end Rows
end Go.Proofs.YtfhbigfbeppinaaGreatDoor
