/-
  NARROWER THAN 'FOR EVERY INPUT', by the rows' own cells (each row's printed sentence says how): BigintDivides: laid · BigintPowers: laid · BigintTexts: laid · BigintMultiplies: laid · BigintPowerLaw: laid · BigintConverts: laid · BigintDigits: laid · BigintRing: laid · BigintOrder: laid · BigintRoundTrips: laid · BigintAdds: laid · BigintEuclid: laid.
  DERIVED. THE GIVEN ROWS OF THIS SEAT. 12 by the template 'for every input the law returns true; each argument reads behind the call as it read before'; 0 by the template 'total and deterministic' (their statements: YtkfpcohdbbhmaaaDoorTotals.lean).
  GIVEN WITH THE SEED: the statements are not yours to turn. If you find one false, say at which input.
  Laid BY PROGRAM, IN A SANDBOX (cutbox-rows.mjs): the forced cells as the released guide's own fill.sh prints them over the translation 40aa9b3b223b697d… (all of the seat's roots in one cut). By AI agents, Wed Nov 11 2026. No macro, syntax, notation, axiom, sorry.
-/
import Derived.Test.YtkfpcohdbbhmaaaDoorChecked
import GoSem.Claim
import GoSem.ClaimJoined
import GoSem.ClaimMapViews
import Derived.JoinedTies
import Derived.KernelRfl
namespace Go.Proofs.YtkfpcohdbbhmaaaDoor
/- THE CELL 'sum', in the pinned program and in every row, IS THE sha256 OF THE DUMP (.gsa) THAT YtkfpcohdbbhmaaaDoorProg.lean LOADS. Nothing in Lean hashes anything: it is a label: what it is worth is what the hold of that sum in a sandbox is worth. -/
noncomputable def Tryd.pinned : Pinned := { name := "ytkfpcohdbbhmaaadoor", sum := "40aa9b3b223b697da1ef7188bccbe325ade6a7ed6965767dc41427855b0639b6", checked := Tryd.checked }
namespace Rows
def none {H : Type} : Left H := { results := [], args := [] }

/- WHAT THE LISTED PACKAGE-LEVEL VARIABLES READ AS WHEN THE CALL BEGINS. Each datum BY PROGRAM (the guide's laid-datum.mjs) off the statement by which the dump's own 'gosem.cut.vars' lays the variable. In a bare row this is a premise. The card (YtkfpcohdbbhmaaaDoorCards.lean) ties it to the program's text. -/
def laid_math_bits_deBruijn32tab {H : Type} : DataW H := .agg [.lit (.int .u8 0), .lit (.int .u8 1), .lit (.int .u8 28), .lit (.int .u8 2), .lit (.int .u8 29), .lit (.int .u8 14), .lit (.int .u8 24), .lit (.int .u8 3), .lit (.int .u8 30), .lit (.int .u8 22), .lit (.int .u8 20), .lit (.int .u8 15), .lit (.int .u8 25), .lit (.int .u8 17), .lit (.int .u8 4), .lit (.int .u8 8), .lit (.int .u8 31), .lit (.int .u8 27), .lit (.int .u8 13), .lit (.int .u8 23), .lit (.int .u8 21), .lit (.int .u8 19), .lit (.int .u8 16), .lit (.int .u8 7), .lit (.int .u8 26), .lit (.int .u8 12), .lit (.int .u8 18), .lit (.int .u8 6), .lit (.int .u8 11), .lit (.int .u8 5), .lit (.int .u8 10), .lit (.int .u8 9)]
def laid_math_bits_deBruijn64tab {H : Type} : DataW H := .agg [.lit (.int .u8 0), .lit (.int .u8 1), .lit (.int .u8 56), .lit (.int .u8 2), .lit (.int .u8 57), .lit (.int .u8 49), .lit (.int .u8 28), .lit (.int .u8 3), .lit (.int .u8 61), .lit (.int .u8 58), .lit (.int .u8 42), .lit (.int .u8 50), .lit (.int .u8 38), .lit (.int .u8 29), .lit (.int .u8 17), .lit (.int .u8 4), .lit (.int .u8 62), .lit (.int .u8 47), .lit (.int .u8 59), .lit (.int .u8 36), .lit (.int .u8 45), .lit (.int .u8 43), .lit (.int .u8 51), .lit (.int .u8 22), .lit (.int .u8 53), .lit (.int .u8 39), .lit (.int .u8 33), .lit (.int .u8 30), .lit (.int .u8 24), .lit (.int .u8 18), .lit (.int .u8 12), .lit (.int .u8 5), .lit (.int .u8 63), .lit (.int .u8 55), .lit (.int .u8 48), .lit (.int .u8 27), .lit (.int .u8 60), .lit (.int .u8 41), .lit (.int .u8 37), .lit (.int .u8 16), .lit (.int .u8 46), .lit (.int .u8 35), .lit (.int .u8 44), .lit (.int .u8 21), .lit (.int .u8 52), .lit (.int .u8 32), .lit (.int .u8 23), .lit (.int .u8 11), .lit (.int .u8 54), .lit (.int .u8 26), .lit (.int .u8 40), .lit (.int .u8 15), .lit (.int .u8 34), .lit (.int .u8 20), .lit (.int .u8 31), .lit (.int .u8 10), .lit (.int .u8 25), .lit (.int .u8 14), .lit (.int .u8 19), .lit (.int .u8 9), .lit (.int .u8 13), .lit (.int .u8 8), .lit (.int .u8 7), .lit (.int .u8 6)]
def laid_internal_strconv_uint64pow10 {H : Type} : DataW H := .agg [.lit (.int .u64 1), .lit (.int .u64 10), .lit (.int .u64 100), .lit (.int .u64 1000), .lit (.int .u64 10000), .lit (.int .u64 100000), .lit (.int .u64 1000000), .lit (.int .u64 10000000), .lit (.int .u64 100000000), .lit (.int .u64 1000000000), .lit (.int .u64 10000000000), .lit (.int .u64 100000000000), .lit (.int .u64 1000000000000), .lit (.int .u64 10000000000000), .lit (.int .u64 100000000000000), .lit (.int .u64 1000000000000000), .lit (.int .u64 10000000000000000), .lit (.int .u64 100000000000000000), .lit (.int .u64 1000000000000000000), .lit (.int .u64 10000000000000000000)]

/-- 'barscanlaw02.BigintDivides': WHATEVER THE INPUT: true; the input reads as it did. -/
def bigintDividesSpec : ChangeSpec := { name := "bigintDivides", fn := fun _ => fun
  | [d1, d2] => { results := [.lit (.bool true)], args := [d1, d2] }
  | _ => none }
def bigintDividesRow : OpenClaim := { program := "ytkfpcohdbbhmaaadoor", sum := "40aa9b3b223b697da1ef7188bccbe325ade6a7ed6965767dc41427855b0639b6", func := "barscan/barscanlaw02.BigintDivides", spec := "bigintDivides", inPlace := ["internal/abi.NoEscape", "internal/bytealg.MakeNoZero"], named := ["internal/strconv.uint64pow10", "math/bits.deBruijn32tab", "math/bits.deBruijn64tab"], apart := false, laid := [("math/bits.deBruijn32tab", laid_math_bits_deBruijn32tab), ("math/bits.deBruijn64tab", laid_math_bits_deBruijn64tab), ("internal/strconv.uint64pow10", laid_internal_strconv_uint64pow10)] }
def BigintDividesSaid : Prop := bigintDividesRow.holds Tryd.pinned (OpenSpec.ofChange bigintDividesSpec)

/-- ITS FALSE NEIGHBOUR: 'it returns false'. Refute it at one input. -/
def bigintDividesWrong : ChangeSpec := { name := "bigintDivides", fn := fun _ => fun
  | [d1, d2] => { results := [.lit (.bool false)], args := [d1, d2] }
  | _ => none }
def BigintDividesWrongFalsely : Prop := bigintDividesRow.holds Tryd.pinned (OpenSpec.ofChange bigintDividesWrong)

/-- 'barscanlaw02.BigintPowers': WHATEVER THE INPUT: true; the input reads as it did. -/
def bigintPowersSpec : ChangeSpec := { name := "bigintPowers", fn := fun _ => fun
  | [d1, d2] => { results := [.lit (.bool true)], args := [d1, d2] }
  | _ => none }
def bigintPowersRow : OpenClaim := { program := "ytkfpcohdbbhmaaadoor", sum := "40aa9b3b223b697da1ef7188bccbe325ade6a7ed6965767dc41427855b0639b6", func := "barscan/barscanlaw02.BigintPowers", spec := "bigintPowers", inPlace := ["internal/abi.NoEscape", "internal/bytealg.MakeNoZero"], named := ["internal/strconv.uint64pow10", "math/bits.deBruijn32tab", "math/bits.deBruijn64tab"], apart := false, laid := [("math/bits.deBruijn32tab", laid_math_bits_deBruijn32tab), ("math/bits.deBruijn64tab", laid_math_bits_deBruijn64tab), ("internal/strconv.uint64pow10", laid_internal_strconv_uint64pow10)] }
def BigintPowersSaid : Prop := bigintPowersRow.holds Tryd.pinned (OpenSpec.ofChange bigintPowersSpec)

/-- ITS FALSE NEIGHBOUR: 'it returns false'. Refute it at one input. -/
def bigintPowersWrong : ChangeSpec := { name := "bigintPowers", fn := fun _ => fun
  | [d1, d2] => { results := [.lit (.bool false)], args := [d1, d2] }
  | _ => none }
def BigintPowersWrongFalsely : Prop := bigintPowersRow.holds Tryd.pinned (OpenSpec.ofChange bigintPowersWrong)

/-- 'barscanlaw02.BigintTexts': WHATEVER THE INPUT: true; the input reads as it did. -/
def bigintTextsSpec : ChangeSpec := { name := "bigintTexts", fn := fun _ => fun
  | [d1, d2] => { results := [.lit (.bool true)], args := [d1, d2] }
  | _ => none }
def bigintTextsRow : OpenClaim := { program := "ytkfpcohdbbhmaaadoor", sum := "40aa9b3b223b697da1ef7188bccbe325ade6a7ed6965767dc41427855b0639b6", func := "barscan/barscanlaw02.BigintTexts", spec := "bigintTexts", inPlace := ["internal/abi.NoEscape", "internal/bytealg.MakeNoZero"], named := ["internal/strconv.uint64pow10", "math/bits.deBruijn32tab", "math/bits.deBruijn64tab"], apart := false, laid := [("math/bits.deBruijn32tab", laid_math_bits_deBruijn32tab), ("math/bits.deBruijn64tab", laid_math_bits_deBruijn64tab), ("internal/strconv.uint64pow10", laid_internal_strconv_uint64pow10)] }
def BigintTextsSaid : Prop := bigintTextsRow.holds Tryd.pinned (OpenSpec.ofChange bigintTextsSpec)

/-- ITS FALSE NEIGHBOUR: 'it returns false'. Refute it at one input. -/
def bigintTextsWrong : ChangeSpec := { name := "bigintTexts", fn := fun _ => fun
  | [d1, d2] => { results := [.lit (.bool false)], args := [d1, d2] }
  | _ => none }
def BigintTextsWrongFalsely : Prop := bigintTextsRow.holds Tryd.pinned (OpenSpec.ofChange bigintTextsWrong)

/-- 'barscanlaw02.BigintMultiplies': WHATEVER THE INPUT: true; the input reads as it did. -/
def bigintMultipliesSpec : ChangeSpec := { name := "bigintMultiplies", fn := fun _ => fun
  | [d1, d2] => { results := [.lit (.bool true)], args := [d1, d2] }
  | _ => none }
def bigintMultipliesRow : OpenClaim := { program := "ytkfpcohdbbhmaaadoor", sum := "40aa9b3b223b697da1ef7188bccbe325ade6a7ed6965767dc41427855b0639b6", func := "barscan/barscanlaw02.BigintMultiplies", spec := "bigintMultiplies", inPlace := ["internal/abi.NoEscape", "internal/bytealg.MakeNoZero"], named := ["internal/strconv.uint64pow10", "math/bits.deBruijn32tab", "math/bits.deBruijn64tab"], apart := false, laid := [("math/bits.deBruijn32tab", laid_math_bits_deBruijn32tab), ("math/bits.deBruijn64tab", laid_math_bits_deBruijn64tab), ("internal/strconv.uint64pow10", laid_internal_strconv_uint64pow10)] }
def BigintMultipliesSaid : Prop := bigintMultipliesRow.holds Tryd.pinned (OpenSpec.ofChange bigintMultipliesSpec)

/-- ITS FALSE NEIGHBOUR: 'it returns false'. Refute it at one input. -/
def bigintMultipliesWrong : ChangeSpec := { name := "bigintMultiplies", fn := fun _ => fun
  | [d1, d2] => { results := [.lit (.bool false)], args := [d1, d2] }
  | _ => none }
def BigintMultipliesWrongFalsely : Prop := bigintMultipliesRow.holds Tryd.pinned (OpenSpec.ofChange bigintMultipliesWrong)

/-- 'barscanlaw02.BigintPowerLaw': WHATEVER THE INPUT: true; the input reads as it did. -/
def bigintPowerLawSpec : ChangeSpec := { name := "bigintPowerLaw", fn := fun _ => fun
  | [d1, d2, d3] => { results := [.lit (.bool true)], args := [d1, d2, d3] }
  | _ => none }
def bigintPowerLawRow : OpenClaim := { program := "ytkfpcohdbbhmaaadoor", sum := "40aa9b3b223b697da1ef7188bccbe325ade6a7ed6965767dc41427855b0639b6", func := "barscan/barscanlaw02.BigintPowerLaw", spec := "bigintPowerLaw", inPlace := ["internal/abi.NoEscape", "internal/bytealg.MakeNoZero"], named := ["internal/strconv.uint64pow10", "math/bits.deBruijn32tab", "math/bits.deBruijn64tab"], apart := false, laid := [("math/bits.deBruijn32tab", laid_math_bits_deBruijn32tab), ("math/bits.deBruijn64tab", laid_math_bits_deBruijn64tab), ("internal/strconv.uint64pow10", laid_internal_strconv_uint64pow10)] }
def BigintPowerLawSaid : Prop := bigintPowerLawRow.holds Tryd.pinned (OpenSpec.ofChange bigintPowerLawSpec)

/-- ITS FALSE NEIGHBOUR: 'it returns false'. Refute it at one input. -/
def bigintPowerLawWrong : ChangeSpec := { name := "bigintPowerLaw", fn := fun _ => fun
  | [d1, d2, d3] => { results := [.lit (.bool false)], args := [d1, d2, d3] }
  | _ => none }
def BigintPowerLawWrongFalsely : Prop := bigintPowerLawRow.holds Tryd.pinned (OpenSpec.ofChange bigintPowerLawWrong)

/-- 'barscanlaw02.BigintConverts': WHATEVER THE INPUT: true; the input reads as it did. -/
def bigintConvertsSpec : ChangeSpec := { name := "bigintConverts", fn := fun _ => fun
  | [d1, d2] => { results := [.lit (.bool true)], args := [d1, d2] }
  | _ => none }
def bigintConvertsRow : OpenClaim := { program := "ytkfpcohdbbhmaaadoor", sum := "40aa9b3b223b697da1ef7188bccbe325ade6a7ed6965767dc41427855b0639b6", func := "barscan/barscanlaw02.BigintConverts", spec := "bigintConverts", inPlace := ["internal/abi.NoEscape", "internal/bytealg.MakeNoZero"], named := ["internal/strconv.uint64pow10", "math/bits.deBruijn32tab", "math/bits.deBruijn64tab"], apart := false, laid := [("math/bits.deBruijn32tab", laid_math_bits_deBruijn32tab), ("math/bits.deBruijn64tab", laid_math_bits_deBruijn64tab), ("internal/strconv.uint64pow10", laid_internal_strconv_uint64pow10)] }
def BigintConvertsSaid : Prop := bigintConvertsRow.holds Tryd.pinned (OpenSpec.ofChange bigintConvertsSpec)

/-- ITS FALSE NEIGHBOUR: 'it returns false'. Refute it at one input. -/
def bigintConvertsWrong : ChangeSpec := { name := "bigintConverts", fn := fun _ => fun
  | [d1, d2] => { results := [.lit (.bool false)], args := [d1, d2] }
  | _ => none }
def BigintConvertsWrongFalsely : Prop := bigintConvertsRow.holds Tryd.pinned (OpenSpec.ofChange bigintConvertsWrong)

/-- 'barscanlaw02.BigintDigits': WHATEVER THE INPUT: true; the input reads as it did. -/
def bigintDigitsSpec : ChangeSpec := { name := "bigintDigits", fn := fun _ => fun
  | [d1, d2, d3] => { results := [.lit (.bool true)], args := [d1, d2, d3] }
  | _ => none }
def bigintDigitsRow : OpenClaim := { program := "ytkfpcohdbbhmaaadoor", sum := "40aa9b3b223b697da1ef7188bccbe325ade6a7ed6965767dc41427855b0639b6", func := "barscan/barscanlaw02.BigintDigits", spec := "bigintDigits", inPlace := ["internal/abi.NoEscape", "internal/bytealg.MakeNoZero"], named := ["internal/strconv.uint64pow10", "math/bits.deBruijn32tab", "math/bits.deBruijn64tab"], apart := false, laid := [("math/bits.deBruijn32tab", laid_math_bits_deBruijn32tab), ("math/bits.deBruijn64tab", laid_math_bits_deBruijn64tab), ("internal/strconv.uint64pow10", laid_internal_strconv_uint64pow10)] }
def BigintDigitsSaid : Prop := bigintDigitsRow.holds Tryd.pinned (OpenSpec.ofChange bigintDigitsSpec)

/-- ITS FALSE NEIGHBOUR: 'it returns false'. Refute it at one input. -/
def bigintDigitsWrong : ChangeSpec := { name := "bigintDigits", fn := fun _ => fun
  | [d1, d2, d3] => { results := [.lit (.bool false)], args := [d1, d2, d3] }
  | _ => none }
def BigintDigitsWrongFalsely : Prop := bigintDigitsRow.holds Tryd.pinned (OpenSpec.ofChange bigintDigitsWrong)

/-- 'barscanlaw02.BigintRing': WHATEVER THE INPUT: true; the input reads as it did. -/
def bigintRingSpec : ChangeSpec := { name := "bigintRing", fn := fun _ => fun
  | [d1, d2, d3] => { results := [.lit (.bool true)], args := [d1, d2, d3] }
  | _ => none }
def bigintRingRow : OpenClaim := { program := "ytkfpcohdbbhmaaadoor", sum := "40aa9b3b223b697da1ef7188bccbe325ade6a7ed6965767dc41427855b0639b6", func := "barscan/barscanlaw02.BigintRing", spec := "bigintRing", inPlace := ["internal/abi.NoEscape", "internal/bytealg.MakeNoZero"], named := ["internal/strconv.uint64pow10", "math/bits.deBruijn32tab", "math/bits.deBruijn64tab"], apart := false, laid := [("math/bits.deBruijn32tab", laid_math_bits_deBruijn32tab), ("math/bits.deBruijn64tab", laid_math_bits_deBruijn64tab), ("internal/strconv.uint64pow10", laid_internal_strconv_uint64pow10)] }
def BigintRingSaid : Prop := bigintRingRow.holds Tryd.pinned (OpenSpec.ofChange bigintRingSpec)

/-- ITS FALSE NEIGHBOUR: 'it returns false'. Refute it at one input. -/
def bigintRingWrong : ChangeSpec := { name := "bigintRing", fn := fun _ => fun
  | [d1, d2, d3] => { results := [.lit (.bool false)], args := [d1, d2, d3] }
  | _ => none }
def BigintRingWrongFalsely : Prop := bigintRingRow.holds Tryd.pinned (OpenSpec.ofChange bigintRingWrong)

/-- 'barscanlaw02.BigintOrder': WHATEVER THE INPUT: true; the input reads as it did. -/
def bigintOrderSpec : ChangeSpec := { name := "bigintOrder", fn := fun _ => fun
  | [d1, d2, d3] => { results := [.lit (.bool true)], args := [d1, d2, d3] }
  | _ => none }
def bigintOrderRow : OpenClaim := { program := "ytkfpcohdbbhmaaadoor", sum := "40aa9b3b223b697da1ef7188bccbe325ade6a7ed6965767dc41427855b0639b6", func := "barscan/barscanlaw02.BigintOrder", spec := "bigintOrder", inPlace := ["internal/abi.NoEscape", "internal/bytealg.MakeNoZero"], named := ["internal/strconv.uint64pow10", "math/bits.deBruijn32tab", "math/bits.deBruijn64tab"], apart := false, laid := [("math/bits.deBruijn32tab", laid_math_bits_deBruijn32tab), ("math/bits.deBruijn64tab", laid_math_bits_deBruijn64tab), ("internal/strconv.uint64pow10", laid_internal_strconv_uint64pow10)] }
def BigintOrderSaid : Prop := bigintOrderRow.holds Tryd.pinned (OpenSpec.ofChange bigintOrderSpec)

/-- ITS FALSE NEIGHBOUR: 'it returns false'. Refute it at one input. -/
def bigintOrderWrong : ChangeSpec := { name := "bigintOrder", fn := fun _ => fun
  | [d1, d2, d3] => { results := [.lit (.bool false)], args := [d1, d2, d3] }
  | _ => none }
def BigintOrderWrongFalsely : Prop := bigintOrderRow.holds Tryd.pinned (OpenSpec.ofChange bigintOrderWrong)

/-- 'barscanlaw02.BigintRoundTrips': WHATEVER THE INPUT: true; the input reads as it did. -/
def bigintRoundTripsSpec : ChangeSpec := { name := "bigintRoundTrips", fn := fun _ => fun
  | [d1, d2] => { results := [.lit (.bool true)], args := [d1, d2] }
  | _ => none }
def bigintRoundTripsRow : OpenClaim := { program := "ytkfpcohdbbhmaaadoor", sum := "40aa9b3b223b697da1ef7188bccbe325ade6a7ed6965767dc41427855b0639b6", func := "barscan/barscanlaw02.BigintRoundTrips", spec := "bigintRoundTrips", inPlace := ["internal/abi.NoEscape", "internal/bytealg.MakeNoZero"], named := ["internal/strconv.uint64pow10", "math/bits.deBruijn32tab", "math/bits.deBruijn64tab"], apart := false, laid := [("math/bits.deBruijn32tab", laid_math_bits_deBruijn32tab), ("math/bits.deBruijn64tab", laid_math_bits_deBruijn64tab), ("internal/strconv.uint64pow10", laid_internal_strconv_uint64pow10)] }
def BigintRoundTripsSaid : Prop := bigintRoundTripsRow.holds Tryd.pinned (OpenSpec.ofChange bigintRoundTripsSpec)

/-- ITS FALSE NEIGHBOUR: 'it returns false'. Refute it at one input. -/
def bigintRoundTripsWrong : ChangeSpec := { name := "bigintRoundTrips", fn := fun _ => fun
  | [d1, d2] => { results := [.lit (.bool false)], args := [d1, d2] }
  | _ => none }
def BigintRoundTripsWrongFalsely : Prop := bigintRoundTripsRow.holds Tryd.pinned (OpenSpec.ofChange bigintRoundTripsWrong)

/-- 'barscanlaw02.BigintAdds': WHATEVER THE INPUT: true; the input reads as it did. -/
def bigintAddsSpec : ChangeSpec := { name := "bigintAdds", fn := fun _ => fun
  | [d1, d2] => { results := [.lit (.bool true)], args := [d1, d2] }
  | _ => none }
def bigintAddsRow : OpenClaim := { program := "ytkfpcohdbbhmaaadoor", sum := "40aa9b3b223b697da1ef7188bccbe325ade6a7ed6965767dc41427855b0639b6", func := "barscan/barscanlaw02.BigintAdds", spec := "bigintAdds", inPlace := ["internal/abi.NoEscape", "internal/bytealg.MakeNoZero"], named := ["internal/strconv.uint64pow10", "math/bits.deBruijn32tab", "math/bits.deBruijn64tab"], apart := false, laid := [("math/bits.deBruijn32tab", laid_math_bits_deBruijn32tab), ("math/bits.deBruijn64tab", laid_math_bits_deBruijn64tab), ("internal/strconv.uint64pow10", laid_internal_strconv_uint64pow10)] }
def BigintAddsSaid : Prop := bigintAddsRow.holds Tryd.pinned (OpenSpec.ofChange bigintAddsSpec)

/-- ITS FALSE NEIGHBOUR: 'it returns false'. Refute it at one input. -/
def bigintAddsWrong : ChangeSpec := { name := "bigintAdds", fn := fun _ => fun
  | [d1, d2] => { results := [.lit (.bool false)], args := [d1, d2] }
  | _ => none }
def BigintAddsWrongFalsely : Prop := bigintAddsRow.holds Tryd.pinned (OpenSpec.ofChange bigintAddsWrong)

/-- 'barscanlaw02.BigintEuclid': WHATEVER THE INPUT: true; the input reads as it did. -/
def bigintEuclidSpec : ChangeSpec := { name := "bigintEuclid", fn := fun _ => fun
  | [d1, d2] => { results := [.lit (.bool true)], args := [d1, d2] }
  | _ => none }
def bigintEuclidRow : OpenClaim := { program := "ytkfpcohdbbhmaaadoor", sum := "40aa9b3b223b697da1ef7188bccbe325ade6a7ed6965767dc41427855b0639b6", func := "barscan/barscanlaw02.BigintEuclid", spec := "bigintEuclid", inPlace := ["internal/abi.NoEscape", "internal/bytealg.MakeNoZero"], named := ["internal/strconv.uint64pow10", "math/bits.deBruijn32tab", "math/bits.deBruijn64tab"], apart := false, laid := [("math/bits.deBruijn32tab", laid_math_bits_deBruijn32tab), ("math/bits.deBruijn64tab", laid_math_bits_deBruijn64tab), ("internal/strconv.uint64pow10", laid_internal_strconv_uint64pow10)] }
def BigintEuclidSaid : Prop := bigintEuclidRow.holds Tryd.pinned (OpenSpec.ofChange bigintEuclidSpec)

/-- ITS FALSE NEIGHBOUR: 'it returns false'. Refute it at one input. -/
def bigintEuclidWrong : ChangeSpec := { name := "bigintEuclid", fn := fun _ => fun
  | [d1, d2] => { results := [.lit (.bool false)], args := [d1, d2] }
  | _ => none }
def BigintEuclidWrongFalsely : Prop := bigintEuclidRow.holds Tryd.pinned (OpenSpec.ofChange bigintEuclidWrong)

/- THE SECOND FORM. 'bulk': how many values and letters a reading holds, each counted each time it is reached (what is shared counts as often as it is met; a slice's spare places count too). A statement '..UptoSaid' is the law's where the arguments, and the package variables that the reading takes, are together of bulk at most 1048576: NARROWER than '..Said'. Prove '..Said' where nothing that the law and all that it calls make is longer than what came in: it says more and counts as full. Else prove '..UptoSaid'. A law counts once. -/
mutual
def uptoBulk {H : Type} : DataW H → Nat
  | .lit (.string bytes) => bytes.length + 1
  | .lit _ => 1
  | .nil => 1
  | .ptr d => uptoBulk d + 1
  | .slice elems spare => uptoBulkAll elems + uptoBulkAll spare + 1
  | .agg parts => uptoBulkAll parts + 1
  | .iface _ d => uptoBulk d + 1
  | .map entries => uptoBulkEntries entries + 1
  | .held _ => 1
def uptoBulkAll {H : Type} : List (DataW H) → Nat
  | [] => 0
  | d :: r => uptoBulk d + uptoBulkAll r
def uptoBulkEntries {H : Type} : List (Lit × DataW H) → Nat
  | [] => 0
  | x :: r => uptoBulkEntry x + uptoBulkEntries r
def uptoBulkEntry {H : Type} : Lit × DataW H → Nat
  | (.string bytes, d) => bytes.length + uptoBulk d + 1
  | (_, d) => uptoBulk d + 1
 end
def uptoSmall : (H : Type) → List (DataW H) → Bool := fun _ ds => decide (uptoBulkAll ds ≤ 1048576)
def OpenSpec.upto (s : _root_.Go.ChangeSpec) : _root_.Go.OpenSpec := { _root_.Go.OpenSpec.ofChange s with cond := some uptoSmall }

/-- 'barscanlaw02.BigintDivides', WHERE WHAT IT READS IS OF BULK AT MOST 1048576: true; the input reads as it did. -/
def bigintDividesUptoRow : OpenClaim := { program := "ytkfpcohdbbhmaaadoor", sum := "40aa9b3b223b697da1ef7188bccbe325ade6a7ed6965767dc41427855b0639b6", func := "barscan/barscanlaw02.BigintDivides", spec := "bigintDivides", inPlace := ["internal/abi.NoEscape", "internal/bytealg.MakeNoZero"], named := ["internal/strconv.uint64pow10", "math/bits.deBruijn32tab", "math/bits.deBruijn64tab"], apart := false, laid := [("math/bits.deBruijn32tab", laid_math_bits_deBruijn32tab), ("math/bits.deBruijn64tab", laid_math_bits_deBruijn64tab), ("internal/strconv.uint64pow10", laid_internal_strconv_uint64pow10)], narrowed := true }
def BigintDividesUptoSaid : Prop := bigintDividesUptoRow.holds Tryd.pinned (OpenSpec.upto bigintDividesSpec)

/-- 'barscanlaw02.BigintPowers', WHERE WHAT IT READS IS OF BULK AT MOST 1048576: true; the input reads as it did. -/
def bigintPowersUptoRow : OpenClaim := { program := "ytkfpcohdbbhmaaadoor", sum := "40aa9b3b223b697da1ef7188bccbe325ade6a7ed6965767dc41427855b0639b6", func := "barscan/barscanlaw02.BigintPowers", spec := "bigintPowers", inPlace := ["internal/abi.NoEscape", "internal/bytealg.MakeNoZero"], named := ["internal/strconv.uint64pow10", "math/bits.deBruijn32tab", "math/bits.deBruijn64tab"], apart := false, laid := [("math/bits.deBruijn32tab", laid_math_bits_deBruijn32tab), ("math/bits.deBruijn64tab", laid_math_bits_deBruijn64tab), ("internal/strconv.uint64pow10", laid_internal_strconv_uint64pow10)], narrowed := true }
def BigintPowersUptoSaid : Prop := bigintPowersUptoRow.holds Tryd.pinned (OpenSpec.upto bigintPowersSpec)

/-- 'barscanlaw02.BigintTexts', WHERE WHAT IT READS IS OF BULK AT MOST 1048576: true; the input reads as it did. -/
def bigintTextsUptoRow : OpenClaim := { program := "ytkfpcohdbbhmaaadoor", sum := "40aa9b3b223b697da1ef7188bccbe325ade6a7ed6965767dc41427855b0639b6", func := "barscan/barscanlaw02.BigintTexts", spec := "bigintTexts", inPlace := ["internal/abi.NoEscape", "internal/bytealg.MakeNoZero"], named := ["internal/strconv.uint64pow10", "math/bits.deBruijn32tab", "math/bits.deBruijn64tab"], apart := false, laid := [("math/bits.deBruijn32tab", laid_math_bits_deBruijn32tab), ("math/bits.deBruijn64tab", laid_math_bits_deBruijn64tab), ("internal/strconv.uint64pow10", laid_internal_strconv_uint64pow10)], narrowed := true }
def BigintTextsUptoSaid : Prop := bigintTextsUptoRow.holds Tryd.pinned (OpenSpec.upto bigintTextsSpec)

/-- 'barscanlaw02.BigintMultiplies', WHERE WHAT IT READS IS OF BULK AT MOST 1048576: true; the input reads as it did. -/
def bigintMultipliesUptoRow : OpenClaim := { program := "ytkfpcohdbbhmaaadoor", sum := "40aa9b3b223b697da1ef7188bccbe325ade6a7ed6965767dc41427855b0639b6", func := "barscan/barscanlaw02.BigintMultiplies", spec := "bigintMultiplies", inPlace := ["internal/abi.NoEscape", "internal/bytealg.MakeNoZero"], named := ["internal/strconv.uint64pow10", "math/bits.deBruijn32tab", "math/bits.deBruijn64tab"], apart := false, laid := [("math/bits.deBruijn32tab", laid_math_bits_deBruijn32tab), ("math/bits.deBruijn64tab", laid_math_bits_deBruijn64tab), ("internal/strconv.uint64pow10", laid_internal_strconv_uint64pow10)], narrowed := true }
def BigintMultipliesUptoSaid : Prop := bigintMultipliesUptoRow.holds Tryd.pinned (OpenSpec.upto bigintMultipliesSpec)

/-- 'barscanlaw02.BigintPowerLaw', WHERE WHAT IT READS IS OF BULK AT MOST 1048576: true; the input reads as it did. -/
def bigintPowerLawUptoRow : OpenClaim := { program := "ytkfpcohdbbhmaaadoor", sum := "40aa9b3b223b697da1ef7188bccbe325ade6a7ed6965767dc41427855b0639b6", func := "barscan/barscanlaw02.BigintPowerLaw", spec := "bigintPowerLaw", inPlace := ["internal/abi.NoEscape", "internal/bytealg.MakeNoZero"], named := ["internal/strconv.uint64pow10", "math/bits.deBruijn32tab", "math/bits.deBruijn64tab"], apart := false, laid := [("math/bits.deBruijn32tab", laid_math_bits_deBruijn32tab), ("math/bits.deBruijn64tab", laid_math_bits_deBruijn64tab), ("internal/strconv.uint64pow10", laid_internal_strconv_uint64pow10)], narrowed := true }
def BigintPowerLawUptoSaid : Prop := bigintPowerLawUptoRow.holds Tryd.pinned (OpenSpec.upto bigintPowerLawSpec)

/-- 'barscanlaw02.BigintConverts', WHERE WHAT IT READS IS OF BULK AT MOST 1048576: true; the input reads as it did. -/
def bigintConvertsUptoRow : OpenClaim := { program := "ytkfpcohdbbhmaaadoor", sum := "40aa9b3b223b697da1ef7188bccbe325ade6a7ed6965767dc41427855b0639b6", func := "barscan/barscanlaw02.BigintConverts", spec := "bigintConverts", inPlace := ["internal/abi.NoEscape", "internal/bytealg.MakeNoZero"], named := ["internal/strconv.uint64pow10", "math/bits.deBruijn32tab", "math/bits.deBruijn64tab"], apart := false, laid := [("math/bits.deBruijn32tab", laid_math_bits_deBruijn32tab), ("math/bits.deBruijn64tab", laid_math_bits_deBruijn64tab), ("internal/strconv.uint64pow10", laid_internal_strconv_uint64pow10)], narrowed := true }
def BigintConvertsUptoSaid : Prop := bigintConvertsUptoRow.holds Tryd.pinned (OpenSpec.upto bigintConvertsSpec)

/-- 'barscanlaw02.BigintDigits', WHERE WHAT IT READS IS OF BULK AT MOST 1048576: true; the input reads as it did. -/
def bigintDigitsUptoRow : OpenClaim := { program := "ytkfpcohdbbhmaaadoor", sum := "40aa9b3b223b697da1ef7188bccbe325ade6a7ed6965767dc41427855b0639b6", func := "barscan/barscanlaw02.BigintDigits", spec := "bigintDigits", inPlace := ["internal/abi.NoEscape", "internal/bytealg.MakeNoZero"], named := ["internal/strconv.uint64pow10", "math/bits.deBruijn32tab", "math/bits.deBruijn64tab"], apart := false, laid := [("math/bits.deBruijn32tab", laid_math_bits_deBruijn32tab), ("math/bits.deBruijn64tab", laid_math_bits_deBruijn64tab), ("internal/strconv.uint64pow10", laid_internal_strconv_uint64pow10)], narrowed := true }
def BigintDigitsUptoSaid : Prop := bigintDigitsUptoRow.holds Tryd.pinned (OpenSpec.upto bigintDigitsSpec)

/-- 'barscanlaw02.BigintRing', WHERE WHAT IT READS IS OF BULK AT MOST 1048576: true; the input reads as it did. -/
def bigintRingUptoRow : OpenClaim := { program := "ytkfpcohdbbhmaaadoor", sum := "40aa9b3b223b697da1ef7188bccbe325ade6a7ed6965767dc41427855b0639b6", func := "barscan/barscanlaw02.BigintRing", spec := "bigintRing", inPlace := ["internal/abi.NoEscape", "internal/bytealg.MakeNoZero"], named := ["internal/strconv.uint64pow10", "math/bits.deBruijn32tab", "math/bits.deBruijn64tab"], apart := false, laid := [("math/bits.deBruijn32tab", laid_math_bits_deBruijn32tab), ("math/bits.deBruijn64tab", laid_math_bits_deBruijn64tab), ("internal/strconv.uint64pow10", laid_internal_strconv_uint64pow10)], narrowed := true }
def BigintRingUptoSaid : Prop := bigintRingUptoRow.holds Tryd.pinned (OpenSpec.upto bigintRingSpec)

/-- 'barscanlaw02.BigintOrder', WHERE WHAT IT READS IS OF BULK AT MOST 1048576: true; the input reads as it did. -/
def bigintOrderUptoRow : OpenClaim := { program := "ytkfpcohdbbhmaaadoor", sum := "40aa9b3b223b697da1ef7188bccbe325ade6a7ed6965767dc41427855b0639b6", func := "barscan/barscanlaw02.BigintOrder", spec := "bigintOrder", inPlace := ["internal/abi.NoEscape", "internal/bytealg.MakeNoZero"], named := ["internal/strconv.uint64pow10", "math/bits.deBruijn32tab", "math/bits.deBruijn64tab"], apart := false, laid := [("math/bits.deBruijn32tab", laid_math_bits_deBruijn32tab), ("math/bits.deBruijn64tab", laid_math_bits_deBruijn64tab), ("internal/strconv.uint64pow10", laid_internal_strconv_uint64pow10)], narrowed := true }
def BigintOrderUptoSaid : Prop := bigintOrderUptoRow.holds Tryd.pinned (OpenSpec.upto bigintOrderSpec)

/-- 'barscanlaw02.BigintRoundTrips', WHERE WHAT IT READS IS OF BULK AT MOST 1048576: true; the input reads as it did. -/
def bigintRoundTripsUptoRow : OpenClaim := { program := "ytkfpcohdbbhmaaadoor", sum := "40aa9b3b223b697da1ef7188bccbe325ade6a7ed6965767dc41427855b0639b6", func := "barscan/barscanlaw02.BigintRoundTrips", spec := "bigintRoundTrips", inPlace := ["internal/abi.NoEscape", "internal/bytealg.MakeNoZero"], named := ["internal/strconv.uint64pow10", "math/bits.deBruijn32tab", "math/bits.deBruijn64tab"], apart := false, laid := [("math/bits.deBruijn32tab", laid_math_bits_deBruijn32tab), ("math/bits.deBruijn64tab", laid_math_bits_deBruijn64tab), ("internal/strconv.uint64pow10", laid_internal_strconv_uint64pow10)], narrowed := true }
def BigintRoundTripsUptoSaid : Prop := bigintRoundTripsUptoRow.holds Tryd.pinned (OpenSpec.upto bigintRoundTripsSpec)

/-- 'barscanlaw02.BigintAdds', WHERE WHAT IT READS IS OF BULK AT MOST 1048576: true; the input reads as it did. -/
def bigintAddsUptoRow : OpenClaim := { program := "ytkfpcohdbbhmaaadoor", sum := "40aa9b3b223b697da1ef7188bccbe325ade6a7ed6965767dc41427855b0639b6", func := "barscan/barscanlaw02.BigintAdds", spec := "bigintAdds", inPlace := ["internal/abi.NoEscape", "internal/bytealg.MakeNoZero"], named := ["internal/strconv.uint64pow10", "math/bits.deBruijn32tab", "math/bits.deBruijn64tab"], apart := false, laid := [("math/bits.deBruijn32tab", laid_math_bits_deBruijn32tab), ("math/bits.deBruijn64tab", laid_math_bits_deBruijn64tab), ("internal/strconv.uint64pow10", laid_internal_strconv_uint64pow10)], narrowed := true }
def BigintAddsUptoSaid : Prop := bigintAddsUptoRow.holds Tryd.pinned (OpenSpec.upto bigintAddsSpec)

/-- 'barscanlaw02.BigintEuclid', WHERE WHAT IT READS IS OF BULK AT MOST 1048576: true; the input reads as it did. -/
def bigintEuclidUptoRow : OpenClaim := { program := "ytkfpcohdbbhmaaadoor", sum := "40aa9b3b223b697da1ef7188bccbe325ade6a7ed6965767dc41427855b0639b6", func := "barscan/barscanlaw02.BigintEuclid", spec := "bigintEuclid", inPlace := ["internal/abi.NoEscape", "internal/bytealg.MakeNoZero"], named := ["internal/strconv.uint64pow10", "math/bits.deBruijn32tab", "math/bits.deBruijn64tab"], apart := false, laid := [("math/bits.deBruijn32tab", laid_math_bits_deBruijn32tab), ("math/bits.deBruijn64tab", laid_math_bits_deBruijn64tab), ("internal/strconv.uint64pow10", laid_internal_strconv_uint64pow10)], narrowed := true }
def BigintEuclidUptoSaid : Prop := bigintEuclidUptoRow.holds Tryd.pinned (OpenSpec.upto bigintEuclidSpec)

end Rows
end Go.Proofs.YtkfpcohdbbhmaaaDoor
