/-
  No cell of these rows narrows 'for every input' (looked for: loops, veiled, ifaces, maps, wideKeys, modest, calm, conditions, laid).
  DERIVED. THE GIVEN ROWS OF THIS SEAT. 7 by the template 'for every input the law returns true; each argument reads behind the call as it read before'; 0 by the template 'total and deterministic' (their statements: YtdkgbkbbbldliaaGreatTotals.lean).
  GIVEN WITH THE SEED: the statements are not yours to turn. If you find one false, say at which input.
  Laid BY PROGRAM, IN A SANDBOX (cutbox-rows.mjs): the forced cells as the released guide's own fill.sh prints them over the translation 672a66e38f43c5b5… (all of the seat's roots in one cut). By AI agents, Wed Nov 11 2026. No macro, syntax, notation, axiom, sorry.
-/
import Derived.Test.YtdkgbkbbbldliaaGreatChecked
import GoSem.Claim
import GoSem.ClaimJoined
import GoSem.ClaimMapViews
import Derived.JoinedTies
import Derived.KernelRfl
namespace Go.Proofs.YtdkgbkbbbldliaaGreat
/- THE CELL 'sum', in the pinned program and in every row, IS THE sha256 OF THE DUMP (.gsa) THAT YtdkgbkbbbldliaaGreatProg.lean LOADS. Nothing in Lean hashes anything: it is a label: what it is worth is what the hold of that sum in a sandbox is worth. -/
noncomputable def Tryz.pinned : Pinned := { name := "ytdkgbkbbbldliaagreat", sum := "672a66e38f43c5b559f495ad7443b95a0fb86be723937b0083fdf71140d48978", checked := Tryz.checked }
namespace Rows
def none {H : Type} : Left H := { results := [], args := [] }

/-- 'barscanlaw41.SamplingSamples': WHATEVER THE INPUT: true; the input reads as it did. -/
def samplingSamplesSpec : ChangeSpec := { name := "samplingSamples", fn := fun _ => fun
  | [d1, d2, d3, d4] => { results := [.lit (.bool true)], args := [d1, d2, d3, d4] }
  | _ => none }
def samplingSamplesRow : OpenClaim := { program := "ytdkgbkbbbldliaagreat", sum := "672a66e38f43c5b559f495ad7443b95a0fb86be723937b0083fdf71140d48978", func := "barscan/barscanlaw41.SamplingSamples", spec := "samplingSamples", apart := false }
def SamplingSamplesSaid : Prop := samplingSamplesRow.holds Tryz.pinned (OpenSpec.ofChange samplingSamplesSpec)

/-- ITS FALSE NEIGHBOUR: 'it returns false'. Refute it at one input. -/
def samplingSamplesWrong : ChangeSpec := { name := "samplingSamples", fn := fun _ => fun
  | [d1, d2, d3, d4] => { results := [.lit (.bool false)], args := [d1, d2, d3, d4] }
  | _ => none }
def SamplingSamplesWrongFalsely : Prop := samplingSamplesRow.holds Tryz.pinned (OpenSpec.ofChange samplingSamplesWrong)

/-- 'barscanlaw41.SamplingWarps': WHATEVER THE INPUT: true; the input reads as it did. -/
def samplingWarpsSpec : ChangeSpec := { name := "samplingWarps", fn := fun _ => fun
  | [d1, d2, d3, d4] => { results := [.lit (.bool true)], args := [d1, d2, d3, d4] }
  | _ => none }
def samplingWarpsRow : OpenClaim := { program := "ytdkgbkbbbldliaagreat", sum := "672a66e38f43c5b559f495ad7443b95a0fb86be723937b0083fdf71140d48978", func := "barscan/barscanlaw41.SamplingWarps", spec := "samplingWarps", apart := false }
def SamplingWarpsSaid : Prop := samplingWarpsRow.holds Tryz.pinned (OpenSpec.ofChange samplingWarpsSpec)

/-- ITS FALSE NEIGHBOUR: 'it returns false'. Refute it at one input. -/
def samplingWarpsWrong : ChangeSpec := { name := "samplingWarps", fn := fun _ => fun
  | [d1, d2, d3, d4] => { results := [.lit (.bool false)], args := [d1, d2, d3, d4] }
  | _ => none }
def SamplingWarpsWrongFalsely : Prop := samplingWarpsRow.holds Tryz.pinned (OpenSpec.ofChange samplingWarpsWrong)

/-- 'barscanlaw41.SamplingCorners': WHATEVER THE INPUT: true; the input reads as it did. -/
def samplingCornersSpec : ChangeSpec := { name := "samplingCorners", fn := fun _ => fun
  | [d1, d2, d3] => { results := [.lit (.bool true)], args := [d1, d2, d3] }
  | _ => none }
def samplingCornersRow : OpenClaim := { program := "ytdkgbkbbbldliaagreat", sum := "672a66e38f43c5b559f495ad7443b95a0fb86be723937b0083fdf71140d48978", func := "barscan/barscanlaw41.SamplingCorners", spec := "samplingCorners", apart := false }
def SamplingCornersSaid : Prop := samplingCornersRow.holds Tryz.pinned (OpenSpec.ofChange samplingCornersSpec)

/-- ITS FALSE NEIGHBOUR: 'it returns false'. Refute it at one input. -/
def samplingCornersWrong : ChangeSpec := { name := "samplingCorners", fn := fun _ => fun
  | [d1, d2, d3] => { results := [.lit (.bool false)], args := [d1, d2, d3] }
  | _ => none }
def SamplingCornersWrongFalsely : Prop := samplingCornersRow.holds Tryz.pinned (OpenSpec.ofChange samplingCornersWrong)

/-- 'barscanlaw41.SamplingDecides': WHATEVER THE INPUT: true; the input reads as it did. -/
def samplingDecidesSpec : ChangeSpec := { name := "samplingDecides", fn := fun _ => fun
  | [d1, d2, d3, d4, d5] => { results := [.lit (.bool true)], args := [d1, d2, d3, d4, d5] }
  | _ => none }
def samplingDecidesRow : OpenClaim := { program := "ytdkgbkbbbldliaagreat", sum := "672a66e38f43c5b559f495ad7443b95a0fb86be723937b0083fdf71140d48978", func := "barscan/barscanlaw41.SamplingDecides", spec := "samplingDecides", apart := false }
def SamplingDecidesSaid : Prop := samplingDecidesRow.holds Tryz.pinned (OpenSpec.ofChange samplingDecidesSpec)

/-- ITS FALSE NEIGHBOUR: 'it returns false'. Refute it at one input. -/
def samplingDecidesWrong : ChangeSpec := { name := "samplingDecides", fn := fun _ => fun
  | [d1, d2, d3, d4, d5] => { results := [.lit (.bool false)], args := [d1, d2, d3, d4, d5] }
  | _ => none }
def SamplingDecidesWrongFalsely : Prop := samplingDecidesRow.holds Tryz.pinned (OpenSpec.ofChange samplingDecidesWrong)

/-- 'barscanlaw41.SamplingFaithful': WHATEVER THE INPUT: true; the input reads as it did. -/
def samplingFaithfulSpec : ChangeSpec := { name := "samplingFaithful", fn := fun _ => fun
  | [d1, d2, d3, d4] => { results := [.lit (.bool true)], args := [d1, d2, d3, d4] }
  | _ => none }
def samplingFaithfulRow : OpenClaim := { program := "ytdkgbkbbbldliaagreat", sum := "672a66e38f43c5b559f495ad7443b95a0fb86be723937b0083fdf71140d48978", func := "barscan/barscanlaw41.SamplingFaithful", spec := "samplingFaithful", apart := false }
def SamplingFaithfulSaid : Prop := samplingFaithfulRow.holds Tryz.pinned (OpenSpec.ofChange samplingFaithfulSpec)

/-- ITS FALSE NEIGHBOUR: 'it returns false'. Refute it at one input. -/
def samplingFaithfulWrong : ChangeSpec := { name := "samplingFaithful", fn := fun _ => fun
  | [d1, d2, d3, d4] => { results := [.lit (.bool false)], args := [d1, d2, d3, d4] }
  | _ => none }
def SamplingFaithfulWrongFalsely : Prop := samplingFaithfulRow.holds Tryz.pinned (OpenSpec.ofChange samplingFaithfulWrong)

/-- 'barscanlaw41.SamplingScales': WHATEVER THE INPUT: true; the input reads as it did. -/
def samplingScalesSpec : ChangeSpec := { name := "samplingScales", fn := fun _ => fun
  | [d1, d2] => { results := [.lit (.bool true)], args := [d1, d2] }
  | _ => none }
def samplingScalesRow : OpenClaim := { program := "ytdkgbkbbbldliaagreat", sum := "672a66e38f43c5b559f495ad7443b95a0fb86be723937b0083fdf71140d48978", func := "barscan/barscanlaw41.SamplingScales", spec := "samplingScales", apart := false }
def SamplingScalesSaid : Prop := samplingScalesRow.holds Tryz.pinned (OpenSpec.ofChange samplingScalesSpec)

/-- ITS FALSE NEIGHBOUR: 'it returns false'. Refute it at one input. -/
def samplingScalesWrong : ChangeSpec := { name := "samplingScales", fn := fun _ => fun
  | [d1, d2] => { results := [.lit (.bool false)], args := [d1, d2] }
  | _ => none }
def SamplingScalesWrongFalsely : Prop := samplingScalesRow.holds Tryz.pinned (OpenSpec.ofChange samplingScalesWrong)

/-- 'barscanlaw41.SamplingTurns': WHATEVER THE INPUT: true; the input reads as it did. -/
def samplingTurnsSpec : ChangeSpec := { name := "samplingTurns", fn := fun _ => fun
  | [d] => { results := [.lit (.bool true)], args := [d] }
  | _ => none }
def samplingTurnsRow : OpenClaim := { program := "ytdkgbkbbbldliaagreat", sum := "672a66e38f43c5b559f495ad7443b95a0fb86be723937b0083fdf71140d48978", func := "barscan/barscanlaw41.SamplingTurns", spec := "samplingTurns", apart := false }
def SamplingTurnsSaid : Prop := samplingTurnsRow.holds Tryz.pinned (OpenSpec.ofChange samplingTurnsSpec)

/-- ITS FALSE NEIGHBOUR: 'it returns false'. Refute it at one input. -/
def samplingTurnsWrong : ChangeSpec := { name := "samplingTurns", fn := fun _ => fun
  | [d] => { results := [.lit (.bool false)], args := [d] }
  | _ => none }
def SamplingTurnsWrongFalsely : Prop := samplingTurnsRow.holds Tryz.pinned (OpenSpec.ofChange samplingTurnsWrong)

/- THE SECOND FORM. 'bulk': how many values and letters a reading holds, each counted each time it is reached (what is shared counts as often as it is met; a slice's spare places count too). A statement '..UptoSaid' is the law's where the arguments, and the package variables that the reading takes, are together of bulk at most 1048576: NARROWER than '..Said'. Prove '..Said' where nothing that the law and all that it calls make is longer than what came in: it says more and counts as full. Else prove '..UptoSaid'. A law counts once. -/
mutual
def uptoBulk {H : Type} : DataW H → Nat
  | .lit (.string bytes) => bytes.length + 1
  | .lit _ => 1
  | .nil => 1
  | .ptr d => uptoBulk d + 1
  | .slice elems spare => uptoBulkAll elems + uptoBulkAll spare + 1
  | .agg parts => uptoBulkAll parts + 1
  | .iface _ d => uptoBulk d + 1
  | .map entries => uptoBulkEntries entries + 1
  | .held _ => 1
def uptoBulkAll {H : Type} : List (DataW H) → Nat
  | [] => 0
  | d :: r => uptoBulk d + uptoBulkAll r
def uptoBulkEntries {H : Type} : List (Lit × DataW H) → Nat
  | [] => 0
  | x :: r => uptoBulkEntry x + uptoBulkEntries r
def uptoBulkEntry {H : Type} : Lit × DataW H → Nat
  | (.string bytes, d) => bytes.length + uptoBulk d + 1
  | (_, d) => uptoBulk d + 1
 end
def uptoSmall : (H : Type) → List (DataW H) → Bool := fun _ ds => decide (uptoBulkAll ds ≤ 1048576)
def OpenSpec.upto (s : _root_.Go.ChangeSpec) : _root_.Go.OpenSpec := { _root_.Go.OpenSpec.ofChange s with cond := some uptoSmall }

/-- 'barscanlaw41.SamplingSamples', WHERE WHAT IT READS IS OF BULK AT MOST 1048576: true; the input reads as it did. -/
def samplingSamplesUptoRow : OpenClaim := { program := "ytdkgbkbbbldliaagreat", sum := "672a66e38f43c5b559f495ad7443b95a0fb86be723937b0083fdf71140d48978", func := "barscan/barscanlaw41.SamplingSamples", spec := "samplingSamples", apart := false, narrowed := true }
def SamplingSamplesUptoSaid : Prop := samplingSamplesUptoRow.holds Tryz.pinned (OpenSpec.upto samplingSamplesSpec)

/-- 'barscanlaw41.SamplingWarps', WHERE WHAT IT READS IS OF BULK AT MOST 1048576: true; the input reads as it did. -/
def samplingWarpsUptoRow : OpenClaim := { program := "ytdkgbkbbbldliaagreat", sum := "672a66e38f43c5b559f495ad7443b95a0fb86be723937b0083fdf71140d48978", func := "barscan/barscanlaw41.SamplingWarps", spec := "samplingWarps", apart := false, narrowed := true }
def SamplingWarpsUptoSaid : Prop := samplingWarpsUptoRow.holds Tryz.pinned (OpenSpec.upto samplingWarpsSpec)

/-- 'barscanlaw41.SamplingCorners', WHERE WHAT IT READS IS OF BULK AT MOST 1048576: true; the input reads as it did. -/
def samplingCornersUptoRow : OpenClaim := { program := "ytdkgbkbbbldliaagreat", sum := "672a66e38f43c5b559f495ad7443b95a0fb86be723937b0083fdf71140d48978", func := "barscan/barscanlaw41.SamplingCorners", spec := "samplingCorners", apart := false, narrowed := true }
def SamplingCornersUptoSaid : Prop := samplingCornersUptoRow.holds Tryz.pinned (OpenSpec.upto samplingCornersSpec)

/-- 'barscanlaw41.SamplingDecides', WHERE WHAT IT READS IS OF BULK AT MOST 1048576: true; the input reads as it did. -/
def samplingDecidesUptoRow : OpenClaim := { program := "ytdkgbkbbbldliaagreat", sum := "672a66e38f43c5b559f495ad7443b95a0fb86be723937b0083fdf71140d48978", func := "barscan/barscanlaw41.SamplingDecides", spec := "samplingDecides", apart := false, narrowed := true }
def SamplingDecidesUptoSaid : Prop := samplingDecidesUptoRow.holds Tryz.pinned (OpenSpec.upto samplingDecidesSpec)

/-- 'barscanlaw41.SamplingFaithful', WHERE WHAT IT READS IS OF BULK AT MOST 1048576: true; the input reads as it did. -/
def samplingFaithfulUptoRow : OpenClaim := { program := "ytdkgbkbbbldliaagreat", sum := "672a66e38f43c5b559f495ad7443b95a0fb86be723937b0083fdf71140d48978", func := "barscan/barscanlaw41.SamplingFaithful", spec := "samplingFaithful", apart := false, narrowed := true }
def SamplingFaithfulUptoSaid : Prop := samplingFaithfulUptoRow.holds Tryz.pinned (OpenSpec.upto samplingFaithfulSpec)

/-- 'barscanlaw41.SamplingScales', WHERE WHAT IT READS IS OF BULK AT MOST 1048576: true; the input reads as it did. -/
def samplingScalesUptoRow : OpenClaim := { program := "ytdkgbkbbbldliaagreat", sum := "672a66e38f43c5b559f495ad7443b95a0fb86be723937b0083fdf71140d48978", func := "barscan/barscanlaw41.SamplingScales", spec := "samplingScales", apart := false, narrowed := true }
def SamplingScalesUptoSaid : Prop := samplingScalesUptoRow.holds Tryz.pinned (OpenSpec.upto samplingScalesSpec)

/-- 'barscanlaw41.SamplingTurns', WHERE WHAT IT READS IS OF BULK AT MOST 1048576: true; the input reads as it did. -/
def samplingTurnsUptoRow : OpenClaim := { program := "ytdkgbkbbbldliaagreat", sum := "672a66e38f43c5b559f495ad7443b95a0fb86be723937b0083fdf71140d48978", func := "barscan/barscanlaw41.SamplingTurns", spec := "samplingTurns", apart := false, narrowed := true }
def SamplingTurnsUptoSaid : Prop := samplingTurnsUptoRow.holds Tryz.pinned (OpenSpec.upto samplingTurnsSpec)

end Rows
end Go.Proofs.YtdkgbkbbbldliaaGreat
