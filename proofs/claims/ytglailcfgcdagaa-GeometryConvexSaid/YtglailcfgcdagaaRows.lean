/-
  No cell of these rows narrows 'for every input' (looked for: loops, veiled, ifaces, maps, wideKeys, modest, calm, conditions, laid).
  DERIVED. THE GIVEN ROWS OF THIS SEAT. 7 by the template 'for every input the law returns true; each argument reads behind the call as it read before'; 0 by the template 'total and deterministic' (their statements: YtglailcfgcdagaaTotals.lean).
  GIVEN WITH THE SEED: the statements are not yours to turn. If you find one false, say at which input.
  Laid BY PROGRAM, IN A SANDBOX (cutbox-rows.mjs): the forced cells as the released guide's own fill.sh prints them over the translation fc03211cade360ab… (all of the seat's roots in one cut). By AI agents, Wed Nov 11 2026. No macro, syntax, notation, axiom, sorry.
-/
import Derived.Test.YtglailcfgcdagaaChecked
import GoSem.Claim
import GoSem.ClaimJoined
import GoSem.ClaimMapViews
import Derived.JoinedTies
import Derived.KernelRfl
namespace Go.Proofs.Ytglailcfgcdagaa
/- THE CELL 'sum', in the pinned program and in every row, IS THE sha256 OF THE DUMP (.gsa) THAT YtglailcfgcdagaaProg.lean LOADS. Nothing in Lean hashes anything: it is a label: what it is worth is what the hold of that sum in a sandbox is worth. -/
noncomputable def Try.pinned : Pinned := { name := "ytglailcfgcdagaa", sum := "fc03211cade360ab082bdb09d2c615f7a73f2ee3db47bc637b2510a7b5a15c81", checked := Try.checked }
namespace Rows
def none {H : Type} : Left H := { results := [], args := [] }

/-- 'barscanlaw39.GeometryPoints': WHATEVER THE INPUT: true; the input reads as it did. -/
def geometryPointsSpec : ChangeSpec := { name := "geometryPoints", fn := fun _ => fun
  | [d1, d2, d3] => { results := [.lit (.bool true)], args := [d1, d2, d3] }
  | _ => none }
def geometryPointsRow : OpenClaim := { program := "ytglailcfgcdagaa", sum := "fc03211cade360ab082bdb09d2c615f7a73f2ee3db47bc637b2510a7b5a15c81", func := "barscan/barscanlaw39.GeometryPoints", spec := "geometryPoints", unfollowed := true, recurses := true, apart := false }
def GeometryPointsSaid : Prop := geometryPointsRow.holds Try.pinned (OpenSpec.ofChange geometryPointsSpec)

/-- ITS FALSE NEIGHBOUR: 'it returns false'. Refute it at one input. -/
def geometryPointsWrong : ChangeSpec := { name := "geometryPoints", fn := fun _ => fun
  | [d1, d2, d3] => { results := [.lit (.bool false)], args := [d1, d2, d3] }
  | _ => none }
def GeometryPointsWrongFalsely : Prop := geometryPointsRow.holds Try.pinned (OpenSpec.ofChange geometryPointsWrong)

/-- 'barscanlaw39.GeometryMeets': WHATEVER THE INPUT: true; the input reads as it did. -/
def geometryMeetsSpec : ChangeSpec := { name := "geometryMeets", fn := fun _ => fun
  | [d1, d2] => { results := [.lit (.bool true)], args := [d1, d2] }
  | _ => none }
def geometryMeetsRow : OpenClaim := { program := "ytglailcfgcdagaa", sum := "fc03211cade360ab082bdb09d2c615f7a73f2ee3db47bc637b2510a7b5a15c81", func := "barscan/barscanlaw39.GeometryMeets", spec := "geometryMeets", unfollowed := true, recurses := true, apart := false }
def GeometryMeetsSaid : Prop := geometryMeetsRow.holds Try.pinned (OpenSpec.ofChange geometryMeetsSpec)

/-- ITS FALSE NEIGHBOUR: 'it returns false'. Refute it at one input. -/
def geometryMeetsWrong : ChangeSpec := { name := "geometryMeets", fn := fun _ => fun
  | [d1, d2] => { results := [.lit (.bool false)], args := [d1, d2] }
  | _ => none }
def GeometryMeetsWrongFalsely : Prop := geometryMeetsRow.holds Try.pinned (OpenSpec.ofChange geometryMeetsWrong)

/-- 'barscanlaw39.GeometryHulls': WHATEVER THE INPUT: true; the input reads as it did. -/
def geometryHullsSpec : ChangeSpec := { name := "geometryHulls", fn := fun _ => fun
  | [d] => { results := [.lit (.bool true)], args := [d] }
  | _ => none }
def geometryHullsRow : OpenClaim := { program := "ytglailcfgcdagaa", sum := "fc03211cade360ab082bdb09d2c615f7a73f2ee3db47bc637b2510a7b5a15c81", func := "barscan/barscanlaw39.GeometryHulls", spec := "geometryHulls", unfollowed := true, recurses := true, apart := false }
def GeometryHullsSaid : Prop := geometryHullsRow.holds Try.pinned (OpenSpec.ofChange geometryHullsSpec)

/-- ITS FALSE NEIGHBOUR: 'it returns false'. Refute it at one input. -/
def geometryHullsWrong : ChangeSpec := { name := "geometryHulls", fn := fun _ => fun
  | [d] => { results := [.lit (.bool false)], args := [d] }
  | _ => none }
def GeometryHullsWrongFalsely : Prop := geometryHullsRow.holds Try.pinned (OpenSpec.ofChange geometryHullsWrong)

/-- 'barscanlaw39.GeometryLines': WHATEVER THE INPUT: true; the input reads as it did. -/
def geometryLinesSpec : ChangeSpec := { name := "geometryLines", fn := fun _ => fun
  | [d1, d2] => { results := [.lit (.bool true)], args := [d1, d2] }
  | _ => none }
def geometryLinesRow : OpenClaim := { program := "ytglailcfgcdagaa", sum := "fc03211cade360ab082bdb09d2c615f7a73f2ee3db47bc637b2510a7b5a15c81", func := "barscan/barscanlaw39.GeometryLines", spec := "geometryLines", unfollowed := true, recurses := true, apart := false }
def GeometryLinesSaid : Prop := geometryLinesRow.holds Try.pinned (OpenSpec.ofChange geometryLinesSpec)

/-- ITS FALSE NEIGHBOUR: 'it returns false'. Refute it at one input. -/
def geometryLinesWrong : ChangeSpec := { name := "geometryLines", fn := fun _ => fun
  | [d1, d2] => { results := [.lit (.bool false)], args := [d1, d2] }
  | _ => none }
def GeometryLinesWrongFalsely : Prop := geometryLinesRow.holds Try.pinned (OpenSpec.ofChange geometryLinesWrong)

/-- 'barscanlaw39.GeometryBoxes': WHATEVER THE INPUT: true; the input reads as it did. -/
def geometryBoxesSpec : ChangeSpec := { name := "geometryBoxes", fn := fun _ => fun
  | [d1, d2] => { results := [.lit (.bool true)], args := [d1, d2] }
  | _ => none }
def geometryBoxesRow : OpenClaim := { program := "ytglailcfgcdagaa", sum := "fc03211cade360ab082bdb09d2c615f7a73f2ee3db47bc637b2510a7b5a15c81", func := "barscan/barscanlaw39.GeometryBoxes", spec := "geometryBoxes", unfollowed := true, recurses := true, apart := false }
def GeometryBoxesSaid : Prop := geometryBoxesRow.holds Try.pinned (OpenSpec.ofChange geometryBoxesSpec)

/-- ITS FALSE NEIGHBOUR: 'it returns false'. Refute it at one input. -/
def geometryBoxesWrong : ChangeSpec := { name := "geometryBoxes", fn := fun _ => fun
  | [d1, d2] => { results := [.lit (.bool false)], args := [d1, d2] }
  | _ => none }
def GeometryBoxesWrongFalsely : Prop := geometryBoxesRow.holds Try.pinned (OpenSpec.ofChange geometryBoxesWrong)

/-- 'barscanlaw39.GeometryCovers': WHATEVER THE INPUT: true; the input reads as it did. -/
def geometryCoversSpec : ChangeSpec := { name := "geometryCovers", fn := fun _ => fun
  | [d1, d2, d3] => { results := [.lit (.bool true)], args := [d1, d2, d3] }
  | _ => none }
def geometryCoversRow : OpenClaim := { program := "ytglailcfgcdagaa", sum := "fc03211cade360ab082bdb09d2c615f7a73f2ee3db47bc637b2510a7b5a15c81", func := "barscan/barscanlaw39.GeometryCovers", spec := "geometryCovers", unfollowed := true, recurses := true, apart := false }
def GeometryCoversSaid : Prop := geometryCoversRow.holds Try.pinned (OpenSpec.ofChange geometryCoversSpec)

/-- ITS FALSE NEIGHBOUR: 'it returns false'. Refute it at one input. -/
def geometryCoversWrong : ChangeSpec := { name := "geometryCovers", fn := fun _ => fun
  | [d1, d2, d3] => { results := [.lit (.bool false)], args := [d1, d2, d3] }
  | _ => none }
def GeometryCoversWrongFalsely : Prop := geometryCoversRow.holds Try.pinned (OpenSpec.ofChange geometryCoversWrong)

/-- 'barscanlaw39.GeometryConvex': WHATEVER THE INPUT: true; the input reads as it did. -/
def geometryConvexSpec : ChangeSpec := { name := "geometryConvex", fn := fun _ => fun
  | [d1, d2] => { results := [.lit (.bool true)], args := [d1, d2] }
  | _ => none }
def geometryConvexRow : OpenClaim := { program := "ytglailcfgcdagaa", sum := "fc03211cade360ab082bdb09d2c615f7a73f2ee3db47bc637b2510a7b5a15c81", func := "barscan/barscanlaw39.GeometryConvex", spec := "geometryConvex", unfollowed := true, recurses := true, apart := false }
def GeometryConvexSaid : Prop := geometryConvexRow.holds Try.pinned (OpenSpec.ofChange geometryConvexSpec)

/-- ITS FALSE NEIGHBOUR: 'it returns false'. Refute it at one input. -/
def geometryConvexWrong : ChangeSpec := { name := "geometryConvex", fn := fun _ => fun
  | [d1, d2] => { results := [.lit (.bool false)], args := [d1, d2] }
  | _ => none }
def GeometryConvexWrongFalsely : Prop := geometryConvexRow.holds Try.pinned (OpenSpec.ofChange geometryConvexWrong)

/- THE SECOND FORM. 'bulk': how many values and letters a reading holds, each counted each time it is reached (what is shared counts as often as it is met; a slice's spare places count too). A statement '..UptoSaid' is the law's where the arguments, and the package variables that the reading takes, are together of bulk at most 1048576: NARROWER than '..Said'. Prove '..Said' where nothing that the law and all that it calls make is longer than what came in: it says more and counts as full. Else prove '..UptoSaid'. A law counts once. -/
mutual
def uptoBulk {H : Type} : DataW H → Nat
  | .lit (.string bytes) => bytes.length + 1
  | .lit _ => 1
  | .nil => 1
  | .ptr d => uptoBulk d + 1
  | .slice elems spare => uptoBulkAll elems + uptoBulkAll spare + 1
  | .agg parts => uptoBulkAll parts + 1
  | .iface _ d => uptoBulk d + 1
  | .map entries => uptoBulkEntries entries + 1
  | .held _ => 1
def uptoBulkAll {H : Type} : List (DataW H) → Nat
  | [] => 0
  | d :: r => uptoBulk d + uptoBulkAll r
def uptoBulkEntries {H : Type} : List (Lit × DataW H) → Nat
  | [] => 0
  | x :: r => uptoBulkEntry x + uptoBulkEntries r
def uptoBulkEntry {H : Type} : Lit × DataW H → Nat
  | (.string bytes, d) => bytes.length + uptoBulk d + 1
  | (_, d) => uptoBulk d + 1
 end
def uptoSmall : (H : Type) → List (DataW H) → Bool := fun _ ds => decide (uptoBulkAll ds ≤ 1048576)
def OpenSpec.upto (s : _root_.Go.ChangeSpec) : _root_.Go.OpenSpec := { _root_.Go.OpenSpec.ofChange s with cond := some uptoSmall }

/-- 'barscanlaw39.GeometryPoints', WHERE WHAT IT READS IS OF BULK AT MOST 1048576: true; the input reads as it did. -/
def geometryPointsUptoRow : OpenClaim := { program := "ytglailcfgcdagaa", sum := "fc03211cade360ab082bdb09d2c615f7a73f2ee3db47bc637b2510a7b5a15c81", func := "barscan/barscanlaw39.GeometryPoints", spec := "geometryPoints", unfollowed := true, recurses := true, apart := false, narrowed := true }
def GeometryPointsUptoSaid : Prop := geometryPointsUptoRow.holds Try.pinned (OpenSpec.upto geometryPointsSpec)

/-- 'barscanlaw39.GeometryMeets', WHERE WHAT IT READS IS OF BULK AT MOST 1048576: true; the input reads as it did. -/
def geometryMeetsUptoRow : OpenClaim := { program := "ytglailcfgcdagaa", sum := "fc03211cade360ab082bdb09d2c615f7a73f2ee3db47bc637b2510a7b5a15c81", func := "barscan/barscanlaw39.GeometryMeets", spec := "geometryMeets", unfollowed := true, recurses := true, apart := false, narrowed := true }
def GeometryMeetsUptoSaid : Prop := geometryMeetsUptoRow.holds Try.pinned (OpenSpec.upto geometryMeetsSpec)

/-- 'barscanlaw39.GeometryHulls', WHERE WHAT IT READS IS OF BULK AT MOST 1048576: true; the input reads as it did. -/
def geometryHullsUptoRow : OpenClaim := { program := "ytglailcfgcdagaa", sum := "fc03211cade360ab082bdb09d2c615f7a73f2ee3db47bc637b2510a7b5a15c81", func := "barscan/barscanlaw39.GeometryHulls", spec := "geometryHulls", unfollowed := true, recurses := true, apart := false, narrowed := true }
def GeometryHullsUptoSaid : Prop := geometryHullsUptoRow.holds Try.pinned (OpenSpec.upto geometryHullsSpec)

/-- 'barscanlaw39.GeometryLines', WHERE WHAT IT READS IS OF BULK AT MOST 1048576: true; the input reads as it did. -/
def geometryLinesUptoRow : OpenClaim := { program := "ytglailcfgcdagaa", sum := "fc03211cade360ab082bdb09d2c615f7a73f2ee3db47bc637b2510a7b5a15c81", func := "barscan/barscanlaw39.GeometryLines", spec := "geometryLines", unfollowed := true, recurses := true, apart := false, narrowed := true }
def GeometryLinesUptoSaid : Prop := geometryLinesUptoRow.holds Try.pinned (OpenSpec.upto geometryLinesSpec)

/-- 'barscanlaw39.GeometryBoxes', WHERE WHAT IT READS IS OF BULK AT MOST 1048576: true; the input reads as it did. -/
def geometryBoxesUptoRow : OpenClaim := { program := "ytglailcfgcdagaa", sum := "fc03211cade360ab082bdb09d2c615f7a73f2ee3db47bc637b2510a7b5a15c81", func := "barscan/barscanlaw39.GeometryBoxes", spec := "geometryBoxes", unfollowed := true, recurses := true, apart := false, narrowed := true }
def GeometryBoxesUptoSaid : Prop := geometryBoxesUptoRow.holds Try.pinned (OpenSpec.upto geometryBoxesSpec)

/-- 'barscanlaw39.GeometryCovers', WHERE WHAT IT READS IS OF BULK AT MOST 1048576: true; the input reads as it did. -/
def geometryCoversUptoRow : OpenClaim := { program := "ytglailcfgcdagaa", sum := "fc03211cade360ab082bdb09d2c615f7a73f2ee3db47bc637b2510a7b5a15c81", func := "barscan/barscanlaw39.GeometryCovers", spec := "geometryCovers", unfollowed := true, recurses := true, apart := false, narrowed := true }
def GeometryCoversUptoSaid : Prop := geometryCoversUptoRow.holds Try.pinned (OpenSpec.upto geometryCoversSpec)

/-- 'barscanlaw39.GeometryConvex', WHERE WHAT IT READS IS OF BULK AT MOST 1048576: true; the input reads as it did. -/
def geometryConvexUptoRow : OpenClaim := { program := "ytglailcfgcdagaa", sum := "fc03211cade360ab082bdb09d2c615f7a73f2ee3db47bc637b2510a7b5a15c81", func := "barscan/barscanlaw39.GeometryConvex", spec := "geometryConvex", unfollowed := true, recurses := true, apart := false, narrowed := true }
def GeometryConvexUptoSaid : Prop := geometryConvexUptoRow.holds Try.pinned (OpenSpec.upto geometryConvexSpec)

end Rows
end Go.Proofs.Ytglailcfgcdagaa
