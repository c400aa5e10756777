/-
  No cell of these rows narrows 'for every input' (looked for: loops, veiled, ifaces, maps, wideKeys, modest, calm, conditions, laid).
  DERIVED. THE GIVEN ROWS OF THIS SEAT. 4 by the template 'for every input the law returns true; each argument reads behind the call as it read before'; 0 by the template 'total and deterministic' (their statements: YtgnfobnkhjlbbaaTotals.lean).
  GIVEN WITH THE SEED: the statements are not yours to turn. If you find one false, say at which input.
  Laid BY PROGRAM, IN A SANDBOX (cutbox-rows.mjs): the forced cells as the released guide's own fill.sh prints them over the translation ff03f4da0c6393fe… (all of the seat's roots in one cut). By AI agents, Wed Nov 11 2026. No macro, syntax, notation, axiom, sorry.
-/
import Derived.Test.YtgnfobnkhjlbbaaChecked
import GoSem.Claim
import GoSem.ClaimJoined
import GoSem.ClaimMapViews
import Derived.JoinedTies
import Derived.KernelRfl
namespace Go.Proofs.Ytgnfobnkhjlbbaa
/- THE CELL 'sum', in the pinned program and in every row, IS THE sha256 OF THE DUMP (.gsa) THAT YtgnfobnkhjlbbaaProg.lean LOADS. Nothing in Lean hashes anything: it is a label: what it is worth is what the hold of that sum in a sandbox is worth. -/
noncomputable def Try.pinned : Pinned := { name := "ytgnfobnkhjlbbaa", sum := "ff03f4da0c6393fe074d5632a2a1feb24f514069909558ffe0efbba842963c5a", checked := Try.checked }
namespace Rows
def none {H : Type} : Left H := { results := [], args := [] }

/-- 'barscanlaw40.HomographyMaps': WHATEVER THE INPUT: true; the input reads as it did. -/
def homographyMapsSpec : ChangeSpec := { name := "homographyMaps", fn := fun _ => fun
  | [d1, d2] => { results := [.lit (.bool true)], args := [d1, d2] }
  | _ => none }
def homographyMapsRow : OpenClaim := { program := "ytgnfobnkhjlbbaa", sum := "ff03f4da0c6393fe074d5632a2a1feb24f514069909558ffe0efbba842963c5a", func := "barscan/barscanlaw40.HomographyMaps", spec := "homographyMaps", apart := false }
def HomographyMapsSaid : Prop := homographyMapsRow.holds Try.pinned (OpenSpec.ofChange homographyMapsSpec)

/-- ITS FALSE NEIGHBOUR: 'it returns false'. Refute it at one input. -/
def homographyMapsWrong : ChangeSpec := { name := "homographyMaps", fn := fun _ => fun
  | [d1, d2] => { results := [.lit (.bool false)], args := [d1, d2] }
  | _ => none }
def HomographyMapsWrongFalsely : Prop := homographyMapsRow.holds Try.pinned (OpenSpec.ofChange homographyMapsWrong)

/-- 'barscanlaw40.HomographyUnique': WHATEVER THE INPUT: true; the input reads as it did. -/
def homographyUniqueSpec : ChangeSpec := { name := "homographyUnique", fn := fun _ => fun
  | [d1, d2] => { results := [.lit (.bool true)], args := [d1, d2] }
  | _ => none }
def homographyUniqueRow : OpenClaim := { program := "ytgnfobnkhjlbbaa", sum := "ff03f4da0c6393fe074d5632a2a1feb24f514069909558ffe0efbba842963c5a", func := "barscan/barscanlaw40.HomographyUnique", spec := "homographyUnique", apart := false }
def HomographyUniqueSaid : Prop := homographyUniqueRow.holds Try.pinned (OpenSpec.ofChange homographyUniqueSpec)

/-- ITS FALSE NEIGHBOUR: 'it returns false'. Refute it at one input. -/
def homographyUniqueWrong : ChangeSpec := { name := "homographyUnique", fn := fun _ => fun
  | [d1, d2] => { results := [.lit (.bool false)], args := [d1, d2] }
  | _ => none }
def HomographyUniqueWrongFalsely : Prop := homographyUniqueRow.holds Try.pinned (OpenSpec.ofChange homographyUniqueWrong)

/-- 'barscanlaw40.HomographyGroup': WHATEVER THE INPUT: true; the input reads as it did. -/
def homographyGroupSpec : ChangeSpec := { name := "homographyGroup", fn := fun _ => fun
  | [d1, d2, d3, d4] => { results := [.lit (.bool true)], args := [d1, d2, d3, d4] }
  | _ => none }
def homographyGroupRow : OpenClaim := { program := "ytgnfobnkhjlbbaa", sum := "ff03f4da0c6393fe074d5632a2a1feb24f514069909558ffe0efbba842963c5a", func := "barscan/barscanlaw40.HomographyGroup", spec := "homographyGroup", apart := false }
def HomographyGroupSaid : Prop := homographyGroupRow.holds Try.pinned (OpenSpec.ofChange homographyGroupSpec)

/-- ITS FALSE NEIGHBOUR: 'it returns false'. Refute it at one input. -/
def homographyGroupWrong : ChangeSpec := { name := "homographyGroup", fn := fun _ => fun
  | [d1, d2, d3, d4] => { results := [.lit (.bool false)], args := [d1, d2, d3, d4] }
  | _ => none }
def HomographyGroupWrongFalsely : Prop := homographyGroupRow.holds Try.pinned (OpenSpec.ofChange homographyGroupWrong)

/-- 'barscanlaw40.HomographyLines': WHATEVER THE INPUT: true; the input reads as it did. -/
def homographyLinesSpec : ChangeSpec := { name := "homographyLines", fn := fun _ => fun
  | [d1, d2, d3, d4] => { results := [.lit (.bool true)], args := [d1, d2, d3, d4] }
  | _ => none }
def homographyLinesRow : OpenClaim := { program := "ytgnfobnkhjlbbaa", sum := "ff03f4da0c6393fe074d5632a2a1feb24f514069909558ffe0efbba842963c5a", func := "barscan/barscanlaw40.HomographyLines", spec := "homographyLines", apart := false }
def HomographyLinesSaid : Prop := homographyLinesRow.holds Try.pinned (OpenSpec.ofChange homographyLinesSpec)

/-- ITS FALSE NEIGHBOUR: 'it returns false'. Refute it at one input. -/
def homographyLinesWrong : ChangeSpec := { name := "homographyLines", fn := fun _ => fun
  | [d1, d2, d3, d4] => { results := [.lit (.bool false)], args := [d1, d2, d3, d4] }
  | _ => none }
def HomographyLinesWrongFalsely : Prop := homographyLinesRow.holds Try.pinned (OpenSpec.ofChange homographyLinesWrong)

/- THE SECOND FORM. 'bulk': how many values and letters a reading holds, each counted each time it is reached (what is shared counts as often as it is met; a slice's spare places count too). A statement '..UptoSaid' is the law's where the arguments, and the package variables that the reading takes, are together of bulk at most 1048576: NARROWER than '..Said'. Prove '..Said' where nothing that the law and all that it calls make is longer than what came in: it says more and counts as full. Else prove '..UptoSaid'. A law counts once. -/
mutual
def uptoBulk {H : Type} : DataW H → Nat
  | .lit (.string bytes) => bytes.length + 1
  | .lit _ => 1
  | .nil => 1
  | .ptr d => uptoBulk d + 1
  | .slice elems spare => uptoBulkAll elems + uptoBulkAll spare + 1
  | .agg parts => uptoBulkAll parts + 1
  | .iface _ d => uptoBulk d + 1
  | .map entries => uptoBulkEntries entries + 1
  | .held _ => 1
def uptoBulkAll {H : Type} : List (DataW H) → Nat
  | [] => 0
  | d :: r => uptoBulk d + uptoBulkAll r
def uptoBulkEntries {H : Type} : List (Lit × DataW H) → Nat
  | [] => 0
  | x :: r => uptoBulkEntry x + uptoBulkEntries r
def uptoBulkEntry {H : Type} : Lit × DataW H → Nat
  | (.string bytes, d) => bytes.length + uptoBulk d + 1
  | (_, d) => uptoBulk d + 1
 end
def uptoSmall : (H : Type) → List (DataW H) → Bool := fun _ ds => decide (uptoBulkAll ds ≤ 1048576)
def OpenSpec.upto (s : _root_.Go.ChangeSpec) : _root_.Go.OpenSpec := { _root_.Go.OpenSpec.ofChange s with cond := some uptoSmall }

/-- 'barscanlaw40.HomographyMaps', WHERE WHAT IT READS IS OF BULK AT MOST 1048576: true; the input reads as it did. -/
def homographyMapsUptoRow : OpenClaim := { program := "ytgnfobnkhjlbbaa", sum := "ff03f4da0c6393fe074d5632a2a1feb24f514069909558ffe0efbba842963c5a", func := "barscan/barscanlaw40.HomographyMaps", spec := "homographyMaps", apart := false, narrowed := true }
def HomographyMapsUptoSaid : Prop := homographyMapsUptoRow.holds Try.pinned (OpenSpec.upto homographyMapsSpec)

/-- 'barscanlaw40.HomographyUnique', WHERE WHAT IT READS IS OF BULK AT MOST 1048576: true; the input reads as it did. -/
def homographyUniqueUptoRow : OpenClaim := { program := "ytgnfobnkhjlbbaa", sum := "ff03f4da0c6393fe074d5632a2a1feb24f514069909558ffe0efbba842963c5a", func := "barscan/barscanlaw40.HomographyUnique", spec := "homographyUnique", apart := false, narrowed := true }
def HomographyUniqueUptoSaid : Prop := homographyUniqueUptoRow.holds Try.pinned (OpenSpec.upto homographyUniqueSpec)

/-- 'barscanlaw40.HomographyGroup', WHERE WHAT IT READS IS OF BULK AT MOST 1048576: true; the input reads as it did. -/
def homographyGroupUptoRow : OpenClaim := { program := "ytgnfobnkhjlbbaa", sum := "ff03f4da0c6393fe074d5632a2a1feb24f514069909558ffe0efbba842963c5a", func := "barscan/barscanlaw40.HomographyGroup", spec := "homographyGroup", apart := false, narrowed := true }
def HomographyGroupUptoSaid : Prop := homographyGroupUptoRow.holds Try.pinned (OpenSpec.upto homographyGroupSpec)

/-- 'barscanlaw40.HomographyLines', WHERE WHAT IT READS IS OF BULK AT MOST 1048576: true; the input reads as it did. -/
def homographyLinesUptoRow : OpenClaim := { program := "ytgnfobnkhjlbbaa", sum := "ff03f4da0c6393fe074d5632a2a1feb24f514069909558ffe0efbba842963c5a", func := "barscan/barscanlaw40.HomographyLines", spec := "homographyLines", apart := false, narrowed := true }
def HomographyLinesUptoSaid : Prop := homographyLinesUptoRow.holds Try.pinned (OpenSpec.upto homographyLinesSpec)

end Rows
end Go.Proofs.Ytgnfobnkhjlbbaa
