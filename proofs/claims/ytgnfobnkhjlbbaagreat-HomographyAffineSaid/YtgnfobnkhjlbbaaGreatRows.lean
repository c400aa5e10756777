/-
  No cell of these rows narrows 'for every input' (looked for: loops, veiled, ifaces, maps, wideKeys, modest, calm, conditions, laid).
  DERIVED. THE GIVEN ROWS OF THIS SEAT. 5 by the template 'for every input the law returns true; each argument reads behind the call as it read before'; 0 by the template 'total and deterministic' (their statements: YtgnfobnkhjlbbaaGreatTotals.lean).
  GIVEN WITH THE SEED: the statements are not yours to turn. If you find one false, say at which input.
  Laid BY PROGRAM, IN A SANDBOX (cutbox-rows.mjs): the forced cells as the released guide's own fill.sh prints them over the translation d6d0997a9cfc4dc6… (all of the seat's roots in one cut). By AI agents, Wed Nov 11 2026. No macro, syntax, notation, axiom, sorry.
-/
import Derived.Test.YtgnfobnkhjlbbaaGreatChecked
import GoSem.Claim
import GoSem.ClaimJoined
import GoSem.ClaimMapViews
import Derived.JoinedTies
import Derived.KernelRfl
namespace Go.Proofs.YtgnfobnkhjlbbaaGreat
/- THE CELL 'sum', in the pinned program and in every row, IS THE sha256 OF THE DUMP (.gsa) THAT YtgnfobnkhjlbbaaGreatProg.lean LOADS. Nothing in Lean hashes anything: it is a label: what it is worth is what the hold of that sum in a sandbox is worth. -/
noncomputable def Tryz.pinned : Pinned := { name := "ytgnfobnkhjlbbaagreat", sum := "d6d0997a9cfc4dc6a1fde461f83e927032c2f166c26aa5835dfd35cc9e550112", checked := Tryz.checked }
namespace Rows
def none {H : Type} : Left H := { results := [], args := [] }

/-- 'barscanlaw40.HomographyPoints': WHATEVER THE INPUT: true; the input reads as it did. -/
def homographyPointsSpec : ChangeSpec := { name := "homographyPoints", fn := fun _ => fun
  | [d1, d2] => { results := [.lit (.bool true)], args := [d1, d2] }
  | _ => none }
def homographyPointsRow : OpenClaim := { program := "ytgnfobnkhjlbbaagreat", sum := "d6d0997a9cfc4dc6a1fde461f83e927032c2f166c26aa5835dfd35cc9e550112", func := "barscan/barscanlaw40.HomographyPoints", spec := "homographyPoints", apart := false }
def HomographyPointsSaid : Prop := homographyPointsRow.holds Tryz.pinned (OpenSpec.ofChange homographyPointsSpec)

/-- ITS FALSE NEIGHBOUR: 'it returns false'. Refute it at one input. -/
def homographyPointsWrong : ChangeSpec := { name := "homographyPoints", fn := fun _ => fun
  | [d1, d2] => { results := [.lit (.bool false)], args := [d1, d2] }
  | _ => none }
def HomographyPointsWrongFalsely : Prop := homographyPointsRow.holds Tryz.pinned (OpenSpec.ofChange homographyPointsWrong)

/-- 'barscanlaw40.HomographyAffine': WHATEVER THE INPUT: true; the input reads as it did. -/
def homographyAffineSpec : ChangeSpec := { name := "homographyAffine", fn := fun _ => fun
  | [d] => { results := [.lit (.bool true)], args := [d] }
  | _ => none }
def homographyAffineRow : OpenClaim := { program := "ytgnfobnkhjlbbaagreat", sum := "d6d0997a9cfc4dc6a1fde461f83e927032c2f166c26aa5835dfd35cc9e550112", func := "barscan/barscanlaw40.HomographyAffine", spec := "homographyAffine", apart := false }
def HomographyAffineSaid : Prop := homographyAffineRow.holds Tryz.pinned (OpenSpec.ofChange homographyAffineSpec)

/-- ITS FALSE NEIGHBOUR: 'it returns false'. Refute it at one input. -/
def homographyAffineWrong : ChangeSpec := { name := "homographyAffine", fn := fun _ => fun
  | [d] => { results := [.lit (.bool false)], args := [d] }
  | _ => none }
def HomographyAffineWrongFalsely : Prop := homographyAffineRow.holds Tryz.pinned (OpenSpec.ofChange homographyAffineWrong)

/-- 'barscanlaw40.HomographyApplies': WHATEVER THE INPUT: true; the input reads as it did. -/
def homographyAppliesSpec : ChangeSpec := { name := "homographyApplies", fn := fun _ => fun
  | [d1, d2] => { results := [.lit (.bool true)], args := [d1, d2] }
  | _ => none }
def homographyAppliesRow : OpenClaim := { program := "ytgnfobnkhjlbbaagreat", sum := "d6d0997a9cfc4dc6a1fde461f83e927032c2f166c26aa5835dfd35cc9e550112", func := "barscan/barscanlaw40.HomographyApplies", spec := "homographyApplies", apart := false }
def HomographyAppliesSaid : Prop := homographyAppliesRow.holds Tryz.pinned (OpenSpec.ofChange homographyAppliesSpec)

/-- ITS FALSE NEIGHBOUR: 'it returns false'. Refute it at one input. -/
def homographyAppliesWrong : ChangeSpec := { name := "homographyApplies", fn := fun _ => fun
  | [d1, d2] => { results := [.lit (.bool false)], args := [d1, d2] }
  | _ => none }
def HomographyAppliesWrongFalsely : Prop := homographyAppliesRow.holds Tryz.pinned (OpenSpec.ofChange homographyAppliesWrong)

/-- 'barscanlaw40.HomographyComposes': WHATEVER THE INPUT: true; the input reads as it did. -/
def homographyComposesSpec : ChangeSpec := { name := "homographyComposes", fn := fun _ => fun
  | [d1, d2] => { results := [.lit (.bool true)], args := [d1, d2] }
  | _ => none }
def homographyComposesRow : OpenClaim := { program := "ytgnfobnkhjlbbaagreat", sum := "d6d0997a9cfc4dc6a1fde461f83e927032c2f166c26aa5835dfd35cc9e550112", func := "barscan/barscanlaw40.HomographyComposes", spec := "homographyComposes", apart := false }
def HomographyComposesSaid : Prop := homographyComposesRow.holds Tryz.pinned (OpenSpec.ofChange homographyComposesSpec)

/-- ITS FALSE NEIGHBOUR: 'it returns false'. Refute it at one input. -/
def homographyComposesWrong : ChangeSpec := { name := "homographyComposes", fn := fun _ => fun
  | [d1, d2] => { results := [.lit (.bool false)], args := [d1, d2] }
  | _ => none }
def HomographyComposesWrongFalsely : Prop := homographyComposesRow.holds Tryz.pinned (OpenSpec.ofChange homographyComposesWrong)

/-- 'barscanlaw40.HomographyNormal': WHATEVER THE INPUT: true; the input reads as it did. -/
def homographyNormalSpec : ChangeSpec := { name := "homographyNormal", fn := fun _ => fun
  | [d1, d2] => { results := [.lit (.bool true)], args := [d1, d2] }
  | _ => none }
def homographyNormalRow : OpenClaim := { program := "ytgnfobnkhjlbbaagreat", sum := "d6d0997a9cfc4dc6a1fde461f83e927032c2f166c26aa5835dfd35cc9e550112", func := "barscan/barscanlaw40.HomographyNormal", spec := "homographyNormal", apart := false }
def HomographyNormalSaid : Prop := homographyNormalRow.holds Tryz.pinned (OpenSpec.ofChange homographyNormalSpec)

/-- ITS FALSE NEIGHBOUR: 'it returns false'. Refute it at one input. -/
def homographyNormalWrong : ChangeSpec := { name := "homographyNormal", fn := fun _ => fun
  | [d1, d2] => { results := [.lit (.bool false)], args := [d1, d2] }
  | _ => none }
def HomographyNormalWrongFalsely : Prop := homographyNormalRow.holds Tryz.pinned (OpenSpec.ofChange homographyNormalWrong)

/- THE SECOND FORM. 'bulk': how many values and letters a reading holds, each counted each time it is reached (what is shared counts as often as it is met; a slice's spare places count too). A statement '..UptoSaid' is the law's where the arguments, and the package variables that the reading takes, are together of bulk at most 1048576: NARROWER than '..Said'. Prove '..Said' where nothing that the law and all that it calls make is longer than what came in: it says more and counts as full. Else prove '..UptoSaid'. A law counts once. -/
mutual
def uptoBulk {H : Type} : DataW H → Nat
  | .lit (.string bytes) => bytes.length + 1
  | .lit _ => 1
  | .nil => 1
  | .ptr d => uptoBulk d + 1
  | .slice elems spare => uptoBulkAll elems + uptoBulkAll spare + 1
  | .agg parts => uptoBulkAll parts + 1
  | .iface _ d => uptoBulk d + 1
  | .map entries => uptoBulkEntries entries + 1
  | .held _ => 1
def uptoBulkAll {H : Type} : List (DataW H) → Nat
  | [] => 0
  | d :: r => uptoBulk d + uptoBulkAll r
def uptoBulkEntries {H : Type} : List (Lit × DataW H) → Nat
  | [] => 0
  | x :: r => uptoBulkEntry x + uptoBulkEntries r
def uptoBulkEntry {H : Type} : Lit × DataW H → Nat
  | (.string bytes, d) => bytes.length + uptoBulk d + 1
  | (_, d) => uptoBulk d + 1
 end
def uptoSmall : (H : Type) → List (DataW H) → Bool := fun _ ds => decide (uptoBulkAll ds ≤ 1048576)
def OpenSpec.upto (s : _root_.Go.ChangeSpec) : _root_.Go.OpenSpec := { _root_.Go.OpenSpec.ofChange s with cond := some uptoSmall }

/-- 'barscanlaw40.HomographyPoints', WHERE WHAT IT READS IS OF BULK AT MOST 1048576: true; the input reads as it did. -/
def homographyPointsUptoRow : OpenClaim := { program := "ytgnfobnkhjlbbaagreat", sum := "d6d0997a9cfc4dc6a1fde461f83e927032c2f166c26aa5835dfd35cc9e550112", func := "barscan/barscanlaw40.HomographyPoints", spec := "homographyPoints", apart := false, narrowed := true }
def HomographyPointsUptoSaid : Prop := homographyPointsUptoRow.holds Tryz.pinned (OpenSpec.upto homographyPointsSpec)

/-- 'barscanlaw40.HomographyAffine', WHERE WHAT IT READS IS OF BULK AT MOST 1048576: true; the input reads as it did. -/
def homographyAffineUptoRow : OpenClaim := { program := "ytgnfobnkhjlbbaagreat", sum := "d6d0997a9cfc4dc6a1fde461f83e927032c2f166c26aa5835dfd35cc9e550112", func := "barscan/barscanlaw40.HomographyAffine", spec := "homographyAffine", apart := false, narrowed := true }
def HomographyAffineUptoSaid : Prop := homographyAffineUptoRow.holds Tryz.pinned (OpenSpec.upto homographyAffineSpec)

/-- 'barscanlaw40.HomographyApplies', WHERE WHAT IT READS IS OF BULK AT MOST 1048576: true; the input reads as it did. -/
def homographyAppliesUptoRow : OpenClaim := { program := "ytgnfobnkhjlbbaagreat", sum := "d6d0997a9cfc4dc6a1fde461f83e927032c2f166c26aa5835dfd35cc9e550112", func := "barscan/barscanlaw40.HomographyApplies", spec := "homographyApplies", apart := false, narrowed := true }
def HomographyAppliesUptoSaid : Prop := homographyAppliesUptoRow.holds Tryz.pinned (OpenSpec.upto homographyAppliesSpec)

/-- 'barscanlaw40.HomographyComposes', WHERE WHAT IT READS IS OF BULK AT MOST 1048576: true; the input reads as it did. -/
def homographyComposesUptoRow : OpenClaim := { program := "ytgnfobnkhjlbbaagreat", sum := "d6d0997a9cfc4dc6a1fde461f83e927032c2f166c26aa5835dfd35cc9e550112", func := "barscan/barscanlaw40.HomographyComposes", spec := "homographyComposes", apart := false, narrowed := true }
def HomographyComposesUptoSaid : Prop := homographyComposesUptoRow.holds Tryz.pinned (OpenSpec.upto homographyComposesSpec)

/-- 'barscanlaw40.HomographyNormal', WHERE WHAT IT READS IS OF BULK AT MOST 1048576: true; the input reads as it did. -/
def homographyNormalUptoRow : OpenClaim := { program := "ytgnfobnkhjlbbaagreat", sum := "d6d0997a9cfc4dc6a1fde461f83e927032c2f166c26aa5835dfd35cc9e550112", func := "barscan/barscanlaw40.HomographyNormal", spec := "homographyNormal", apart := false, narrowed := true }
def HomographyNormalUptoSaid : Prop := homographyNormalUptoRow.holds Tryz.pinned (OpenSpec.upto homographyNormalSpec)

end Rows
end Go.Proofs.YtgnfobnkhjlbbaaGreat
