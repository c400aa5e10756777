/-
  No cell of these rows narrows 'for every input' (looked for: loops, veiled, ifaces, maps, wideKeys, modest, calm, conditions, laid).
  DERIVED. THE GIVEN ROWS OF THIS SEAT. 3 by the template 'for every input the law returns true; each argument reads behind the call as it read before'; 0 by the template 'total and deterministic' (their statements: YtjfgklhifhaaoaaGreatTotals.lean).
  GIVEN WITH THE SEED: the statements are not yours to turn. If you find one false, say at which input.
  Laid BY PROGRAM, IN A SANDBOX (cutbox-rows.mjs): the forced cells as the released guide's own fill.sh prints them over the translation 5758e9a24f29c95a… (all of the seat's roots in one cut). By AI agents, Wed Nov 11 2026. No macro, syntax, notation, axiom, sorry.
-/
import Derived.Test.YtjfgklhifhaaoaaGreatChecked
import GoSem.Claim
import GoSem.ClaimJoined
import GoSem.ClaimMapViews
import Derived.JoinedTies
import Derived.KernelRfl
namespace Go.Proofs.YtjfgklhifhaaoaaGreat
/- THE CELL 'sum', in the pinned program and in every row, IS THE sha256 OF THE DUMP (.gsa) THAT YtjfgklhifhaaoaaGreatProg.lean LOADS. Nothing in Lean hashes anything: it is a label: what it is worth is what the hold of that sum in a sandbox is worth. -/
noncomputable def Tryz.pinned : Pinned := { name := "ytjfgklhifhaaoaagreat", sum := "5758e9a24f29c95a018727a23c41d294f2aee24a2e1bf2faa20ac83edafb51c3", checked := Tryz.checked }
namespace Rows
def none {H : Type} : Left H := { results := [], args := [] }

/-- 'barscanlaw49.TablesRules': WHATEVER THE INPUT: true; the input reads as it did. -/
def tablesRulesSpec : ChangeSpec := { name := "tablesRules", fn := fun _ => fun
  | [d1, d2, d3] => { results := [.lit (.bool true)], args := [d1, d2, d3] }
  | _ => none }
def tablesRulesRow : OpenClaim := { program := "ytjfgklhifhaaoaagreat", sum := "5758e9a24f29c95a018727a23c41d294f2aee24a2e1bf2faa20ac83edafb51c3", func := "barscan/barscanlaw49.TablesRules", spec := "tablesRules", unfollowed := true, recurses := true, plainKeys := false, apart := false }
def TablesRulesSaid : Prop := tablesRulesRow.holds Tryz.pinned (OpenSpec.ofChange tablesRulesSpec)

/-- ITS FALSE NEIGHBOUR: 'it returns false'. Refute it at one input. -/
def tablesRulesWrong : ChangeSpec := { name := "tablesRules", fn := fun _ => fun
  | [d1, d2, d3] => { results := [.lit (.bool false)], args := [d1, d2, d3] }
  | _ => none }
def TablesRulesWrongFalsely : Prop := tablesRulesRow.holds Tryz.pinned (OpenSpec.ofChange tablesRulesWrong)

/-- 'barscanlaw49.TablesGrids': WHATEVER THE INPUT: true; the input reads as it did. -/
def tablesGridsSpec : ChangeSpec := { name := "tablesGrids", fn := fun _ => fun
  | [d] => { results := [.lit (.bool true)], args := [d] }
  | _ => none }
def tablesGridsRow : OpenClaim := { program := "ytjfgklhifhaaoaagreat", sum := "5758e9a24f29c95a018727a23c41d294f2aee24a2e1bf2faa20ac83edafb51c3", func := "barscan/barscanlaw49.TablesGrids", spec := "tablesGrids", unfollowed := true, recurses := true, plainKeys := false, apart := false }
def TablesGridsSaid : Prop := tablesGridsRow.holds Tryz.pinned (OpenSpec.ofChange tablesGridsSpec)

/-- ITS FALSE NEIGHBOUR: 'it returns false'. Refute it at one input. -/
def tablesGridsWrong : ChangeSpec := { name := "tablesGrids", fn := fun _ => fun
  | [d] => { results := [.lit (.bool false)], args := [d] }
  | _ => none }
def TablesGridsWrongFalsely : Prop := tablesGridsRow.holds Tryz.pinned (OpenSpec.ofChange tablesGridsWrong)

/-- 'barscanlaw49.TablesDraws': WHATEVER THE INPUT: true; the input reads as it did. -/
def tablesDrawsSpec : ChangeSpec := { name := "tablesDraws", fn := fun _ => fun
  | [d1, d2, d3] => { results := [.lit (.bool true)], args := [d1, d2, d3] }
  | _ => none }
def tablesDrawsRow : OpenClaim := { program := "ytjfgklhifhaaoaagreat", sum := "5758e9a24f29c95a018727a23c41d294f2aee24a2e1bf2faa20ac83edafb51c3", func := "barscan/barscanlaw49.TablesDraws", spec := "tablesDraws", unfollowed := true, recurses := true, plainKeys := false, apart := false }
def TablesDrawsSaid : Prop := tablesDrawsRow.holds Tryz.pinned (OpenSpec.ofChange tablesDrawsSpec)

/-- ITS FALSE NEIGHBOUR: 'it returns false'. Refute it at one input. -/
def tablesDrawsWrong : ChangeSpec := { name := "tablesDraws", fn := fun _ => fun
  | [d1, d2, d3] => { results := [.lit (.bool false)], args := [d1, d2, d3] }
  | _ => none }
def TablesDrawsWrongFalsely : Prop := tablesDrawsRow.holds Tryz.pinned (OpenSpec.ofChange tablesDrawsWrong)

/- THE SECOND FORM. 'bulk': how many values and letters a reading holds, each counted each time it is reached (what is shared counts as often as it is met; a slice's spare places count too). A statement '..UptoSaid' is the law's where the arguments, and the package variables that the reading takes, are together of bulk at most 1048576: NARROWER than '..Said'. Prove '..Said' where nothing that the law and all that it calls make is longer than what came in: it says more and counts as full. Else prove '..UptoSaid'. A law counts once. -/
mutual
def uptoBulk {H : Type} : DataW H → Nat
  | .lit (.string bytes) => bytes.length + 1
  | .lit _ => 1
  | .nil => 1
  | .ptr d => uptoBulk d + 1
  | .slice elems spare => uptoBulkAll elems + uptoBulkAll spare + 1
  | .agg parts => uptoBulkAll parts + 1
  | .iface _ d => uptoBulk d + 1
  | .map entries => uptoBulkEntries entries + 1
  | .held _ => 1
def uptoBulkAll {H : Type} : List (DataW H) → Nat
  | [] => 0
  | d :: r => uptoBulk d + uptoBulkAll r
def uptoBulkEntries {H : Type} : List (Lit × DataW H) → Nat
  | [] => 0
  | x :: r => uptoBulkEntry x + uptoBulkEntries r
def uptoBulkEntry {H : Type} : Lit × DataW H → Nat
  | (.string bytes, d) => bytes.length + uptoBulk d + 1
  | (_, d) => uptoBulk d + 1
 end
def uptoSmall : (H : Type) → List (DataW H) → Bool := fun _ ds => decide (uptoBulkAll ds ≤ 1048576)
def OpenSpec.upto (s : _root_.Go.ChangeSpec) : _root_.Go.OpenSpec := { _root_.Go.OpenSpec.ofChange s with cond := some uptoSmall }

/-- 'barscanlaw49.TablesRules', WHERE WHAT IT READS IS OF BULK AT MOST 1048576: true; the input reads as it did. -/
def tablesRulesUptoRow : OpenClaim := { program := "ytjfgklhifhaaoaagreat", sum := "5758e9a24f29c95a018727a23c41d294f2aee24a2e1bf2faa20ac83edafb51c3", func := "barscan/barscanlaw49.TablesRules", spec := "tablesRules", unfollowed := true, recurses := true, plainKeys := false, apart := false, narrowed := true }
def TablesRulesUptoSaid : Prop := tablesRulesUptoRow.holds Tryz.pinned (OpenSpec.upto tablesRulesSpec)

/-- 'barscanlaw49.TablesGrids', WHERE WHAT IT READS IS OF BULK AT MOST 1048576: true; the input reads as it did. -/
def tablesGridsUptoRow : OpenClaim := { program := "ytjfgklhifhaaoaagreat", sum := "5758e9a24f29c95a018727a23c41d294f2aee24a2e1bf2faa20ac83edafb51c3", func := "barscan/barscanlaw49.TablesGrids", spec := "tablesGrids", unfollowed := true, recurses := true, plainKeys := false, apart := false, narrowed := true }
def TablesGridsUptoSaid : Prop := tablesGridsUptoRow.holds Tryz.pinned (OpenSpec.upto tablesGridsSpec)

/-- 'barscanlaw49.TablesDraws', WHERE WHAT IT READS IS OF BULK AT MOST 1048576: true; the input reads as it did. -/
def tablesDrawsUptoRow : OpenClaim := { program := "ytjfgklhifhaaoaagreat", sum := "5758e9a24f29c95a018727a23c41d294f2aee24a2e1bf2faa20ac83edafb51c3", func := "barscan/barscanlaw49.TablesDraws", spec := "tablesDraws", unfollowed := true, recurses := true, plainKeys := false, apart := false, narrowed := true }
def TablesDrawsUptoSaid : Prop := tablesDrawsUptoRow.holds Tryz.pinned (OpenSpec.upto tablesDrawsSpec)

end Rows
end Go.Proofs.YtjfgklhifhaaoaaGreat
