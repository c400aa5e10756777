/-
  No cell of these rows narrows 'for every input' (looked for: loops, veiled, ifaces, maps, wideKeys, modest, calm, conditions, laid).
  DERIVED. THE GIVEN ROWS OF THIS SEAT. 2 by the template 'for every input the law returns true; each argument reads behind the call as it read before'; 0 by the template 'total and deterministic' (their statements: YtjfgklhifhaaoaaTotals.lean).
  GIVEN WITH THE SEED: the statements are not yours to turn. If you find one false, say at which input.
  Laid BY PROGRAM, IN A SANDBOX (cutbox-rows.mjs): the forced cells as the released guide's own fill.sh prints them over the translation f6c231e5c699bcc3… (all of the seat's roots in one cut). By AI agents, Wed Nov 11 2026. No macro, syntax, notation, axiom, sorry.
-/
import Derived.Test.YtjfgklhifhaaoaaChecked
import GoSem.Claim
import GoSem.ClaimJoined
import GoSem.ClaimMapViews
import Derived.JoinedTies
import Derived.KernelRfl
namespace Go.Proofs.Ytjfgklhifhaaoaa
/- THE CELL 'sum', in the pinned program and in every row, IS THE sha256 OF THE DUMP (.gsa) THAT YtjfgklhifhaaoaaProg.lean LOADS. Nothing in Lean hashes anything: it is a label: what it is worth is what the hold of that sum in a sandbox is worth. -/
noncomputable def Try.pinned : Pinned := { name := "ytjfgklhifhaaoaa", sum := "f6c231e5c699bcc33d6ed7b99ddc11b09bb4613960b8de32bbc3da6d3165a695", checked := Try.checked }
namespace Rows
def none {H : Type} : Left H := { results := [], args := [] }

/-- 'barscanlaw49.TablesGrid': WHATEVER THE INPUT: true; the input reads as it did. -/
def tablesGridSpec : ChangeSpec := { name := "tablesGrid", fn := fun _ => fun
  | [d1, d2, d3] => { results := [.lit (.bool true)], args := [d1, d2, d3] }
  | _ => none }
def tablesGridRow : OpenClaim := { program := "ytjfgklhifhaaoaa", sum := "f6c231e5c699bcc33d6ed7b99ddc11b09bb4613960b8de32bbc3da6d3165a695", func := "barscan/barscanlaw49.TablesGrid", spec := "tablesGrid", unfollowed := true, recurses := true, plainKeys := false, apart := false }
def TablesGridSaid : Prop := tablesGridRow.holds Try.pinned (OpenSpec.ofChange tablesGridSpec)

/-- ITS FALSE NEIGHBOUR: 'it returns false'. Refute it at one input. -/
def tablesGridWrong : ChangeSpec := { name := "tablesGrid", fn := fun _ => fun
  | [d1, d2, d3] => { results := [.lit (.bool false)], args := [d1, d2, d3] }
  | _ => none }
def TablesGridWrongFalsely : Prop := tablesGridRow.holds Try.pinned (OpenSpec.ofChange tablesGridWrong)

/-- 'barscanlaw49.TablesLocates': WHATEVER THE INPUT: true; the input reads as it did. -/
def tablesLocatesSpec : ChangeSpec := { name := "tablesLocates", fn := fun _ => fun
  | [d1, d2] => { results := [.lit (.bool true)], args := [d1, d2] }
  | _ => none }
def tablesLocatesRow : OpenClaim := { program := "ytjfgklhifhaaoaa", sum := "f6c231e5c699bcc33d6ed7b99ddc11b09bb4613960b8de32bbc3da6d3165a695", func := "barscan/barscanlaw49.TablesLocates", spec := "tablesLocates", unfollowed := true, recurses := true, plainKeys := false, apart := false }
def TablesLocatesSaid : Prop := tablesLocatesRow.holds Try.pinned (OpenSpec.ofChange tablesLocatesSpec)

/-- ITS FALSE NEIGHBOUR: 'it returns false'. Refute it at one input. -/
def tablesLocatesWrong : ChangeSpec := { name := "tablesLocates", fn := fun _ => fun
  | [d1, d2] => { results := [.lit (.bool false)], args := [d1, d2] }
  | _ => none }
def TablesLocatesWrongFalsely : Prop := tablesLocatesRow.holds Try.pinned (OpenSpec.ofChange tablesLocatesWrong)

/- THE SECOND FORM. 'bulk': how many values and letters a reading holds, each counted each time it is reached (what is shared counts as often as it is met; a slice's spare places count too). A statement '..UptoSaid' is the law's where the arguments, and the package variables that the reading takes, are together of bulk at most 1048576: NARROWER than '..Said'. Prove '..Said' where nothing that the law and all that it calls make is longer than what came in: it says more and counts as full. Else prove '..UptoSaid'. A law counts once. -/
mutual
def uptoBulk {H : Type} : DataW H → Nat
  | .lit (.string bytes) => bytes.length + 1
  | .lit _ => 1
  | .nil => 1
  | .ptr d => uptoBulk d + 1
  | .slice elems spare => uptoBulkAll elems + uptoBulkAll spare + 1
  | .agg parts => uptoBulkAll parts + 1
  | .iface _ d => uptoBulk d + 1
  | .map entries => uptoBulkEntries entries + 1
  | .held _ => 1
def uptoBulkAll {H : Type} : List (DataW H) → Nat
  | [] => 0
  | d :: r => uptoBulk d + uptoBulkAll r
def uptoBulkEntries {H : Type} : List (Lit × DataW H) → Nat
  | [] => 0
  | x :: r => uptoBulkEntry x + uptoBulkEntries r
def uptoBulkEntry {H : Type} : Lit × DataW H → Nat
  | (.string bytes, d) => bytes.length + uptoBulk d + 1
  | (_, d) => uptoBulk d + 1
 end
def uptoSmall : (H : Type) → List (DataW H) → Bool := fun _ ds => decide (uptoBulkAll ds ≤ 1048576)
def OpenSpec.upto (s : _root_.Go.ChangeSpec) : _root_.Go.OpenSpec := { _root_.Go.OpenSpec.ofChange s with cond := some uptoSmall }

/-- 'barscanlaw49.TablesGrid', WHERE WHAT IT READS IS OF BULK AT MOST 1048576: true; the input reads as it did. -/
def tablesGridUptoRow : OpenClaim := { program := "ytjfgklhifhaaoaa", sum := "f6c231e5c699bcc33d6ed7b99ddc11b09bb4613960b8de32bbc3da6d3165a695", func := "barscan/barscanlaw49.TablesGrid", spec := "tablesGrid", unfollowed := true, recurses := true, plainKeys := false, apart := false, narrowed := true }
def TablesGridUptoSaid : Prop := tablesGridUptoRow.holds Try.pinned (OpenSpec.upto tablesGridSpec)

/-- 'barscanlaw49.TablesLocates', WHERE WHAT IT READS IS OF BULK AT MOST 1048576: true; the input reads as it did. -/
def tablesLocatesUptoRow : OpenClaim := { program := "ytjfgklhifhaaoaa", sum := "f6c231e5c699bcc33d6ed7b99ddc11b09bb4613960b8de32bbc3da6d3165a695", func := "barscan/barscanlaw49.TablesLocates", spec := "tablesLocates", unfollowed := true, recurses := true, plainKeys := false, apart := false, narrowed := true }
def TablesLocatesUptoSaid : Prop := tablesLocatesUptoRow.holds Try.pinned (OpenSpec.upto tablesLocatesSpec)

end Rows
end Go.Proofs.Ytjfgklhifhaaoaa
