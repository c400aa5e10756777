/- Reading order: append in a region that draws its order. Conditions: none. -/
import Derived.Test.YtjdgjhaggpahkaaZRz1
import Derived.Test.YtjdgjhaggpahkaaZLsr
set_option linter.unusedVariables false
set_option linter.unusedSimpArgs false
namespace Go.Proofs.Ytjdgjhaggpahkaa
open Go.RowKit
theorem cel_one {w : World} {g i : Nat} (hc : w.cell? ⟨g, 0, none⟩ = some (.int .i64 (i : Int))) : CelZ w g 0 [i] := fun j hj => by
 obtain rfl : j = 0 := by simpa using hj
 exact hc
/-- the same in a region that draws its order -/
theorem step_app1 {w : World} {ops : Array Oper} {o : Oper} {a : Act} {K : Act → World → Prop} {Q : Exit → Act → World → Prop} {E : Prop} (hgd : o.guard = none) (s x : Operand)
  (ho : o.op = .call { callee := .builtin .append, args := #[s, x], argTypes := #[25, 25] })
  (base : Nat) (v : Value) (l : List Nat) (i : Nat) (g : Nat) (hs : a.eval s = v) (hown : OwnZ w base v l) (hx : a.eval x = .slice (some ⟨g, 0, none⟩) 1 1)
  (hc : w.cell? ⟨g, 0, none⟩ = some (.int .i64 (i : Int))) (hl : l.length ≤ 1000000) (hbase : base ≤ w.heap.size)
  (h : ∀ v' w', OwnZ w' base v' (l ++ [i]) → w.grownBy w' v.ownBlock → (v'.ownBlock = v.ownBlock ∨ v'.ownBlock = some w.heap.size) → K (a.put o.dst v') w') :
  if Region.wanted o (yielded ops a.tmps) = true then Oper.wp Try.prog o a w K Q else E := by
 have hw : Region.wanted o (yielded ops a.tmps) = true := by simp [Region.wanted, hgd]
 rw [if_pos hw]
 obtain ⟨v', w', hrun, h2, h3, h4⟩ := run_appZ o.type base v l [i] g 0 1 hown (cel_one hc) hl (by simp) hbase
 rw [show [i].length = 1 from rfl] at hrun
 unfold Oper.wp execOp
 simp only [ho, resolve, invoke, builtin, Sem.run_bind, Sem.run_pure, Result.andThen_ok, List.map_toArray, List.map_cons, List.map_nil, hs, hx, hrun]
 exact h v' w' h2 h3 h4
end Go.Proofs.Ytjdgjhaggpahkaa
