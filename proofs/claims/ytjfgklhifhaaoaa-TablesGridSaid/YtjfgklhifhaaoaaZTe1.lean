/- Rows of elements: append in a region that draws its order; two operations that may come in either order. Conditions: none. -/
import Derived.Test.YtjfgklhifhaaoaaZTe0
import Derived.Test.YtjfgklhifhaaoaaZLsr
import Derived.Deep.Light
set_option linter.unusedVariables false
set_option linter.unusedSimpArgs false
namespace Go.Proofs.Ytjfgklhifhaaoaa
open Go.RowKit
section
variable {α : Type} {X : Knd α}
theorem Knd.step_apps (ok : X.Ok) {w : World} {ops : Array Oper} {o : Oper} {a : Act} {K : Act → World → Prop} {Q : Exit → Act → World → Prop} {E : Prop} (hgd : o.guard = none) (s x : Operand)
  (ho : o.op = .call { callee := .builtin .append, args := #[s, x], argTypes := #[X.T, X.T] })
  (base : Nat) (v : Value) (l m : List α) (g off c : Nat) (hs : a.eval s = v) (hown : X.Own w base v l) (hx : a.eval x = .slice (some ⟨g, off, none⟩) m.length c)
  (hr : ∀ j (h : j < m.length), X.At w g (off + j * X.k) m[j]) (hl : l.length ≤ 100000000) (hm : m.length ≤ 100000000) (hbase : base ≤ w.heap.size)
  (h : ∀ v' w', X.Own w' base v' (l ++ m) → w.grownBy w' v.ownBlock → (v'.ownBlock = v.ownBlock ∨ v'.ownBlock = some w.heap.size) → K (a.put o.dst v') w') :
  if Region.wanted o (yielded ops a.tmps) = true then Oper.wp Try.prog o a w K Q else E := by
 have hw : Region.wanted o (yielded ops a.tmps) = true := by simp [Region.wanted, hgd]
 rw [if_pos hw]
 obtain ⟨v', w', hrun, h2, h3, h4⟩ := Knd.run_app ok o.type base v l m g off c hown hr hl hm hbase
 unfold Oper.wp execOp
 simp only [ho, resolve, invoke, builtin, Sem.run_bind, Sem.run_pure, Result.andThen_ok, List.map_toArray, List.map_cons, List.map_nil, hs, hx, hrun]
 exact h v' w' h2 h3 h4
theorem Knd.step_app1 (ok : X.Ok) {w : World} {ops : Array Oper} {o : Oper} {a : Act} {K : Act → World → Prop} {Q : Exit → Act → World → Prop} {E : Prop} (hgd : o.guard = none) (s x : Operand)
  (ho : o.op = .call { callee := .builtin .append, args := #[s, x], argTypes := #[X.T, X.T] })
  (base : Nat) (v : Value) (l : List α) (p : α) (g : Nat) (hs : a.eval s = v) (hown : X.Own w base v l) (hx : a.eval x = .slice (some ⟨g, 0, none⟩) 1 1)
  (hr : w.rangeAt g 0 (X.enc p)) (hl : l.length ≤ 100000000) (hbase : base ≤ w.heap.size)
  (h : ∀ v' w', X.Own w' base v' (l ++ [p]) → w.grownBy w' v.ownBlock → (v'.ownBlock = v.ownBlock ∨ v'.ownBlock = some w.heap.size) → K (a.put o.dst v') w') :
  if Region.wanted o (yielded ops a.tmps) = true then Oper.wp Try.prog o a w K Q else E :=
 Knd.step_apps ok hgd s x ho base v l [p] g 0 1 hs hown hx (fun j hj => by
  obtain rfl : j = 0 := by simpa using hj
  intro i u hu
  have := hr i u hu
  rw [Nat.zero_add] at this
  simpa using this) hl (by simp) hbase h
end
section
variable {P : Program} {ops : Array Oper} {Q : Exit → Act → World → Prop} {md : Region.Mode} {S : World → Prop} {x : Nat}
/-- either of two may come -/
theorem Ords.fork {i j : Nat} {o q : Oper} {n : Nat} {d : Array Bool} {a : Act} {w : World} (hr : Region.ready md ops d = [i, j]) (ho : ops[i]? = some o) (hq : ops[j]? = some q)
  (h : ∀ K : Act → World → Prop, Shut (∀ b v, (S v) → (S v → Ords P md ops Q S x n (d.setIfInBounds i true) b v) → K b v) → if Region.wanted o (yielded ops a.tmps) = true then Oper.wp P o a w K Q else K (a.put o.dst undef) w)
  (h' : ∀ K : Act → World → Prop, Shut (∀ b v, (S v) → (S v → Ords P md ops Q S x n (d.setIfInBounds j true) b v) → K b v) → if Region.wanted q (yielded ops a.tmps) = true then Oper.wp P q a w K Q else K (a.put q.dst undef) w) :
  Ords P md ops Q S x (n + 1) d a w := by
 refine ⟨fun h0 => (by rw [hr] at h0; cases h0), fun k hk => ?_⟩
 rw [hr] at hk
 rcases (show k = i ∨ k = j by simpa using hk) with rfl | rfl
 ·exact wpOp_step ho fun K hK => h K fun b v hS hW => hK b v ⟨fun _ => hS, hW hS⟩
 ·exact wpOp_step hq fun K hK => h' K fun b v hS hW => hK b v ⟨fun _ => hS, hW hS⟩
end
end Go.Proofs.Ytjfgklhifhaaoaa
