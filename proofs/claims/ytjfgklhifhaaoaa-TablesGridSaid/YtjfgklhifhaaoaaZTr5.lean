/- Rows of elements: append of a row that is only read. Conditions: none. -/
import Derived.Test.YtjfgklhifhaaoaaZTe2
set_option linter.unusedVariables false
set_option linter.unusedSimpArgs false
namespace Go.Proofs.Ytjfgklhifhaaoaa
open Go.RowKit Go.Deep
section
variable {α : Type} {X : Knd α}
theorem Knd.run_appr (ok : X.Ok) {w : World} (ty : TypeId) (base : Nat) (v : Value) (A : Option Addr) (c : Nat) (l m : List α) (hown : X.Own w base v l) (hu : X.Rd w A c m) (hl : l.length ≤ 100000000) (hm : m.length ≤ 100000000) (hbase : base ≤ w.heap.size) :
  ∃ v' w', (Builtin.append_ #[X.T, X.T] ty #[v, .slice A m.length c]).run Try.prog w = .ok v' w' ∧ X.Own w' base v' (l ++ m) ∧ w.grownBy w' v.ownBlock ∧ (v'.ownBlock = v.ownBlock ∨ v'.ownBlock = some w.heap.size) := by
 by_cases h0 : m.length = 0
 ·obtain rfl : m = [] := List.eq_nil_of_length_eq_zero h0
  obtain ⟨A', c', rfl, hr⟩ := hown.rd ok
  obtain ⟨i, hi, hzz⟩ := Option.map_eq_some_iff.1 ok.hi
  have hS : Src Try.prog i.size X.T (.slice A 0 c) 0 [] w := by
   cases A with
   | none => exact Src.ofNil w ok.ht c
   | some a => exact Src.ofSlice w ok.ht a 0 c [] (by simp) (fun j u hu => by simp at hu) (fun u hu => by cases hu)
  have hrun := run_append_nothing w X.T X.T ty X.E i ok.ht hi A' l.length c' hr.cap (.slice A 0 c) hS
  exact ⟨_, w, hrun, by rw [List.append_nil]; exact hown, World.grownBy.refl _ _, .inl rfl⟩
 ·obtain ⟨g, o, rfl, hb, hc⟩ := hu.rd (by omega)
  exact Knd.run_app ok ty base v l m g o c hown (fun j hj => hc j hj) hl hm hbase
theorem Knd.appr (ok : X.Ok) {w : World} {ops : Array Oper} {rest : List Oper} {o : Oper} {a : Act} {Q : Exit → Act → World → Prop} (hgd : o.guard = none) (s x : Operand)
  (ho : o.op = .call { callee := .builtin .append, args := #[s, x], argTypes := #[X.T, X.T] })
  (base : Nat) (v : Value) (A : Option Addr) (n c : Nat) (l m : List α) (hs : a.eval s = v) (hown : X.Own w base v l) (hx : a.eval x = .slice A n c) (hn : m.length = n) (hu : X.Rd w A c m) (hl : l.length ≤ 100000000) (hm : m.length ≤ 100000000) (hbase : base ≤ w.heap.size)
  (h : ∀ v' w', X.Own w' base v' (l ++ m) → w.grownBy w' v.ownBlock → (v'.ownBlock = v.ownBlock ∨ v'.ownBlock = some w.heap.size) → wpList Try.prog ops Q rest (a.put o.dst v') w') : wpList Try.prog ops Q (o :: rest) a w := by
 subst hn
 refine wpList_plain hgd fun _ hK => ?_
 obtain ⟨v', w', hrun, h2, h3, h4⟩ := Knd.run_appr ok o.type base v A c l m hown hu hl hm hbase
 unfold Oper.wp execOp
 simp only [ho, resolve, invoke, builtin, Sem.run_bind, Sem.run_pure, Result.andThen_ok, List.map_toArray, List.map_cons, List.map_nil, hs, hx, hrun]
 exact hK _ _ (h v' w' h2 h3 h4)
end
end Go.Proofs.Ytjfgklhifhaaoaa
