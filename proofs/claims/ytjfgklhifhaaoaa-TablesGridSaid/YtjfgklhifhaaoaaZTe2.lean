/- Rows of elements: append of a whole row. Conditions: none. -/
import Derived.Test.YtjfgklhifhaaoaaZTe1
import Derived.Deep.AppendSrc
import Derived.Deep.Upon
set_option linter.unusedVariables false
set_option linter.unusedSimpArgs false
namespace Go.Proofs.Ytjfgklhifhaaoaa
open Go.RowKit Go.Deep
section
variable {α : Type} {X : Knd α}
theorem Knd.run_appv (ok : X.Ok) {w : World} (ty : TypeId) (base b2 : Nat) (v u : Value) (l m : List α) (hown : X.Own w base v l) (hu : X.Own w b2 u m) (hl : l.length ≤ 100000000) (hm : m.length ≤ 100000000) (hbase : base ≤ w.heap.size) :
  ∃ v' w', (Builtin.append_ #[X.T, X.T] ty #[v, u]).run Try.prog w = .ok v' w' ∧ X.Own w' base v' (l ++ m) ∧ w.grownBy w' v.ownBlock ∧ (v'.ownBlock = v.ownBlock ∨ v'.ownBlock = some w.heap.size) := by
 rcases hu.2 with ⟨rfl, h0⟩ | ⟨g, cap, cur, rfl, hbg, hg, hnc, hmx, hcs, htake⟩
 ·obtain rfl : m = [] := List.eq_nil_of_length_eq_zero h0
  obtain ⟨A, c, rfl, hr⟩ := hown.rd ok
  obtain ⟨i, hi, hzz⟩ := Option.map_eq_some_iff.1 ok.hi
  have hS : Src Try.prog i.size X.T (.slice none 0 0) 0 [] w := Src.ofNil w ok.ht 0
  have hrun := run_append_nothing w X.T X.T ty X.E i ok.ht hi A l.length c hr.cap (.slice none 0 0) hS
  exact ⟨_, w, hrun, by rw [List.append_nil]; exact hown, World.grownBy.refl _ _, .inl rfl⟩
 ·obtain ⟨A, c, e, hr⟩ := hu.rd ok
  injection e with e1 e2 e3
  subst e1 e3
  refine Knd.run_app ok ty base v l m g 0 cap hown (fun j hj => ?_) hl hm hbase
  obtain ⟨b, o, e, hb, hc⟩ := hr.rd (by omega)
  injection e with e
  injection e with e1 e2
  subst e1 e2
  exact hc j hj
theorem Knd.appv (ok : X.Ok) {w : World} {ops : Array Oper} {rest : List Oper} {o : Oper} {a : Act} {Q : Exit → Act → World → Prop} (hgd : o.guard = none) (s x : Operand)
  (ho : o.op = .call { callee := .builtin .append, args := #[s, x], argTypes := #[X.T, X.T] })
  (base b2 : Nat) (v u : Value) (l m : List α) (hs : a.eval s = v) (hown : X.Own w base v l) (hx : a.eval x = u) (hu : X.Own w b2 u m) (hl : l.length ≤ 100000000) (hm : m.length ≤ 100000000) (hbase : base ≤ w.heap.size)
  (h : ∀ v' w', X.Own w' base v' (l ++ m) → w.grownBy w' v.ownBlock → (v'.ownBlock = v.ownBlock ∨ v'.ownBlock = some w.heap.size) → wpList Try.prog ops Q rest (a.put o.dst v') w') : wpList Try.prog ops Q (o :: rest) a w := by
 refine wpList_plain hgd fun _ hK => ?_
 obtain ⟨v', w', hrun, h2, h3, h4⟩ := Knd.run_appv ok o.type base b2 v u l m hown hu hl hm hbase
 unfold Oper.wp execOp
 simp only [ho, resolve, invoke, builtin, Sem.run_bind, Sem.run_pure, Result.andThen_ok, List.map_toArray, List.map_cons, List.map_nil, hs, hx, hrun]
 exact hK _ _ (h v' w' h2 h3 h4)
end
end Go.Proofs.Ytjfgklhifhaaoaa
