/- Reading order: rows of boxes that a call owns. Conditions: none. -/
import Derived.Test.YtjdgjhaggpahkaaZLz6
import Derived.Test.YtjdgjhaggpahkaaZNr8
set_option linter.unusedVariables false
set_option linter.unusedSimpArgs false
namespace Go.Proofs.Ytjdgjhaggpahkaa
open Go.RowKit
def cellsB : List Bx → List Value
 | [] => []
 | b :: l => .int .i64 b.x :: .int .i64 b.y :: .int .i64 b.w :: .int .i64 b.h :: cellsB l
theorem cellsB_app : ∀ a b : List Bx, cellsB (a ++ b) = cellsB a ++ cellsB b
 | [], b => rfl
 | p :: a, b => by simp [cellsB, cellsB_app a b]
theorem cellsB_get : ∀ (l : List Bx) (j : Nat) (h : j < l.length), (cellsB l)[j * 4]? = some (.int .i64 l[j].x) ∧ (cellsB l)[j * 4 + 1]? = some (.int .i64 l[j].y) ∧ (cellsB l)[j * 4 + 2]? = some (.int .i64 l[j].w) ∧ (cellsB l)[j * 4 + 3]? = some (.int .i64 l[j].h)
 | [], j, h => by simp at h
 | p :: l, 0, _ => ⟨rfl, rfl, rfl, rfl⟩
 | p :: l, j + 1, h => by
  have h' := cellsB_get l j (by simpa using h)
  have e1 : (j + 1) * 4 = j * 4 + 4 := by omega
  rw [e1]
  exact ⟨h'.1, h'.2.1, h'.2.2.1, h'.2.2.2⟩
/-- a row of boxes that the call owns -/
def OwnB (w : World) (base : Nat) (v : Value) (l : List Bx) : Prop := w.ownsRow base 31 4 v l.length (cellsB l)
theorem OwnB.nil (w : World) (base : Nat) : OwnB w base (.slice none 0 0) [] := World.ownsRow_nil _ _ _ _
theorem OwnB.below {w w' : World} {base : Nat} {v : Value} {l : List Bx} (h : OwnB w base v l) (hb : Below w.heap.size w w') : OwnB w' base v l := by
 refine ⟨h.1, ?_⟩
 rcases h.2 with h2 | ⟨g, cap, cur, hv, hg, hh, r⟩
 ·exact .inl h2
 ·exact .inr ⟨g, cap, cur, hv, hg, (hb.block g (Array.getElem?_eq_some_iff.1 hh).1).trans hh, r⟩
theorem OwnB.lt {w : World} {base : Nat} {v : Value} {l : List Bx} (h : OwnB w base v l) {k : Nat} (hk : v.ownBlock = some k) : base ≤ k ∧ k < w.heap.size := World.ownsRow.lt h k hk
theorem OwnB.qb {w : World} {base : Nat} {v : Value} {l : List Bx} (h : OwnB w base v l) : ∃ A c, v = .slice A l.length c ∧ Qb w A c l := by
 rcases h.2 with ⟨rfl, h0⟩ | ⟨g, cap, cur, rfl, hbg, hg, hnc, hmx, hcs, htake⟩
 ·obtain rfl : l = [] := List.eq_nil_of_length_eq_zero h0
  exact ⟨none, 0, rfl, Qb.nil w⟩
 ·refine ⟨_, cap, rfl, hnc, by unfold maxLen at hmx; omega, fun h0 => ⟨g, 0, rfl, (Array.getElem?_eq_some_iff.1 hg).1, fun j hj => ?_⟩⟩
  have hc : ∀ i u, (cellsB l)[i]? = some u → w.cell? ⟨g, 0 + i, none⟩ = some u := fun i u hu => by
   have := World.ownsRow.cells h (g := g) rfl i u hu
   rwa [add_plain] at this
  obtain ⟨h1, h2, h3, h4⟩ := cellsB_get l j hj
  exact ⟨hc _ _ h1, hc _ _ h2, hc _ _ h3, hc _ _ h4⟩
theorem infoBx : (Try.prog.info? 31).map (fun i => (i.zero, i.size, i.bytes)) = some (some (.agg #[.int .i64 0, .int .i64 0, .int .i64 0, .int .i64 0]), 4, 32) := by kernel_rfl
theorem run_appB {w : World} (ty : TypeId) (base : Nat) (v : Value) (l : List Bx) (p : Bx) (g : Nat) (hown : OwnB w base v l) (hr : w.rangeAt g 0 (cellsB [p])) (hl : l.length ≤ 1000000) (hbase : base ≤ w.heap.size) :
  ∃ v' w', (Builtin.append_ #[22, 22] ty #[v, .slice (some ⟨g, 0, none⟩) 1 1]).run Try.prog w = .ok v' w' ∧ OwnB w' base v' (l ++ [p]) ∧ w.grownBy w' v.ownBlock := by
 obtain ⟨i, hi, hzz⟩ := Option.map_eq_some_iff.1 infoBx
 simp only [Prod.mk.injEq] at hzz
 obtain ⟨hz, hs2, hb⟩ := hzz
 have hnews : ∀ j u, (cellsB [p])[j]? = some u → w.cell? ((⟨g, 0, none⟩ : Addr).add j) = some u := fun j u hu => by
  have := hr j u hu
  rwa [add_plain]
 have hone : ∀ u ∈ cellsB [p], u.oneCell' = true := fun u hu => by
  simp only [cellsB, List.mem_cons] at hu
  rcases hu with rfl | rfl | rfl | rfl | h
  ·rfl
  ·rfl
  ·rfl
  ·rfl
  ·cases h
 obtain ⟨v', w', hrun, h2, h3, _, _⟩ := run_append_own_at (P := Try.prog) w base 22 ty 31 i _ 4 32 Try.underlying22 hi hz hs2 hb rfl (by omega) v l.length (cellsB l) hown ⟨g, 0, none⟩ 1 1 (cellsB [p]) rfl hnews hone (by unfold maxLen; omega) (by omega) hbase
 exact ⟨v', w', hrun, by unfold OwnB; rw [List.length_append, cellsB_app]; exact h2, h3⟩
theorem wpList_appB {w : World} {ops : Array Oper} {rest : List Oper} {o : Oper} {a : Act} {Q : Exit → Act → World → Prop} (hgd : o.guard = none) (s x : Operand)
  (ho : o.op = .call { callee := .builtin .append, args := #[s, x], argTypes := #[22, 22] })
  (base : Nat) (v : Value) (l : List Bx) (p : Bx) (g : Nat) (hs : a.eval s = v) (hown : OwnB w base v l) (hx : a.eval x = .slice (some ⟨g, 0, none⟩) 1 1)
  (hr : w.rangeAt g 0 (cellsB [p])) (hl : l.length ≤ 1000000) (hbase : base ≤ w.heap.size)
  (h : ∀ v' w', OwnB w' base v' (l ++ [p]) → w.grownBy w' v.ownBlock → wpList Try.prog ops Q rest (a.put o.dst v') w') : wpList Try.prog ops Q (o :: rest) a w := by
 refine wpList_plain hgd fun _ hK => ?_
 obtain ⟨v', w', hrun, h2, h3⟩ := run_appB o.type base v l p g hown hr hl hbase
 unfold Oper.wp execOp
 simp only [ho, resolve, invoke, builtin, Sem.run_bind, Sem.run_pure, Result.andThen_ok, List.map_toArray, List.map_cons, List.map_nil, hs, hx, hrun]
 exact hK _ _ (h v' w' h2 h3)
theorem Below.grownB {B : Nat} {a w w' : World} {base : Nat} {v : Value} {l : List Bx} (hb : Below B a w) (ho : OwnB w base v l) (hg : w.grownBy w' v.ownBlock) (hB : B ≤ w.heap.size) (hbase : B ≤ base) : Below B a w' :=
 Below.grown hb hg hB fun k e => Nat.le_trans hbase (ho.lt e).1
end Go.Proofs.Ytjdgjhaggpahkaa
