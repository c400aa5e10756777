/- Reading order: rows of indexes that a call owns, and lists of indexes in memory. Conditions: none. -/
import Derived.Test.YtjdgjhaggpahkaaZRd0
set_option linter.unusedVariables false
set_option linter.unusedSimpArgs false
namespace Go.Proofs.Ytjdgjhaggpahkaa
open Go.RowKit
def intV (i : Nat) : Value := .int .i64 (i : Int)
/-- a row of indexes that the call owns -/
def OwnZ (w : World) (base : Nat) (v : Value) (l : List Nat) : Prop := w.ownsRow base 3 1 v l.length (l.map intV)
theorem OwnZ.nil (w : World) (base : Nat) : OwnZ w base (.slice none 0 0) [] := World.ownsRow_nil _ _ _ _
theorem OwnZ.older {w : World} {base base' : Nat} {v : Value} {l : List Nat} (hb : base' ≤ base) (h : OwnZ w base v l) : OwnZ w base' v l := by
 refine ⟨h.1, ?_⟩
 rcases h.2 with h2 | ⟨g, cap, cur, hv, hg, hh, r⟩
 ·exact .inl h2
 ·exact .inr ⟨g, cap, cur, hv, Nat.le_trans hb hg, hh, r⟩
theorem OwnZ.kept {w w' : World} {base : Nat} {v : Value} {l : List Nat} (h : OwnZ w base v l) (hb : ∀ k, v.ownBlock = some k → w'.heap[k]? = w.heap[k]?) : OwnZ w' base v l := by
 refine ⟨h.1, ?_⟩
 rcases h.2 with h2 | ⟨g, cap, cur, hv, hg, hh, r⟩
 ·exact .inl h2
 ·exact .inr ⟨g, cap, cur, hv, hg, (hb g (by rw [hv]; rfl)).trans hh, r⟩
theorem OwnZ.lt {w : World} {base : Nat} {v : Value} {l : List Nat} (h : OwnZ w base v l) {k : Nat} (hk : v.ownBlock = some k) : base ≤ k ∧ k < w.heap.size := World.ownsRow.lt h k hk
theorem OwnZ.below {w w' : World} {base : Nat} {v : Value} {l : List Nat} (h : OwnZ w base v l) (hb : Below w.heap.size w w') : OwnZ w' base v l :=
 h.kept fun k hk => hb.block k (h.lt hk).2
/-- what another block's growth leaves -/
theorem OwnZ.grown {w w' : World} {base : Nat} {v : Value} {l : List Nat} (h : OwnZ w base v l) {row : Option Nat} (hg : w.grownBy w' row) (hne : v.ownBlock = none ∨ v.ownBlock ≠ row) : OwnZ w' base v l :=
 h.kept fun k hk => hg.block k (h.lt hk).2 (by rcases hne with e | e; (rw [e] at hk; cases hk); (rw [hk] at e; exact e))
theorem infoZ : (Try.prog.info? 3).map (fun i => (i.zero, i.size, i.bytes)) = some (some (.int .i64 0), 1, 8) := by kernel_rfl
theorem add_plain (g o j : Nat) : (⟨g, o, none⟩ : Addr).add j = ⟨g, o + j, none⟩ := by simp [Addr.add]
/-- cells of a list of indexes -/
def CelZ (w : World) (g o : Nat) (l : List Nat) : Prop := ∀ j (h : j < l.length), w.cell? ⟨g, o + j, none⟩ = some (intV l[j])
theorem run_appZ {w : World} (ty : TypeId) (base : Nat) (v : Value) (l m : List Nat) (g o c : Nat) (hown : OwnZ w base v l)
  (hc : CelZ w g o m) (hl : l.length ≤ 1000000) (hm : m.length ≤ 1000000) (hbase : base ≤ w.heap.size) :
  ∃ v' w', (Builtin.append_ #[25, 25] ty #[v, .slice (some ⟨g, o, none⟩) m.length c]).run Try.prog w = .ok v' w' ∧ OwnZ w' base v' (l ++ m) ∧ w.grownBy w' v.ownBlock ∧ (v'.ownBlock = v.ownBlock ∨ v'.ownBlock = some w.heap.size) := by
 obtain ⟨i, hi, hzz⟩ := Option.map_eq_some_iff.1 infoZ
 simp only [Prod.mk.injEq] at hzz
 obtain ⟨hz, hs2, hb⟩ := hzz
 have hnews : ∀ j u, (m.map intV)[j]? = some u → w.cell? ((⟨g, o, none⟩ : Addr).add j) = some u := fun j u hu => by
  obtain ⟨hj, e⟩ := List.getElem?_eq_some_iff.1 hu
  rw [List.length_map] at hj
  rw [List.getElem_map] at e
  subst e
  rw [add_plain]
  exact hc j hj
 have hone : ∀ u ∈ (m.map intV), u.oneCell' = true := fun u hu => by
  obtain ⟨x, _, rfl⟩ := List.mem_map.1 hu
  rfl
 obtain ⟨v', w', hrun, h2, h3, _, h4⟩ := run_append_own_at (P := Try.prog) w base 25 ty 3 i _ 1 8 Try.underlying25 hi hz hs2 hb rfl (by omega) v l.length (l.map intV) hown ⟨g, o, none⟩ m.length c (m.map intV) (by simp) hnews hone (by unfold maxLen; omega) (by omega) hbase
 exact ⟨v', w', hrun, by unfold OwnZ; rw [List.length_append, List.map_append]; exact h2, h3, h4⟩
/-- append of a slice of indexes: at any place of a plain region -/
theorem wpList_appZ {w : World} {ops : Array Oper} {rest : List Oper} {o : Oper} {a : Act} {Q : Exit → Act → World → Prop} (hgd : o.guard = none) (s x : Operand)
  (ho : o.op = .call { callee := .builtin .append, args := #[s, x], argTypes := #[25, 25] })
  (base : Nat) (v : Value) (l m : List Nat) (g off c : Nat) (hs : a.eval s = v) (hown : OwnZ w base v l) (hx : a.eval x = .slice (some ⟨g, off, none⟩) m.length c)
  (hc : CelZ w g off m) (hl : l.length ≤ 1000000) (hm : m.length ≤ 1000000) (hbase : base ≤ w.heap.size)
  (h : ∀ v' w', OwnZ w' base v' (l ++ m) → w.grownBy w' v.ownBlock → (v'.ownBlock = v.ownBlock ∨ v'.ownBlock = some w.heap.size) → wpList Try.prog ops Q rest (a.put o.dst v') w') : wpList Try.prog ops Q (o :: rest) a w := by
 refine wpList_plain hgd fun _ hK => ?_
 obtain ⟨v', w', hrun, h2, h3, h4⟩ := run_appZ o.type base v l m g off c hown hc hl hm hbase
 unfold Oper.wp execOp
 simp only [ho, resolve, invoke, builtin, Sem.run_bind, Sem.run_pure, Result.andThen_ok, List.map_toArray, List.map_cons, List.map_nil, hs, hx, hrun]
 exact hK _ _ (h v' w' h2 h3 h4)
theorem CelZ.one {w : World} {g i : Nat} {t : TypeId} (hg : g = w.heap.size) : CelZ (w.alloc (.cells #[.int .i64 (i : Int)] t)) g 0 [i] := fun j hj => by
 subst hg
 obtain rfl : j = 0 := by simpa using hj
 exact (World.cell?_alloc_at _ _ _ _ rfl).trans rfl
theorem at_one {W : World} {g : Nat} {a : Value} {t : TypeId} (hg : g = W.heap.size) : (W.alloc (.cells #[a] t)).cell? ⟨g, 0, none⟩ = some a := by
 subst hg; exact (World.cell?_alloc_at _ _ _ _ rfl).trans rfl
/-- append of one index from a box made just now -/
theorem wpList_app1 {w : World} {ops : Array Oper} {rest : List Oper} {o : Oper} {a : Act} {Q : Exit → Act → World → Prop} (hgd : o.guard = none) (s x : Operand)
    (ho : o.op = .call { callee := .builtin .append, args := #[s, x], argTypes := #[25, 25] })
    (base : Nat) (v : Value) (l : List Nat) (i : Nat) (g : Nat) (hs : a.eval s = v) (hown : OwnZ w base v l) (hx : a.eval x = .slice (some ⟨g, 0, none⟩) 1 1)
    (hc : w.cell? ⟨g, 0, none⟩ = some (.int .i64 (i : Int))) (hl : l.length ≤ 1000000) (hbase : base ≤ w.heap.size)
    (h : ∀ v' w', OwnZ w' base v' (l ++ [i]) → w.grownBy w' v.ownBlock → (v'.ownBlock = v.ownBlock ∨ v'.ownBlock = some w.heap.size) → wpList Try.prog ops Q rest (a.put o.dst v') w') : wpList Try.prog ops Q (o :: rest) a w :=
  wpList_appZ hgd s x ho base v l [i] g 0 1 hs hown hx (fun j hj => by obtain rfl : j = 0 := by simpa using hj
                                                                       exact hc) hl (by simp) hbase h
/-- a list of indexes in memory -/
structure Zs (w : World) (v : Value) (l : List Nat) : Prop where
 ex : ∃ A c, v = .slice A l.length c ∧ l.length ≤ c ∧ c ≤ 9223372036854775807 ∧ (0 < l.length → ∃ g o, A = some ⟨g, o, none⟩ ∧ g < w.heap.size ∧ CelZ w g o l)
theorem CelZ.below {w w' : World} {g o : Nat} {l : List Nat} (h : CelZ w g o l) (hb : Below w.heap.size w w') : CelZ w' g o l := fun j hj => keep_cell hb (h j hj)
theorem Zs.below {w w' : World} {v : Value} {l : List Nat} (h : Zs w v l) (hb : Below w.heap.size w w') : Zs w' v l := by
 obtain ⟨A, c, e, h1, h2, h3⟩ := h.ex
 refine ⟨A, c, e, h1, h2, fun h0 => ?_⟩
 obtain ⟨g, o, e2, h4, h5⟩ := h3 h0
 exact ⟨g, o, e2, Nat.lt_of_lt_of_le h4 hb.size, h5.below hb⟩
theorem Zs.nil (w : World) : Zs w (.slice none 0 0) [] := ⟨none, 0, rfl, Nat.le_refl _, by omega, fun h => by simp at h⟩
theorem OwnZ.cel {w : World} {base : Nat} {l : List Nat} {g n c : Nat} (h : OwnZ w base (.slice (some ⟨g, 0, none⟩) n c) l) : CelZ w g 0 l := fun j hj => by
 have hc := World.ownsRow.cells h (g := g) rfl j (intV l[j]) (by simp [hj])
 rw [add_plain] at hc
 exact hc
theorem OwnZ.zs {w : World} {base : Nat} {v : Value} {l : List Nat} (h : OwnZ w base v l) : Zs w v l := by
 rcases h.2 with ⟨rfl, h2⟩ | ⟨g, cap, cur, rfl, hg, hh, h1, h2, r⟩
 ·obtain rfl : l = [] := List.eq_nil_of_length_eq_zero h2
  exact Zs.nil w
 ·refine ⟨_, cap, rfl, h1, by unfold maxLen at h2; omega, fun _ => ⟨g, 0, rfl, (Array.getElem?_eq_some_iff.1 hh).1, OwnZ.cel (c := cap) ⟨h.1, h.2⟩⟩⟩
theorem OwnZ.form {w : World} {base : Nat} {v : Value} {l : List Nat} (h : OwnZ w base v l) : ∃ A c, v = .slice A l.length c := by
 obtain ⟨A, c, e, _⟩ := h.zs.ex
 exact ⟨A, c, e⟩
def lenZ : Value → Nat
 | .slice _ n _ => n
 | _ => 0
/-- what grows in an own row keeps what lay below -/
theorem Below.grownZ {B : Nat} {a w w' : World} {base : Nat} {v : Value} {l : List Nat} (hb : Below B a w) (ho : OwnZ w base v l) (hg : w.grownBy w' v.ownBlock) (hB : B ≤ w.heap.size) (hbase : B ≤ base) : Below B a w' :=
 Below.grown hb hg hB fun k e => Nat.le_trans hbase (ho.lt e).1
end Go.Proofs.Ytjdgjhaggpahkaa
