/- Tables: what the sweep keeps, in plain lists and in memory. Conditions: none. -/
import Derived.Test.YtjfgklhifhaaoaaGreatZTm1
import Derived.Test.YtjfgklhifhaaoaaGreatZTs1
set_option linter.unusedVariables false
set_option linter.unusedSimpArgs false
namespace Go.Proofs.YtjfgklhifhaaoaaGreat
open Go.RowKit
/-! plain -/
def abvR (R : Nat → List (Nat × Nat)) (h : Nat) : Nat → List (Nat × Nat)
 | 0 => []
 | y + 1 => rowR R h y
def mapF (R : Nat → List (Nat × Nat)) (h y : Nat) (r : Nat × Nat) : Option Nat := if r ∈ abvR R h y then some (begR R (y - 1) r) else none
def g2F (A H : List (Nat × Nat)) (b : Nat × Nat → Nat) (j : Nat) (r : Nat × Nat) : Option Nat := if r ∈ A.take j ∧ r ∉ H then none else if r ∈ A then some (b r) else none
def g3F (A H : List (Nat × Nat)) (b : Nat × Nat → Nat) (y j : Nat) (r : Nat × Nat) : Option Nat := if r ∈ A ∧ r ∈ H then some (b r) else if r ∈ H.take j then some y else none
def outJ (A H : List (Nat × Nat)) (b : Nat × Nat → Nat) (v : Bool) (y j : Nat) : List Ru := ((A.take j).filter fun r => decide (r ∉ H)).map fun r => mkR v (b r) (y - b r) r
theorem rowR_srt {R : Nat → List (Nat × Nat)} (hR : ∀ y, (R y).Pairwise fun r s => r.1 < s.1) (h y : Nat) : (rowR R h y).Pairwise fun r s => r.1 < s.1 := by
 unfold rowR
 split
 ·exact hR y
 ·exact List.Pairwise.nil
theorem abvR_srt {R : Nat → List (Nat × Nat)} (hR : ∀ y, (R y).Pairwise fun r s => r.1 < s.1) (h : Nat) : ∀ y, (abvR R h y).Pairwise fun r s => r.1 < s.1
 | 0 => List.Pairwise.nil
 | y + 1 => rowR_srt hR h y
theorem not_take {l : List (Nat × Nat)} (hs : l.Pairwise fun r s => r.1 < s.1) {j : Nat} (hj : j < l.length) : l[j] ∉ l.take j := fun h => by
 obtain ⟨i, hi, e⟩ := List.getElem_of_mem h
 rw [List.getElem_take] at e
 have hij : i < j := by rw [List.length_take] at hi; omega
 have := List.pairwise_iff_getElem.1 hs i j (by omega) hj hij
 rw [e] at this
 omega
theorem mem_take_succ {l : List (Nat × Nat)} {j : Nat} (hj : j < l.length) {r : Nat × Nat} : r ∈ l.take (j + 1) ↔ r ∈ l.take j ∨ r = l[j] := by
 rw [List.take_succ_eq_append_getElem hj, List.mem_append, List.mem_singleton]
theorem g2_at {A H : List (Nat × Nat)} {b : Nat × Nat → Nat} (hs : A.Pairwise fun r s => r.1 < s.1) {j : Nat} (hj : j < A.length) : g2F A H b j A[j] = some (b A[j]) := by
 unfold g2F
 rw [if_neg (fun h => not_take hs hj h.1), if_pos (List.getElem_mem hj)]
theorem g2_keep {A H : List (Nat × Nat)} {b : Nat × Nat → Nat} {j : Nat} (hj : j < A.length) (h : A[j] ∈ H) (r : Nat × Nat) : g2F A H b j r = g2F A H b (j + 1) r := by
 unfold g2F
 simp only [mem_take_succ hj]
 by_cases e : r = A[j]
 ·subst e; simp [h]
 ·simp [e]
theorem g2_del {A H : List (Nat × Nat)} {b : Nat × Nat → Nat} {j : Nat} (hj : j < A.length) (h : A[j] ∉ H) (r : Nat × Nat) : updM (g2F A H b j) A[j] none r = g2F A H b (j + 1) r := by
 unfold g2F updM
 simp only [mem_take_succ hj]
 by_cases e : r = A[j]
 ·subst e; simp [h]
 ·simp [e]
theorem g2_zero {A H : List (Nat × Nat)} {b : Nat × Nat → Nat} (r : Nat × Nat) : (if r ∈ A then some (b r) else none) = g2F A H b 0 r := by unfold g2F; simp
theorem g23 {A H : List (Nat × Nat)} {b : Nat × Nat → Nat} {y : Nat} (r : Nat × Nat) : g2F A H b A.length r = g3F A H b y 0 r := by
 unfold g2F g3F
 rw [List.take_length]
 by_cases h1 : r ∈ A <;> by_cases h2 : r ∈ H <;> simp [h1, h2]
theorem g3_old {A H : List (Nat × Nat)} {b : Nat × Nat → Nat} {y j : Nat} (hj : j < H.length) (h : H[j] ∈ A) : g3F A H b y j H[j] = some (b H[j]) := by
 unfold g3F
 rw [if_pos ⟨h, List.getElem_mem hj⟩]
theorem g3_new {A H : List (Nat × Nat)} {b : Nat × Nat → Nat} {y j : Nat} (hs : H.Pairwise fun r s => r.1 < s.1) (hj : j < H.length) (h : H[j] ∉ A) : g3F A H b y j H[j] = none := by
 unfold g3F
 rw [if_neg (fun x => h x.1), if_neg (not_take hs hj)]
theorem g3_keep {A H : List (Nat × Nat)} {b : Nat × Nat → Nat} {y j : Nat} (hj : j < H.length) (h : H[j] ∈ A) (r : Nat × Nat) : g3F A H b y j r = g3F A H b y (j + 1) r := by
 unfold g3F
 simp only [mem_take_succ hj]
 by_cases e : r = H[j]
 ·subst e; simp [h]
 ·simp [e]
theorem g3_put {A H : List (Nat × Nat)} {b : Nat × Nat → Nat} {y j : Nat} (hj : j < H.length) (h : H[j] ∉ A) (r : Nat × Nat) : updM (g3F A H b y j) H[j] (some y) r = g3F A H b y (j + 1) r := by
 unfold g3F updM
 simp only [mem_take_succ hj]
 by_cases e : r = H[j]
 ·subst e; simp [h]
 ·simp [e]
theorem rowR_in {R : Nat → List (Nat × Nat)} {h y : Nat} (hy : y < h) : rowR R h y = R y := if_pos hy
theorem abvR_succ {R : Nat → List (Nat × Nat)} {h y : Nat} : abvR R h (y + 1) = rowR R h y := rfl
theorem begR_succ {R : Nat → List (Nat × Nat)} {y : Nat} {r : Nat × Nat} : begR R (y + 1) r = if r ∈ R y then begR R y r else y + 1 := rfl
theorem g3_end {R : Nat → List (Nat × Nat)} {h y : Nat} (hy : y ≤ h) (r : Nat × Nat) : g3F (abvR R h y) (rowR R h y) (begR R (y - 1)) y (rowR R h y).length r = mapF R h (y + 1) r := by
 unfold g3F mapF
 rw [List.take_length, abvR_succ, Nat.add_sub_cancel]
 match y, hy with
 | 0, _ =>
  have e : abvR R h 0 = [] := rfl
  rw [e]
  by_cases h1 : r ∈ rowR R h 0
  ·simp [h1, begR]
  ·simp [h1]
 | y + 1, hy =>
  rw [abvR_succ, rowR_in (show y < h by omega), begR_succ, Nat.add_sub_cancel]
  by_cases h1 : r ∈ rowR R h (y + 1) <;> by_cases h2 : r ∈ R y <;> simp [h1, h2]
theorem outJ_skip {A H : List (Nat × Nat)} {b : Nat × Nat → Nat} {v : Bool} {y j : Nat} (hj : j < A.length) (h : A[j] ∈ H) : outJ A H b v y (j + 1) = outJ A H b v y j := by
 unfold outJ
 rw [List.take_succ_eq_append_getElem hj, List.filter_append]
 simp [h]
theorem outJ_take {A H : List (Nat × Nat)} {b : Nat × Nat → Nat} {v : Bool} {y j : Nat} (hj : j < A.length) (h : A[j] ∉ H) : outJ A H b v y (j + 1) = outJ A H b v y j ++ [mkR v (b A[j]) (y - b A[j]) A[j]] := by
 unfold outJ
 rw [List.take_succ_eq_append_getElem hj, List.filter_append]
 simp [h]
theorem outJ_len {A H : List (Nat × Nat)} {b : Nat × Nat → Nat} {v : Bool} {y j : Nat} : (outJ A H b v y j).length ≤ A.length := by
 unfold outJ
 rw [List.length_map]
 exact Nat.le_trans (List.length_filter_le _ _) (by rw [List.length_take]; omega)
theorem outJ_all {R : Nat → List (Nat × Nat)} {h y : Nat} {v : Bool} (hy : y ≤ h) : outJ (abvR R h y) (rowR R h y) (begR R (y - 1)) v y (abvR R h y).length = outR R h v y := by
 unfold outJ
 rw [List.take_length]
 match y, hy with
 | 0, _ => rfl
 | y + 1, hy =>
  rw [abvR_succ, rowR_in (show y < h by omega)]
  rfl
/-! in memory -/
structure Sw (w wr : World) (vl va vh : Value) (L : List Ru) (A H : List (Nat × Nat)) (f : Nat × Nat → Option Nat) : Prop where
 l : RuK.Own wr (w.heap.size + 1) vl L
 a : RnK.Own wr (w.heap.size + 1) va A
 h : RnK.Own wr (w.heap.size + 1) vh H
 al : va.ownBlock = none ∨ va.ownBlock ≠ vl.ownBlock
 hl : vh.ownBlock = none ∨ vh.ownBlock ≠ vl.ownBlock
 m : MapR wr w.heap.size f
 b : Below w.heap.size w wr
theorem Sw.below {w wr w' : World} {vl va vh : Value} {L : List Ru} {A H : List (Nat × Nat)} {f : Nat × Nat → Option Nat} (s : Sw w wr vl va vh L A H f) (hb : Below wr.heap.size wr w') : Sw w w' vl va vh L A H f :=
 ⟨s.l.below hb, s.a.below hb, s.h.below hb, s.al, s.hl, s.m.below hb, bel_step s.b hb⟩
theorem own_ne {α : Type} {X : Knd α} {w wr : World} {v : Value} {l : List α} (h : X.Own wr (w.heap.size + 1) v l) : some w.heap.size ≠ v.ownBlock := fun e => by
 have := (h.lt e.symm).1
 omega
theorem own_ne2 {α : Type} {X : Knd α} {w wr : World} {v : Value} {l : List α} (h : X.Own wr (w.heap.size + 1) v l) : v.ownBlock = none ∨ v.ownBlock ≠ some w.heap.size := .inr fun e => own_ne h e.symm
theorem Sw.app {w wr w' : World} {vl va vh vl' : Value} {L L' : List Ru} {A H : List (Nat × Nat)} {f : Nat × Nat → Option Nat} (s : Sw w wr vl va vh L A H f) (hO : RuK.Own w' (w.heap.size + 1) vl' L') (hg : wr.grownBy w' vl.ownBlock) (hat : vl'.ownBlock = vl.ownBlock ∨ vl'.ownBlock = some wr.heap.size) : Sw w w' vl' va vh L' A H f := by
 have far : ∀ {v : Value} {l : List (Nat × Nat)}, RnK.Own wr (w.heap.size + 1) v l → (v.ownBlock = none ∨ v.ownBlock ≠ vl.ownBlock) → (v.ownBlock = none ∨ v.ownBlock ≠ vl'.ownBlock) := fun {v l} h1 h2 => by
  rcases hat with e | e
  ·rw [e]; exact h2
  ·rw [e]
   refine .inr fun e2 => ?_
   have := (h1.lt e2).2
   omega
 exact ⟨hO, s.a.grown hg s.al, s.h.grown hg s.hl, far s.a s.al, far s.h s.hl, s.m.grown hg (own_ne s.l), Knd.grown s.b s.l hg s.b.size (Nat.le_succ _)⟩
theorem Sw.map {w wr w' : World} {vl va vh : Value} {L : List Ru} {A H : List (Nat × Nat)} {f f' : Nat × Nat → Option Nat} (s : Sw w wr vl va vh L A H f) (hM : MapR w' w.heap.size f') (hg : wr.grownBy w' (some w.heap.size)) : Sw w w' vl va vh L A H f' :=
 ⟨s.l.grown hg (own_ne2 s.l), s.a.grown hg (own_ne2 s.a), s.h.grown hg (own_ne2 s.h), s.al, s.hl, hM, Below.grown s.b hg s.b.size (fun k e => by cases e; exact Nat.le_refl _)⟩
theorem Sw.cast {w wr : World} {vl va vh : Value} {L L' : List Ru} {A H : List (Nat × Nat)} {f f' : Nat × Nat → Option Nat} (s : Sw w wr vl va vh L A H f) (e : L = L') (e' : ∀ r, f r = f' r) : Sw w wr vl va vh L' A H f' :=
 ⟨e ▸ s.l, s.a, s.h, s.al, s.hl, s.m.cast e', s.b⟩
end Go.Proofs.YtjfgklhifhaaoaaGreat
