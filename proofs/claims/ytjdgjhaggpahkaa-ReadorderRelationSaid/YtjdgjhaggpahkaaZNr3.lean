/- Reading order: boxes from top to bottom, in plain lists. Conditions: none. -/
import Derived.Test.YtjdgjhaggpahkaaZRs1
set_option linter.unusedVariables false
set_option linter.unusedSimpArgs false
namespace Go.Proofs.Ytjdgjhaggpahkaa
/-- the i-th box is above the k-th -/
def abvB (l : List Bx) (i k : Nat) : Bool := decide ((l.getD i default).y < (l.getD k default).y ∨ ((l.getD i default).y = (l.getD k default).y ∧ ((l.getD i default).x < (l.getD k default).x ∨ ((l.getD i default).x = (l.getD k default).x ∧ i < k))))
/-- the indexes from top to bottom -/
def dwnB (l : List Bx) : List Nat := (List.range l.length).mergeSort fun i k => !abvB l k i
def cfD (l : List Bx) (i k : Nat) : Int := or3 (cmp1 (l.getD i default).y (l.getD k default).y) (cmp1 (l.getD i default).x (l.getD k default).x) (cmp1 (i : Int) (k : Int))
theorem cmp1_cases (a b : Int) : (a < b ∧ cmp1 a b = -1) ∨ (b < a ∧ cmp1 a b = 1) ∨ (a = b ∧ cmp1 a b = 0) := by
 unfold cmp1
 split
 ·exact .inl ⟨by omega, rfl⟩
 ·split
  ·exact .inr (.inl ⟨by omega, rfl⟩)
  ·exact .inr (.inr ⟨by omega, rfl⟩)
theorem cfD_lt (l : List Bx) (i k : Nat) : decide (cfD l i k < 0) = abvB l i k := by
 unfold cfD abvB or3
 generalize l.getD i default = a
 generalize l.getD k default = b
 rcases cmp1_cases a.y b.y with ⟨h1, e1⟩ | ⟨h1, e1⟩ | ⟨h1, e1⟩ <;> rcases cmp1_cases a.x b.x with ⟨h2, e2⟩ | ⟨h2, e2⟩ | ⟨h2, e2⟩ <;> rcases cmp1_cases (i : Int) (k : Int) with ⟨h3, e3⟩ | ⟨h3, e3⟩ | ⟨h3, e3⟩ <;>
  ·rw [e1, e2, e3, decide_eq_decide]
   constructor <;> intro h <;> simp at h ⊢ <;> omega
theorem abv_irr (l : List Bx) (i : Nat) : abvB l i i = false := by unfold abvB; simp
theorem abv_trans (l : List Bx) {i j k : Nat} (h1 : abvB l i j = true) (h2 : abvB l j k = true) : abvB l i k = true := by
 unfold abvB at *
 rw [decide_eq_true_eq] at *
 omega
theorem abv_tot (l : List Bx) {i j : Nat} (h1 : abvB l i j = false) (h2 : abvB l j i = false) : i = j := by
 unfold abvB at *
 rw [decide_eq_false_iff_not] at *
 omega
theorem abv_asym (l : List Bx) {i j : Nat} (h1 : abvB l i j = true) : abvB l j i = false := by
 cases h : abvB l j i
 ·rfl
 ·have := abv_trans l h1 h
  rw [abv_irr] at this; cases this
theorem dwnB_perm (l : List Bx) : (dwnB l).Perm (List.range l.length) := List.mergeSort_perm _ _
theorem dwnB_len (l : List Bx) : (dwnB l).length = l.length := by rw [(dwnB_perm l).length_eq]; simp
theorem dwnB_lt {l : List Bx} {i : Nat} : i ∈ dwnB l ↔ i < l.length := by rw [(dwnB_perm l).mem_iff, List.mem_range]
theorem dwnB_sorted (l : List Bx) : (dwnB l).Pairwise fun i k => abvB l k i = false := by
 have h := List.pairwise_mergeSort (le := fun i k => !abvB l k i) (fun a b c h1 h2 => by
  simp only [Bool.not_eq_true'] at *
  cases h3 : abvB l c a
  ·rfl
  ·rcases h4 : abvB l a b with _ | _
   ·have := abv_tot l h1 h4; subst this; rw [h2] at h3; cases h3
   ·have := abv_trans l h3 h4; rw [h2] at this; cases this) (fun a b => by
  cases h : abvB l b a
  ·simp
  ·simp [abv_asym l h]) (List.range l.length)
 exact h.imp fun h => by simpa using h
/-- a list sorted so is told by its members -/
theorem abv_unique (l : List Bx) {a b : List Nat} (hp : a.Perm b) (ha : a.Pairwise fun i k => abvB l k i = false) (hb : b.Pairwise fun i k => abvB l k i = false) : a = b :=
 hp.eq_of_pairwise (fun x y _ _ h1 h2 => abv_tot l h2 h1) ha hb
end Go.Proofs.Ytjdgjhaggpahkaa
