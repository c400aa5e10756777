/- Reading order: inserting from top to bottom, in plain lists. Conditions: none. -/
import Derived.Test.YtjdgjhaggpahkaaZRx1
set_option linter.unusedVariables false
set_option linter.unusedSimpArgs false
namespace Go.Proofs.Ytjdgjhaggpahkaa
theorem insB_perm (l : List Bx) (s : List Nat) (i : Nat) : (insB l s i).Perm (i :: s) := by
 unfold insB
 refine List.perm_middle.trans ?_
 rw [List.takeWhile_append_dropWhile]
theorem abv_no (l : List Bx) {a b c : Nat} (h1 : abvB l b c = false) (h2 : abvB l a b = false) : abvB l a c = false := by
 cases h : abvB l a c
 ·rfl
 ·cases h3 : abvB l c b
  ·have := abv_tot l h1 h3
   subst this
   rw [h] at h2; cases h2
  ·have := abv_trans l h h3
   rw [h2] at this; cases this
theorem tw_mem {p : Nat → Bool} : ∀ (s : List Nat) {a : Nat}, a ∈ s.takeWhile p → p a = true
 | x :: s, a, h => by
  rw [List.takeWhile_cons] at h
  by_cases hx : p x = true
  ·rw [if_pos hx] at h
   rcases List.mem_cons.1 h with e | e
   ·subst e; exact hx
   ·exact tw_mem s e
  ·rw [if_neg hx] at h; cases h
theorem insB_sorted (l : List Bx) {s : List Nat} (i : Nat) (h : s.Pairwise fun a b => abvB l b a = false) : (insB l s i).Pairwise fun a b => abvB l b a = false := by
 unfold insB
 have hd : ∀ b ∈ s.dropWhile (fun a => abvB l a i), abvB l b i = false := by
  have hsub : (s.dropWhile fun a => abvB l a i).Pairwise fun a b => abvB l b a = false := h.sublist (List.dropWhile_sublist _)
  have hh : ∀ x, (s.dropWhile fun a => abvB l a i).head? = some x → abvB l x i = false := fun x hx => by
   have := List.head?_dropWhile_not (fun a => abvB l a i) s
   rw [hx] at this
   simpa using this
  generalize s.dropWhile (fun a => abvB l a i) = t at *
  intro b hb
  cases t with
  | nil => cases hb
  | cons x t =>
   have hx := hh x rfl
   rcases List.mem_cons.1 hb with e | e
   ·subst e; exact hx
   ·exact abv_no l hx ((List.pairwise_cons.1 hsub).1 b e)
 have ht : ∀ a ∈ s.takeWhile (fun a => abvB l a i), abvB l a i = true := fun a ha => tw_mem (p := fun a => abvB l a i) s ha
 rw [List.pairwise_append]
 refine ⟨h.sublist (List.takeWhile_sublist _), ?_, fun a ha b hb => ?_⟩
 ·rw [List.pairwise_cons]
  exact ⟨hd, h.sublist (List.dropWhile_sublist _)⟩
 ·rcases List.mem_cons.1 hb with e | e
  ·subst e; exact abv_asym l (ht a ha)
  ·cases hq : abvB l b a
   ·rfl
   ·have := abv_trans l hq (ht a ha)
    rw [hd b e] at this; cases this
def insAll (l : List Bx) (L : List Nat) : List Nat := L.foldl (insB l) []
theorem insAll_snoc (l : List Bx) (L : List Nat) (i : Nat) : insAll l (L ++ [i]) = insB l (insAll l L) i := by unfold insAll; rw [List.foldl_append]; rfl
theorem insAll_ok (l : List Bx) : ∀ (L s : List Nat), s.Pairwise (fun a b => abvB l b a = false) → (L.foldl (insB l) s).Perm (L ++ s) ∧ (L.foldl (insB l) s).Pairwise fun a b => abvB l b a = false
 | [], s, h => ⟨List.Perm.refl _, h⟩
 | i :: L, s, h => by
  obtain ⟨h1, h2⟩ := insAll_ok l L (insB l s i) (insB_sorted l i h)
  refine ⟨h1.trans ?_, h2⟩
  refine ((insB_perm l s i).append_left L).trans ?_
  exact List.perm_middle
theorem insAll_perm (l : List Bx) (L : List Nat) : (insAll l L).Perm L := by have := (insAll_ok l L [] List.Pairwise.nil).1; rwa [List.append_nil] at this
theorem insAll_sorted (l : List Bx) (L : List Nat) : (insAll l L).Pairwise fun a b => abvB l b a = false := (insAll_ok l L [] List.Pairwise.nil).2
theorem insAll_len (l : List Bx) (L : List Nat) : (insAll l L).length = L.length := (insAll_perm l L).length_eq
theorem insAll_all (l : List Bx) : insAll l (List.range l.length) = dwnB l := abv_unique l ((insAll_perm l _).trans (dwnB_perm l).symm) (insAll_sorted l _) (dwnB_sorted l)
end Go.Proofs.Ytjdgjhaggpahkaa
