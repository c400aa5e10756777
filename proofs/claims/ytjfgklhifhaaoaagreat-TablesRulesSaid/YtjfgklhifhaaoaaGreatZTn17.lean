/- Tables in plain lists: ruling lines as the reference finds them. Conditions: none. -/
import Derived.Test.YtjfgklhifhaaoaaGreatZPA
set_option linter.unusedVariables false
set_option linter.unusedSimpArgs false
namespace Go.Proofs.YtjfgklhifhaaoaaGreat
/-- the pixels from a to b - 1 are a maximal run -/
def runB (p : Nat → Bool) (w a b : Nat) : Bool := (List.range' a (b - a)).all p && (a == 0 || !p (a - 1)) && (b == w || !p b)
theorem runB_mem {p : Nat → Bool} {w k a b : Nat} (hk : 1 ≤ k) (hab : k ≤ b - a) (hb : b ≤ w) : runB p w a b = decide ((a, b) ∈ runL p w k) := by
 rw [Bool.eq_iff_iff, decide_eq_true_iff, mem_runL]
 unfold runB
 simp only [Bool.and_eq_true, List.all_eq_true, List.mem_range'_1, Bool.or_eq_true, beq_iff_eq, Bool.not_eq_true']
 constructor
 ·rintro ⟨⟨h1, h2⟩, h3⟩
  refine ⟨by omega, h1 a (by omega), h2, ?_, hab⟩
  exact (endR_uni (by omega) (by omega) (fun x g1 g2 => h1 x (by omega)) (fun g => by
   rcases h3 with h3 | h3
   ·omega
   ·exact h3)).symm
 ·rintro ⟨h1, h2, h3, h4, _⟩
  refine ⟨⟨fun x hx => endR_in p (w - a) a x (by omega) (by rw [← h4]; omega), h3⟩, ?_⟩
  by_cases e : b = w
  ·exact .inl e
  ·right
   rw [h4]
   exact endR_out p (w - a) a (by rw [← h4]; omega)
/-- one round of the reference's loop over the pixels -/
theorem runX_stepR {p : Nat → Bool} {w k a b : Nat} (hk : 1 ≤ k) (ha : a < w) (h0 : a = 0 ∨ p (a - 1) = false ∨ p a = false) (hb : b = endR p a (w - a)) :
  runX p w k (max b (a + 1)) = runX p w k a ++ (if k ≤ b - a then [(a, b)] else []) := by
 obtain ⟨g1, g2⟩ := endR_ge p (w - a) a
 have g4 := endR_out p (w - a) a
 rw [← hb] at g1 g2 g4
 by_cases e : p a = true
 ·have h0' : a = 0 ∨ p (a - 1) = false := by
   rcases h0 with h | h | h
   ·exact .inl h
   ·exact .inr h
   ·rw [e] at h; cases h
  rw [← runX_step hk ha h0' hb]
  have hab : a < b := by
   rcases Nat.lt_or_ge a b with h | h
   ·exact h
   ·have h5 : b = a := by omega
    have := g4 (by omega)
    rw [h5, e] at this; cases this
  rw [show max b (a + 1) = b by omega, runX_succ]
  by_cases hbw : b < w
  ·rw [g4 (by omega)]; simp
  ·rw [show w - b = 0 by omega]
   simp [endR]; omega
 ·have e' : p a = false := by simpa using e
  have hab : b = a := by
   rcases Nat.lt_or_ge a b with h | h
   ·have := endR_in p (w - a) a a (Nat.le_refl _) (by rw [← hb]; exact h)
    rw [e'] at this; cases this
   ·omega
  rw [hab, show max a (a + 1) = a + 1 by omega, runX_succ, e', Nat.sub_self]
  simp; omega
theorem runX_nextR {p : Nat → Bool} {w a b : Nat} (ha : a < w) (hb : b = endR p a (w - a)) : w ≤ max b (a + 1) ∨ p (max b (a + 1) - 1) = false ∨ p (max b (a + 1)) = false := by
 obtain ⟨g1, g2⟩ := endR_ge p (w - a) a
 have g4 := endR_out p (w - a) a
 rw [← hb] at g1 g2 g4
 by_cases h : b = a
 ·right; left
  rw [h, show max a (a + 1) - 1 = a by omega, ← h]
  rw [h] at g4 ⊢
  exact g4 (by omega)
 ·by_cases hw : b = w
  ·left; omega
  ·right; right
   rw [show max b (a + 1) = b by omega]
   exact g4 (by omega)
/-- the lines of row k that begin with these runs -/
def rowX (R : Nat → List (Nat × Nat)) (h : Nat) (v : Bool) (k : Nat) (L : List (Nat × Nat)) : List Ru :=
 (L.filter fun r => decide (k = 0 ∨ r ∉ R (k - 1))).map fun r => mkR v k (endR (fun y => decide (r ∈ R y)) k (h - k) - k) r
theorem rowX_app (R : Nat → List (Nat × Nat)) (h : Nat) (v : Bool) (k : Nat) (L M : List (Nat × Nat)) : rowX R h v k (L ++ M) = rowX R h v k L ++ rowX R h v k M := by
 simp [rowX]
theorem rowX_nil (R : Nat → List (Nat × Nat)) (h : Nat) (v : Bool) (k : Nat) : rowX R h v k [] = [] := rfl
theorem rowX_one {R : Nat → List (Nat × Nat)} {h : Nat} {v : Bool} {k t : Nat} {r : Nat × Nat} (h0 : k = 0 ∨ r ∉ R (k - 1)) (hk : k < h) (hth : k + t ≤ h) (h2 : ∀ y, k ≤ y → y < k + t → r ∈ R y) (h3 : k + t < h → r ∉ R (k + t)) : rowX R h v k [r] = [mkR v k t r] := by
 unfold rowX
 rw [List.filter_cons, if_pos (by simpa using h0)]
 simp only [List.filter_nil, List.map_cons, List.map_nil]
 have e : endR (fun y => decide (r ∈ R y)) k (h - k) = k + t := endR_uni (by omega) (by omega) (fun y g1 g2 => decide_eq_true (h2 y g1 g2)) (fun g => decide_eq_false (h3 (by omega)))
 rw [e]
 congr 2
 omega
theorem rowX_not {R : Nat → List (Nat × Nat)} {h : Nat} {v : Bool} {k : Nat} {r : Nat × Nat} (h0 : ¬ (k = 0 ∨ r ∉ R (k - 1))) : rowX R h v k [r] = [] := by
 unfold rowX
 rw [List.filter_cons, if_neg (by simpa using h0)]; rfl
/-- the lines of the first rows -/
def linK (R : Nat → List (Nat × Nat)) (h : Nat) (v : Bool) (i : Nat) : List Ru := (List.range i).flatMap fun k => rowX R h v k (R k)
theorem linK_succ (R : Nat → List (Nat × Nat)) (h : Nat) (v : Bool) (i : Nat) : linK R h v (i + 1) = linK R h v i ++ rowX R h v i (R i) := by
 unfold linK
 rw [List.range_succ, List.flatMap_append]; simp
theorem linK_all (R : Nat → List (Nat × Nat)) (h : Nat) (v : Bool) : linK R h v h = linR R h v := rfl
end Go.Proofs.YtjfgklhifhaaoaaGreat
