/- The simplest fraction is minimal: what the law says. Conditions: none. -/
import Derived.Test.YtfhbigfbeppinaaGreatDoorZNtT
set_option linter.unusedVariables false
set_option linter.unusedSimpArgs false
namespace Go.Proofs.YtfhbigfbeppinaaGreatDoor
open Go.RowKit Big

/-- p/q lies between f and g -/
def btw (f g : Int × Nat) (p : Int) (q : Nat) : Prop := f.1 * q ≤ p * f.2 ∧ p * g.2 ≤ g.1 * q
structure MinF (f g x : Int × Nat) : Prop where
  nf : Nf x
  lo : cmpF f x ≤ 0
  hi : cmpF x g ≤ 0
  d : x.2 ≤ max f.2 g.2
  n : x.1.natAbs ≤ max f.1.natAbs g.1.natAbs
  min : ∀ (p : Int) (q : Nat), 0 < q → btw f g p q → x.2 ≤ q ∧ x.1.natAbs ≤ p.natAbs
theorem zord_le {x y : Int} (h : x ≤ y) : zord x y ≤ 0 := by unfold zord; split <;> (try split) <;> omega
theorem abs_cast {z : Int} (h : 0 ≤ z) (k : Nat) : z * (k : Int) = ((z.natAbs * k : Nat) : Int) := by rw [Int.natCast_mul]; congr 1; omega
theorem abs_castn {z : Int} (h : z ≤ 0) (k : Nat) : z * (k : Int) = -((z.natAbs * k : Nat) : Int) := by
  rw [Int.natCast_mul, ← Int.neg_mul]; congr 1; omega
theorem sim_min {f g : Int × Nat} (hf : Nf f) (hg : Nf g) (h : ¬ 0 < cmpF f g) : ∃ x, simE f g = (x, 0) ∧ MinF f g x := by
  have hfd := hf.1
  have hgd := hg.1
  by_cases hg0 : g.1 < 0
  · obtain ⟨hf0, hle⟩ := cmp_negs h hg0 hfd hgd
    obtain ⟨h1, h2, h3, h4, h5⟩ := simpl_spec _ g.1.natAbs g.2 f.1.natAbs f.2 (Nat.le_refl _) hgd hfd hle
    obtain ⟨l1, l2⟩ := h5 g.1.natAbs g.2 hgd ⟨Nat.le_refl _, hle⟩
    refine ⟨_, by unfold simE; rw [if_neg h, if_pos hg0], ?_⟩
    generalize simpl g.1.natAbs g.2 f.1.natAbs f.2 = X at *
    obtain ⟨a, b⟩ := X
    simp only at *
    refine ⟨⟨h2, by rw [Int.natAbs_neg, Int.natAbs_natCast]; exact h3⟩, ?_, ?_, by simp only; omega, by simp only [Int.natAbs_neg, Int.natAbs_natCast]; omega, ?_⟩
    · refine zord_le ?_
      simp only
      rw [abs_castn (by omega), Int.neg_mul, ← Int.natCast_mul]
      have := h1.2
      omega
    · refine zord_le ?_
      simp only
      rw [abs_castn (z := g.1) (by omega), Int.neg_mul, ← Int.natCast_mul]
      have := h1.1
      omega
    · intro p q hq hb
      obtain ⟨b1, b2⟩ := hb
      have hp : p < 0 := by
        rcases (show p < 0 ∨ 0 ≤ p by omega) with h6 | h6
        · exact h6
        · have e1 := Int.mul_nonneg h6 (show (0 : Int) ≤ (g.2 : Int) by omega)
          have e2 := Int.mul_neg_of_neg_of_pos hg0 (show (0 : Int) < (q : Int) by omega)
          omega
      rw [abs_castn (z := f.1) (by omega), abs_castn (z := p) (by omega)] at b1
      rw [abs_castn (z := g.1) (by omega), abs_castn (z := p) (by omega)] at b2
      obtain ⟨c1, c2⟩ := h5 p.natAbs q hq ⟨by omega, by omega⟩
      simp only [Int.natAbs_neg, Int.natAbs_natCast]
      exact ⟨c2, c1⟩
  · by_cases hf0 : f.1 ≤ 0
    · refine ⟨(0, 1), by unfold simE; rw [if_neg h, if_neg hg0, if_pos hf0], ⟨by decide, by decide⟩, ?_, ?_, by simp only; omega, by simp, ?_⟩
      · refine zord_le ?_
        simp only
        omega
      · refine zord_le ?_
        simp only
        omega
      · intro p q hq _
        exact ⟨hq, by simp⟩
    · have hle := cmp_poss h (by omega) (by omega)
      obtain ⟨h1, h2, h3, h4, h5⟩ := simpl_spec _ f.1.natAbs f.2 g.1.natAbs g.2 (Nat.le_refl _) hfd hgd hle
      obtain ⟨l1, l2⟩ := h5 f.1.natAbs f.2 hfd ⟨Nat.le_refl _, hle⟩
      refine ⟨_, by unfold simE; rw [if_neg h, if_neg hg0, if_neg hf0], ?_⟩
      generalize simpl f.1.natAbs f.2 g.1.natAbs g.2 = X at *
      obtain ⟨a, b⟩ := X
      simp only at *
      refine ⟨⟨h2, by rw [Int.natAbs_natCast]; exact h3⟩, ?_, ?_, by simp only; omega, by simp only [Int.natAbs_natCast]; omega, ?_⟩
      · refine zord_le ?_
        simp only
        rw [abs_cast (by omega), ← Int.natCast_mul]
        have := h1.1
        omega
      · refine zord_le ?_
        simp only
        rw [abs_cast (z := g.1) (by omega), ← Int.natCast_mul]
        have := h1.2
        omega
      · intro p q hq hb
        obtain ⟨b1, b2⟩ := hb
        have hp : 0 ≤ p := by
          rcases (show p < 0 ∨ 0 ≤ p by omega) with h6 | h6
          · have e1 := Int.mul_neg_of_neg_of_pos h6 (show (0 : Int) < (f.2 : Int) by omega)
            have e2 := Int.mul_nonneg (show (0 : Int) ≤ f.1 by omega) (show (0 : Int) ≤ (q : Int) by omega)
            omega
          · exact h6
        rw [abs_cast (z := f.1) (by omega), abs_cast (z := p) (by omega)] at b1
        rw [abs_cast (z := g.1) (by omega), abs_cast (z := p) (by omega)] at b2
        obtain ⟨c1, c2⟩ := h5 p.natAbs q hq ⟨by omega, by omega⟩
        simp only [Int.natAbs_natCast]
        exact ⟨c2, c1⟩
theorem sim_no {f g : Int × Nat} (h : 0 < cmpF f g) : simE f g = ((0, 0), 3) := by unfold simE; rw [if_pos h]
theorem flr_low {n : Int} {d : Nat} (hd : 0 < d) : flrF (low n d) = n / (d : Int) := by
  obtain ⟨h1, h2⟩ := low_mul (n := n) (d := d)
  have hg := gcd_pos' (n := n) hd
  unfold flrF
  generalize (low n d).1 = p at *
  generalize (low n d).2 = q at *
  generalize Nat.gcd n.natAbs d = k at *
  rw [← h1, ← h2, Int.natCast_mul, Int.mul_ediv_mul_of_pos_left _ _ (by omega)]
/-- no fraction with a smaller denominator lies between -/
theorem inside_no {f g x : Int × Nat} (hf : Nf f) (hg : Nf g) (h : MinF f g x) {d : Nat} (h1 : 0 < d) (h2 : d < x.2) : 0 < cmpF (fmul f ((d : Int), 1)) (flrF (fmul g ((d : Int), 1)), 1) := by
  have e1 : fmul f ((d : Int), 1) = low (f.1 * d) (f.2 * 1) := rfl
  have e2 : fmul g ((d : Int), 1) = low (g.1 * d) (g.2 * 1) := rfl
  have hfd := hf.1
  have hgd := hg.1
  rw [e1, e2, flr_low (by omega), (cmp_low (by omega)).1, Nat.mul_one, Nat.mul_one]
  simp only
  obtain ⟨b1, b2⟩ := flr_bounds (n := g.1 * d) hgd
  generalize g.1 * (d : Int) / (g.2 : Int) = t at *
  rw [Int.natCast_one, Int.mul_one]
  have : ¬ f.1 * (d : Int) ≤ t * f.2 := fun hle => by
    have := (h.min t d h1 ⟨hle, b1⟩).1
    omega
  unfold zord
  rw [if_neg (by omega), if_pos (by omega)]
  omega
/-- no numerator of a smaller absolute value -/
theorem nearer_no {f g x : Int × Nat} (h : MinF f g x) {s : Int} (hs : (x.1 + s).natAbs < x.1.natAbs) : fadd x (s, x.2) = low (x.1 + s) x.2 ∧ (0 < cmpF f (low (x.1 + s) x.2) ∨ 0 < cmpF (low (x.1 + s) x.2) g) := by
  have hd := h.nf.1
  refine ⟨low_eq (Nat.mul_pos hd hd) hd ?_, ?_⟩
  · simp only [Int.natCast_mul]
    rw [← Int.add_mul, Int.mul_assoc]
  · rw [(cmp_low hd).1, (cmp_low hd).2]
    by_cases h1 : f.1 * (x.2 : Int) ≤ (x.1 + s) * f.2
    · right
      by_cases h2 : (x.1 + s) * (g.2 : Int) ≤ g.1 * x.2
      · have := (h.min (x.1 + s) x.2 hd ⟨h1, h2⟩).2
        omega
      · unfold zord
        rw [if_neg (by omega), if_pos (by omega)]
        omega
    · left
      unfold zord
      rw [if_neg (by omega), if_pos (by omega)]
      omega
theorem div_unit (s : Int) (hs : s.natAbs = 1) {d : Nat} (hd : 0 < d) : fdiv (s, 1) ((d : Int), 1) = (s, d) ∧ Nf (s, d) := by
  have hn : Nf (s, d) := ⟨hd, by simp only; rw [hs, Nat.gcd_one_left]⟩
  refine ⟨?_, hn⟩
  unfold fdiv
  simp only
  rw [if_neg (by omega), Int.natAbs_natCast, Nat.one_mul, Int.natCast_one, Int.mul_one]
  exact low_self hn
end Go.Proofs.YtfhbigfbeppinaaGreatDoor
