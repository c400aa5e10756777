/- The order of fractions, floor and rounding: what the laws say of them. Conditions: none. -/
import Derived.Test.YtfhbigfbeppinaaGreatDoorZNtS
set_option linter.unusedVariables false
set_option linter.unusedSimpArgs false
namespace Go.Proofs.YtfhbigfbeppinaaGreatDoor
open Go.RowKit Big

theorem zord_cases (x y : Int) : (x < y ∧ zord x y = -1) ∨ (x = y ∧ zord x y = 0) ∨ (y < x ∧ zord x y = 1) := by
  unfold zord
  split
  · exact .inl ⟨by omega, rfl⟩
  · split
    · exact .inr (.inr ⟨by omega, rfl⟩)
    · exact .inr (.inl ⟨by omega, rfl⟩)
theorem cmp_cases {f g : Int × Nat} (hf : Nf f) (hg : Nf g) : (flt f g ∧ cmpF f g = -1 ∧ cmpF g f = 1) ∨ (f = g ∧ cmpF f g = 0 ∧ cmpF g f = 0) ∨ (flt g f ∧ cmpF f g = 1 ∧ cmpF g f = -1) := by
  unfold cmpF
  rcases zord_cases (f.1 * g.2) (g.1 * f.2) with ⟨h, e⟩ | ⟨h, e⟩ | ⟨h, e⟩ <;> rcases zord_cases (g.1 * f.2) (f.1 * g.2) with ⟨h', e'⟩ | ⟨h', e'⟩ | ⟨h', e'⟩ <;> first | omega | skip
  · exact .inl ⟨h, e, e'⟩
  · exact .inr (.inl ⟨(feq_iff hf hg).2 h, e, e'⟩)
  · exact .inr (.inr ⟨h, e, e'⟩)
theorem cmp_of_lt {f g : Int × Nat} (h : flt f g) : cmpF f g = -1 := by
  unfold cmpF zord; unfold flt at h; rw [if_pos h]
theorem cmp_self (f : Int × Nat) : cmpF f f = 0 := by unfold cmpF zord; simp
theorem cmp_gt {f g : Int × Nat} (h : flt g f) : cmpF f g = 1 := by
  unfold cmpF zord; unfold flt at h; rw [if_neg (by omega), if_pos h]
theorem low_sign {n : Int} {d : Nat} (hd : 0 < d) : ((low n d).1 < 0 ↔ n < 0) ∧ ((low n d).1 = 0 ↔ n = 0) := by
  have h1 := (low_mul (n := n) (d := d)).1
  have h2 := gcd_pos' (n := n) hd
  generalize (low n d).1 = p at *
  generalize Nat.gcd n.natAbs d = k at *
  have h3 : (0 : Int) < (k : Int) := by omega
  refine ⟨⟨fun h => ?_, fun h => ?_⟩, ⟨fun h => ?_, fun h => ?_⟩⟩
  · rw [← h1]; exact Int.mul_neg_of_neg_of_pos h h3
  · rcases (show p < 0 ∨ 0 ≤ p by omega) with h4 | h4
    · exact h4
    · have := Int.mul_nonneg h4 (Int.le_of_lt h3); omega
  · rw [← h1, h, Int.zero_mul]
  · rw [← h1] at h
    rcases Int.mul_eq_zero.1 h with h4 | h4
    · exact h4
    · omega
theorem fsub_sign {f g : Int × Nat} (hf : Nf f) (hg : Nf g) : ((fsub f g).1 < 0 ↔ flt f g) ∧ ((fsub f g).1 = 0 ↔ f = g) := by
  have h := low_sign (n := f.1 * g.2 - g.1 * f.2) (d := f.2 * g.2) (Nat.mul_pos hf.1 hg.1)
  unfold fsub
  refine ⟨h.1.trans ?_, h.2.trans ?_⟩
  · unfold flt; omega
  · rw [feq_iff hf hg]; omega
/-- what the law of order asks: z, z2, zm are Cmp of f and g, of g and f, of both moved; d is the difference; t says that both are the same -/
theorem order_facts {f g h : Int × Nat} (hf : Nf f) (hg : Nf g) (hh : Nf h) :
    (cmpF f g = 1 ∧ cmpF g f = -1 ∧ cmpF (fadd f h) (fadd g h) = 1 ∧ ¬ (fsub f g).1 < 0 ∧ (fsub f g).1 ≠ 0 ∧ f ≠ g) ∨
    (cmpF f g = -1 ∧ cmpF g f = 1 ∧ cmpF (fadd f h) (fadd g h) = -1 ∧ (fsub f g).1 < 0 ∧ (fsub f g).1 ≠ 0 ∧ f ≠ g ∧ (cmpF g h = 1 ∨ (cmpF g h ≤ 0 ∧ cmpF f h = -1))) ∨
    (cmpF f g = 0 ∧ cmpF g f = 0 ∧ cmpF (fadd f h) (fadd g h) = 0 ∧ ¬ (fsub f g).1 < 0 ∧ (fsub f g).1 = 0 ∧ f = g ∧ (cmpF g h = 1 ∨ (cmpF g h = -1 ∧ cmpF f h = -1) ∨ (cmpF g h = 0 ∧ cmpF f h = 0))) := by
  obtain ⟨s1, s2⟩ := fsub_sign hf hg
  have irr : ∀ {a : Int × Nat}, ¬ flt a a := fun h => by unfold flt at h; omega
  rcases cmp_cases hf hg with ⟨h1, e1, e2⟩ | ⟨h1, e1, e2⟩ | ⟨h1, e1, e2⟩
  · refine .inr (.inl ⟨e1, e2, cmp_of_lt ((flt_add hf hg hh).2 h1), s1.2 h1, fun h0 => ?_, fun e => ?_, ?_⟩)
    · have := s1.2 h1; omega
    · subst e; exact irr h1
    · rcases cmp_cases hg hh with ⟨h3, e3, _⟩ | ⟨h3, e3, _⟩ | ⟨h3, e3, _⟩
      · exact .inr ⟨by omega, cmp_of_lt (flt_trans hf hg hh h1 h3)⟩
      · exact .inr ⟨by omega, by subst h3; exact e1⟩
      · exact .inl e3
  · subst h1
    refine .inr (.inr ⟨e1, e2, cmp_self _, fun h0 => irr (s1.1 h0), s2.2 rfl, rfl, ?_⟩)
    rcases cmp_cases hg hh with ⟨h3, e3, _⟩ | ⟨h3, e3, _⟩ | ⟨h3, e3, _⟩
    · exact .inr (.inl ⟨e3, e3⟩)
    · exact .inr (.inr ⟨e3, e3⟩)
    · exact .inl e3
  · refine .inl ⟨e1, e2, cmp_gt ((flt_add hg hf hh).2 h1), fun h0 => ?_, fun h0 => ?_, fun e => ?_⟩
    · have h2 := s1.1 h0
      unfold flt at h1 h2
      omega
    · have h2 := s2.1 h0
      subst h2; exact irr h1
    · subst e; exact irr h1
theorem cmp_low {n : Int} {d : Nat} {x : Int × Nat} (hd : 0 < d) : cmpF (low n d) x = zord (n * x.2) (x.1 * d) ∧ cmpF x (low n d) = zord (x.1 * d) (n * x.2) := by
  have h1 := low_cross (n := n) (d := d) hd
  have h2 := (low_nf (n := n) (d := d) hd).1
  unfold cmpF
  generalize (low n d).1 = p at *
  generalize (low n d).2 = q at *
  have e1 : p * x.2 * d = n * x.2 * q := by
    have : p * x.2 * d = p * d * x.2 := by ac_rfl
    rw [this, h1]; ac_rfl
  have e2 : x.1 * q * d = x.1 * d * q := by ac_rfl
  have hq : (0 : Int) < (q : Int) := by omega
  have hd' : (0 : Int) < (d : Int) := by omega
  have key : (p * x.2 < x.1 * q ↔ n * x.2 < x.1 * d) ∧ (x.1 * q < p * x.2 ↔ x.1 * d < n * x.2) := by
    generalize p * (x.2 : Int) = a at *
    generalize x.1 * (q : Int) = b at *
    generalize n * (x.2 : Int) = c at *
    generalize x.1 * (d : Int) = e at *
    constructor
    · constructor
      · intro h
        have h3 := Int.mul_lt_mul_of_pos_right h hd'
        rw [e1, e2] at h3
        exact Int.lt_of_mul_lt_mul_right h3 (by omega)
      · intro h
        have h3 := Int.mul_lt_mul_of_pos_right h hq
        rw [← e1, ← e2] at h3
        exact Int.lt_of_mul_lt_mul_right h3 (by omega)
    · constructor
      · intro h
        have h3 := Int.mul_lt_mul_of_pos_right h hd'
        rw [e1, e2] at h3
        exact Int.lt_of_mul_lt_mul_right h3 (by omega)
      · intro h
        have h3 := Int.mul_lt_mul_of_pos_right h hq
        rw [← e1, ← e2] at h3
        exact Int.lt_of_mul_lt_mul_right h3 (by omega)
  unfold zord
  refine ⟨?_, ?_⟩ <;> simp only [key.1, key.2]
theorem flr_bounds {n : Int} {d : Nat} (hd : 0 < d) : n / (d : Int) * d ≤ n ∧ n < (n / (d : Int) + 1) * d := by
  have h1 := Int.mul_ediv_add_emod n d
  have h2 := Int.emod_nonneg n (show (d : Int) ≠ 0 by omega)
  have h3 := Int.emod_lt_of_pos n (show (0 : Int) < d by omega)
  rw [Int.add_mul, Int.one_mul, Int.mul_comm]
  omega
/-- what the law of the nearest integers asks -/
theorem near_facts {x : Int × Nat} (hx : Nf x) :
    cmpF (flrF x, 1) x ≤ 0 ∧ cmpF x (fadd (flrF x, 1) (1, 1)) < 0 ∧ cmpF (fsub (rndF x, 1) (1, 2)) x ≤ 0 ∧ cmpF x (fadd (rndF x, 1) (1, 2)) < 0 := by
  have hd := hx.1
  obtain ⟨a1, a2⟩ := flr_bounds (n := x.1) hd
  obtain ⟨b1, b2⟩ := flr_bounds (n := 2 * x.1 + x.2) (d := 2 * x.2) (by omega)
  have e1 : ((2 * x.2 : Nat) : Int) = 2 * (x.2 : Int) := by push_cast; rfl
  rw [e1] at b1 b2
  have hr : rndF x = (2 * x.1 + x.2) / (2 * (x.2 : Int)) := rfl
  rw [← hr] at b1 b2
  have hf : flrF x = x.1 / (x.2 : Int) := rfl
  rw [← hf] at a1 a2
  generalize rndF x = r at *
  generalize flrF x = q at *
  have m1 : (r : Int) * (2 * (x.2 : Int)) = 2 * (r * x.2) := by ac_rfl
  have m2 : (r + 1 : Int) * (2 * (x.2 : Int)) = 2 * (r * x.2) + 2 * x.2 := by rw [Int.add_mul, m1]; omega
  rw [m1] at b1
  rw [m2] at b2
  refine ⟨?_, ?_, ?_, ?_⟩
  · unfold cmpF zord
    simp only
    split
    · omega
    · rw [if_neg (by rw [Int.mul_comm x.1] ; omega)]
      omega
  · have e : fadd (q, 1) (1, 1) = low (q + 1) 1 := by unfold fadd; simp
    rw [e, (cmp_low (by omega)).2]
    unfold zord
    rw [if_pos (by simp only [Int.natCast_one, Int.mul_one]; omega)]
    omega
  · have e : fsub (r, 1) (1, 2) = low (2 * r - 1) 2 := by unfold fsub; simp [Int.mul_comm]
    rw [e, (cmp_low (by omega)).1]
    have e3 : (2 * r - 1) * (x.2 : Int) = 2 * (r * x.2) - x.2 := by rw [Int.sub_mul, Int.mul_assoc]; omega
    unfold zord
    rw [e3]
    split
    · omega
    · rw [if_neg (by push_cast; omega)]
      omega
  · have e : fadd (r, 1) (1, 2) = low (2 * r + 1) 2 := by unfold fadd; simp [Int.mul_comm]
    rw [e, (cmp_low (by omega)).2]
    have e3 : (2 * r + 1) * (x.2 : Int) = 2 * (r * x.2) + x.2 := by rw [Int.add_mul, Int.mul_assoc]; omega
    unfold zord
    rw [e3, if_pos (by push_cast; omega)]
    omega
end Go.Proofs.YtfhbigfbeppinaaGreatDoor
