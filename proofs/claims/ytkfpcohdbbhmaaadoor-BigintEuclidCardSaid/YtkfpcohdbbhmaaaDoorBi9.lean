/- Magnitudes: the walk of divide. Conditions: none. -/
import Derived.Test.YtkfpcohdbbhmaaaDoorBi8
import Derived.Test.YtkfpcohdbbhmaaaDoorNat6
import Derived.Test.YtkfpcohdbbhmaaaDoorApp
import Derived.Test.YtkfpcohdbbhmaaaDoorSh0
namespace Go.Proofs.YtkfpcohdbbhmaaaDoor
set_option linter.unusedVariables false
set_option linter.unusedSimpArgs false
open Go.RowKit Big

theorem mod_small {q v r : Nat} (h : r < v) : (q * v + r) % v = r := by rw [Nat.add_comm, Nat.add_mul_mod_self_right, Nat.mod_eq_of_lt h]

theorem LongAt_end {us U qs xs ys : List Nat} {n m p : Nat} (h : LongAt us (val ys * p) n m 0 U qs) (hu : val us = val xs * p) (hp : 0 < p) (hy : 0 < val ys) : val qs = val xs / val ys ∧ val U / p = val xs % val ys ∧ Ok qs ∧ Ok U ∧ qs.length = m := by
  obtain ⟨rem, qq, h1, h2, h3, h4, h5, h6, h7, h8⟩ := h.ex
  have e1 : qs = qq := by simpa using h5
  have e2 : U = rem ++ List.replicate m 0 := by simpa using h1
  have e3 : val U = val rem := by rw [e2, val_append, val_rep]; simp
  rw [List.drop_zero, hu, ← Nat.mul_assoc] at h8
  have hr : val rem = val xs % val ys * p := by
    have h9 : val rem = (val xs * p) % (val ys * p) := by
      rw [h8, Nat.mul_assoc, mod_small h4]
    rw [h9, Nat.mul_mod_mul_right]
  have hq : val qq = val xs / val ys := by
    have : (val xs * p) / (val ys * p) = val qq := by
      rw [h8, Nat.mul_assoc, Nat.add_comm, Nat.add_mul_div_right _ _ (Nat.mul_pos hy hp), Nat.div_eq_of_lt h4, Nat.zero_add]
    rw [← this, Nat.mul_div_mul_right _ _ hp]
  refine ⟨by rw [e1, hq], by rw [e3, hr, Nat.mul_div_cancel _ hp], by rw [e1]; exact h7, by rw [e2]; exact h3.app (Ok.rep _), by rw [e1, h6]; rfl⟩

end Go.Proofs.YtkfpcohdbbhmaaaDoor
