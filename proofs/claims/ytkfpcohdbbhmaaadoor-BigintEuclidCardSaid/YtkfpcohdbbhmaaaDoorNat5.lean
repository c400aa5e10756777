/- Natural numbers as lists of limbs: the guess of long division at lists. Conditions: none. -/
import Derived.Test.YtkfpcohdbbhmaaaDoorNat4
namespace Go.Proofs.YtkfpcohdbbhmaaaDoor.Big
set_option linter.unusedVariables false
set_option linter.unusedSimpArgs false

theorem split_top {l : List Nat} {n : Nat} (hl : l.length = n) (h2 : 2 ≤ n) : l = l.take (n - 2) ++ [l.getD (n - 2) 0, l.getD (n - 1) 0] := by
  have e1 : l.drop (n - 2) = [l.getD (n - 2) 0, l.getD (n - 1) 0] := by
    rw [List.drop_eq_getElem_cons (by omega), List.drop_eq_getElem_cons (by omega), List.drop_of_length_le (by omega)]
    have a1 : n - 2 < l.length := by omega
    have a2 : n - 1 < l.length := by omega
    simp [List.getD_eq_getElem?_getD, a1, a2, show n - 2 + 1 = n - 1 by omega]
  conv => lhs; rw [← List.take_append_drop (n - 2) l, e1]

theorem shape_of {low vs : List Nat} {h n : Nat} (hl : low.length = n) (hv : vs.length = n) (h2 : 2 ≤ n) (okl : Ok low) (okv : Ok vs) :
    Shape (val (low ++ [h])) (val vs) (h * 4294967296 + low.getD (n - 1) 0) (low.getD (n - 2) 0) (vs.getD (n - 1) 0) (vs.getD (n - 2) 0) (4294967296 ^ (n - 2)) := by
  have e1 := split_top hl h2
  have e2 := split_top hv h2
  have t1 := val_lt_pow (okl.take (n - 2))
  have t2 := val_lt_pow (okv.take (n - 2))
  have l1 : (low.take (n - 2)).length = n - 2 := by simp; omega
  have l2 : (vs.take (n - 2)).length = n - 2 := by simp; omega
  have vu : val (low ++ [h]) = val (low.take (n - 2)) + 4294967296 ^ (n - 2) * ((h * 4294967296 + low.getD (n - 1) 0) * 4294967296 + low.getD (n - 2) 0) := by
    conv => lhs; rw [e1, List.append_assoc, val_append, l1]
    simp only [List.cons_append, List.nil_append, val]
    congr 2; omega
  have vv : val vs = val (vs.take (n - 2)) + 4294967296 ^ (n - 2) * (vs.getD (n - 1) 0 * 4294967296 + vs.getD (n - 2) 0) := by
    conv => lhs; rw [e2, val_append, l2]
    simp only [val]
    congr 2; omega
  rw [l1] at t1
  rw [l2] at t2
  generalize 4294967296 ^ (n - 2) = P at *
  refine ⟨?_, ?_, ?_, ?_⟩
  · rw [vv, Nat.mul_comm P]; omega
  · rw [vv, Nat.mul_comm P, Nat.add_mul _ 1 P]; omega
  · rw [vu, Nat.mul_comm P]; omega
  · rw [vu, Nat.mul_comm P, Nat.add_mul _ 1 P]; omega

theorem quot_lt {low vs : List Nat} {h : Nat} (hU : val (low ++ [h]) < val vs * 4294967296) : val (low ++ [h]) / val vs < 4294967296 := by
  rw [Nat.div_lt_iff_lt_mul (by rcases Nat.eq_zero_or_pos (val vs) with h | h; · rw [h] at hU; omega
                                · exact h), Nat.mul_comm]
  exact hU

theorem succ_B (v1 v2 : Nat) (h : v2 < 4294967296) : v1 * 4294967296 + v2 + 1 ≤ (v1 + 1) * 4294967296 := by omega

/-- the first guess is at most one beyond a limb -/
theorem guess_first {U V top u2 v1 v2 P : Nat} (S : Shape U V top u2 v1 v2 P) (hU : U < V * 4294967296) (hv2 : v2 < 4294967296) : top < (v1 + 1) * 4294967296 := by
  have h1 := S.hU
  have h2 := S.hV'
  have h3 : V * 4294967296 ≤ ((v1 * 4294967296 + v2 + 1) * P) * 4294967296 := by omega
  have h0 := succ_B v1 v2 hv2
  have h4 : (v1 * 4294967296 + v2 + 1) * P ≤ ((v1 + 1) * 4294967296) * P := Nat.mul_le_mul_right P h0
  have h5 : (top * 4294967296) * P ≤ (top * 4294967296 + u2) * P := Nat.mul_le_mul_right P (Nat.le_add_right _ _)
  have e1 : (top * 4294967296) * P = (top * P) * 4294967296 := Nat.mul_right_comm _ _ _
  have h6 : top * P < ((v1 + 1) * 4294967296) * P := by omega
  exact Nat.lt_of_mul_lt_mul_right h6

theorem subM_pos {g h c d : Nat} {v low : List Nat} (hl : v.length = low.length) (hlo : Ok low) (hm : (subM g v low 0 0).2 = (c, d)) (hlt : h < c + d) : 1 ≤ g := by
  rcases Nat.eq_zero_or_pos g with h0 | h0
  · exfalso
    obtain ⟨hs, hd⟩ := subM_spec g v low 0 0 hl (by omega) hlo
    have h1 := val_lt_pow (ok_subM g v low 0 0)
    rw [length_subM g v low 0 0 hl] at h1
    rw [hm] at hs
    subst h0
    have := Nat.mul_le_mul_left (4294967296 ^ v.length) (show 1 ≤ c + d by omega)
    simp only at hs
    omega
  · exact h0

end Go.Proofs.YtkfpcohdbbhmaaaDoor.Big
