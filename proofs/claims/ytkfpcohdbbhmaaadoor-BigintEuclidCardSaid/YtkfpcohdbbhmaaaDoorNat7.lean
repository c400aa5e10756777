/- Digits of a number in a base, the least significant first. Conditions: none. -/
import Derived.Test.YtkfpcohdbbhmaaaDoorNat6
namespace Go.Proofs.YtkfpcohdbbhmaaaDoor.Big
set_option linter.unusedVariables false
set_option linter.unusedSimpArgs false

def digs (b n : Nat) : List Nat := if h : n = 0 ∨ b < 2 then [] else n % b :: digs b (n / b)
termination_by n
decreasing_by exact Nat.div_lt_self (by omega) (by omega)

theorem digs_zero (b : Nat) : digs b 0 = [] := by rw [digs]; simp
theorem digs_pos {b n : Nat} (hb : 2 ≤ b) (h : n ≠ 0) : digs b n = n % b :: digs b (n / b) := by
  rw [digs, dif_neg (by omega)]

/-- the value of digits, the most significant first, behind a number -/
def ofd (b : Nat) (m : Nat) (l : List Nat) : Nat := l.foldl (fun m d => m * b + d) m
theorem ofd_app (b m : Nat) (l k : List Nat) : ofd b m (l ++ k) = ofd b (ofd b m l) k := by simp [ofd]
theorem ofd_digs {b : Nat} (hb : 2 ≤ b) (n : Nat) : ofd b 0 (digs b n).reverse = n := by
  induction n using Nat.strongRecOn with
  | _ n ih =>
    by_cases h : n = 0
    · subst h; rw [digs_zero]; rfl
    · rw [digs_pos hb h, List.reverse_cons, ofd_app, ih _ (Nat.div_lt_self (by omega) (by omega))]
      show n / b * b + n % b = n
      rw [Nat.mul_comm]; exact Nat.div_add_mod n b
theorem digs_lt {b : Nat} (hb : 2 ≤ b) (n : Nat) : ∀ d ∈ digs b n, d < b := by
  induction n using Nat.strongRecOn with
  | _ n ih =>
    by_cases h : n = 0
    · subst h; rw [digs_zero]; simp
    · rw [digs_pos hb h]
      intro d hd
      rcases List.mem_cons.1 hd with rfl | hd
      · exact Nat.mod_lt _ (by omega)
      · exact ih _ (Nat.div_lt_self (by omega) (by omega)) d hd
theorem digs_ne {b n : Nat} (hb : 2 ≤ b) (h : n ≠ 0) : digs b n ≠ [] := by rw [digs_pos hb h]; simp
theorem digs_last {b : Nat} (hb : 2 ≤ b) (n : Nat) (h : n ≠ 0) : (digs b n).getLast? ≠ some 0 := by
  induction n using Nat.strongRecOn with
  | _ n ih =>
    rw [digs_pos hb h]
    by_cases h0 : n / b = 0
    · rw [h0, digs_zero]
      have : n < b := by rcases Nat.div_eq_zero_iff.1 h0 with h | h <;> omega
      rw [Nat.mod_eq_of_lt this]
      simpa using h
    · have := ih _ (Nat.div_lt_self (by omega) (by omega)) h0
      rw [List.getLast?_cons]
      cases hq : digs b (n / b) with
      | nil => exact absurd hq (digs_ne hb h0)
      | cons x r => rw [hq] at this; simpa [List.getLast?_cons] using this

end Go.Proofs.YtkfpcohdbbhmaaaDoor.Big
