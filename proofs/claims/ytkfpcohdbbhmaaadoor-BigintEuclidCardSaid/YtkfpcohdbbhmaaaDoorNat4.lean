/- Natural numbers as lists of limbs: shifts, long division. Conditions: none. -/
import Derived.Test.YtkfpcohdbbhmaaaDoorNat3
namespace Go.Proofs.YtkfpcohdbbhmaaaDoor.Big
set_option linter.unusedVariables false
set_option linter.unusedSimpArgs false

def shrL (m : Nat) : List Nat → List Nat
  | [] => []
  | [x] => [x / m % 4294967296]
  | x :: y :: r => ((x + 4294967296 * y) / m % 4294967296) :: shrL m (y :: r)

theorem length_shrL (m : Nat) (a : List Nat) : (shrL m a).length = a.length := by
  induction a with
  | nil => rfl
  | cons x r ih => cases r with
    | nil => rfl
    | cons y s => simp only [shrL, List.length_cons] at *; rw [ih]

theorem ok_shrL (m : Nat) (a : List Nat) : Ok (shrL m a) := by
  induction a with
  | nil => exact .nil
  | cons x r ih => cases r with
    | nil => exact Ok.cons (Nat.mod_lt _ (by omega)) .nil
    | cons y s => rw [shrL]; exact Ok.cons (Nat.mod_lt _ (by omega)) ih

theorem shr_digit {m k x v : Nat} (hm : m * k = 4294967296) (hx : x < 4294967296) : (x + 4294967296 * v) / m = x / m + k * v ∧ (x / m + k * v) % 4294967296 = x / m + k * (v % m) := by
  have hm0 : 0 < m := by rcases Nat.eq_zero_or_pos m with h | h; · subst h; omega
                         · exact h
  have hk0 : 0 < k := by rcases Nat.eq_zero_or_pos k with h | h; · subst h; omega
                         · exact h
  have e1 : (x + 4294967296 * v) / m = x / m + k * v := by
    rw [← hm, Nat.mul_assoc, Nat.add_mul_div_left _ _ hm0]
  refine ⟨e1, ?_⟩
  have hxm : x / m < k := by rw [Nat.div_lt_iff_lt_mul hm0, Nat.mul_comm, hm]; exact hx
  have e2 : x / m + k * v = (x / m + k * (v % m)) + 4294967296 * (v / m) := by
    have := Nat.mod_add_div v m
    rw [← hm, Nat.mul_comm m k, Nat.mul_assoc]
    have h3 : k * v = k * (v % m) + k * (m * (v / m)) := by rw [← Nat.mul_add, this]
    omega
  have hlt : x / m + k * (v % m) < 4294967296 := by
    have h4 := Nat.mod_lt v hm0
    have h5 := Nat.mul_le_mul_left k (show v % m + 1 ≤ m from h4)
    rw [Nat.mul_comm k m, hm, Nat.mul_add] at h5
    omega
  rw [e2, Nat.add_mul_mod_self_left, Nat.mod_eq_of_lt hlt]

theorem val_shrL {m k : Nat} (hm : m * k = 4294967296) (a : List Nat) (ha : Ok a) : val (shrL m a) = val a / m := by
  have hm0 : 0 < m := by rcases Nat.eq_zero_or_pos m with h | h; · subst h; omega
                         · exact h
  induction a with
  | nil => simp [shrL, val]
  | cons x r ih => cases r with
    | nil =>
      have hx := ha.head
      simp only [shrL, val, Nat.mul_zero, Nat.add_zero]
      exact Nat.mod_eq_of_lt (Nat.lt_of_le_of_lt (Nat.div_le_self _ _) hx)
    | cons y s =>
      have ih' := ih ha.tail
      have hx := ha.head
      have ev : val (x :: y :: s) = x + 4294967296 * val (y :: s) := rfl
      rw [shrL, val, ih', ev]
      obtain ⟨d1, d2⟩ := shr_digit (v := y) hm hx
      obtain ⟨d3, _⟩ := shr_digit (v := val (y :: s)) hm hx
      rw [d1, d2, d3]
      have e : val (y :: s) % m = y % m := by
        rw [val, ← hm, Nat.mul_assoc, Nat.add_mul_mod_self_left]
      have h2 := Nat.mod_add_div (val (y :: s)) m
      rw [e] at h2
      have h3 : k * val (y :: s) = k * (y % m) + 4294967296 * (val (y :: s) / m) := by
        rw [← hm, Nat.mul_comm m k, Nat.mul_assoc, ← Nat.mul_add, h2]
      omega

theorem ok_shl (m : Nat) (a : List Nat) (c k : Nat) (hm : m * k = 4294967296) (ha : Ok a) (hc : c < m) : Ok (shl m a c) := by
  have hm0 : 0 < m := by omega
  have hk0 : 0 < k := by rcases Nat.eq_zero_or_pos k with h | h; · subst h; omega
                         · exact h
  have hmB : m ≤ 4294967296 := by have := Nat.mul_le_mul_left m hk0; omega
  induction a generalizing c with
  | nil => simp [shl, Ok]; omega
  | cons x a ih =>
    have hx := ha.head
    rw [shl]
    have e : x * m % 4294967296 = m * (x % k) := by rw [← hm, Nat.mul_comm x m]; exact Nat.mul_mod_mul_left m x k
    have hk := Nat.mod_lt x hk0
    have h5 := Nat.mul_le_mul_left m (show x % k + 1 ≤ k from hk)
    rw [hm, Nat.mul_add] at h5
    refine Ok.cons (by omega) (ih _ ha.tail ?_)
    rw [Nat.div_lt_iff_lt_mul (by omega), Nat.mul_comm m]
    exact Nat.mul_lt_mul_of_pos_right hx hm0

theorem shl_or {x m k c n : Nat} (hm : m * k = 4294967296) (hn : m = 2 ^ n) (_hc : c < m) : (x * m % 4294967296) % 2 ^ n = 0 := by
  have e : x * m % 4294967296 = m * (x % k) := by rw [← hm, Nat.mul_comm x m]; exact Nat.mul_mod_mul_left m x k
  rw [e, ← hn]
  exact Nat.mul_mod_right _ _

end Go.Proofs.YtkfpcohdbbhmaaaDoor.Big
