/- Powers of the base as fractions: what the law of the limits says. Conditions: none. -/
import Derived.Test.YtfhbigfbeppinaaGreatDoorZNtT
set_option linter.unusedVariables false
set_option linter.unusedSimpArgs false
namespace Go.Proofs.YtfhbigfbeppinaaGreatDoor
open Go.RowKit Big

def bp (n : Nat) : Nat := 4294967296 ^ n
theorem bp_pos (n : Nat) : 0 < bp n := Nat.pow_pos (by decide)
theorem bp_add (n m : Nat) : bp n * bp m = bp (n + m) := (Nat.pow_add _ _ _).symm
theorem limbs_bp : ∀ n, limbs (bp n) = List.replicate n 0 ++ [1]
  | 0 => by show limbs 1 = _; rw [limbs_one]; rfl
  | n + 1 => by
    have e : bp (n + 1) = bp n * 4294967296 := Nat.pow_succ _ _
    have h0 : bp (n + 1) ≠ 0 := by have := bp_pos (n + 1); omega
    rw [limbs_pos h0, e, Nat.mul_mod_left, Nat.mul_div_cancel _ (by decide), limbs_bp n, List.replicate_succ]
    rfl
theorem bp_len (n : Nat) : (limbs (bp n)).length = n + 1 := by rw [limbs_bp]; simp
theorem bp_fits (n : Nat) : fits (bp n : Nat) ↔ n < 512 := by rw [fits_nat, bp_len]; omega
theorem bp_lt {n m : Nat} : bp n < bp m ↔ n < m := Nat.pow_lt_pow_iff_right (by decide)
theorem nf_bp (n : Nat) : Nf ((bp n : Int), 1) := ⟨by simp, by simp⟩
theorem nf_bpr (n : Nat) : Nf ((1 : Int), bp n) := ⟨bp_pos n, by simp⟩
theorem fits_1 : fits 1 := valid_int 1 (by omega) (by omega)
theorem vf_bp {n : Nat} (h : n < 512) : Vf ((bp n : Int), 1) := ⟨nf_bp n, (bp_fits n).2 h, fits_1⟩
theorem vf_bpr {n : Nat} (h : n < 512) : Vf ((1 : Int), bp n) := ⟨nf_bpr n, fits_1, (bp_fits n).2 h⟩
theorem low_int (n : Int) : low n 1 = (n, 1) := low_self (n := n) (d := 1) ⟨by simp, by simp⟩
theorem low_rec (n : Nat) : low 1 (bp n) = (1, bp n) := low_self (n := 1) (d := bp n) (nf_bpr n)
theorem mul_bp_yes {i k : Nat} (h : i + k < 512) : mulE ((bp i : Int), 1) ((bp k : Int), 1) = ((((bp (i + k) : Nat) : Int), 1), 0) := by
  unfold mulE
  have e : (bp i : Int) * (bp k : Int) = ((bp (i + k) : Nat) : Int) := by rw [← Int.natCast_mul, bp_add]
  simp only [e, Nat.mul_one]
  rw [lowE_yes, low_int]
  rw [low_int]
  exact ⟨(bp_fits _).2 h, fits_1⟩
theorem mul_bp_no {i k : Nat} (h : 512 ≤ i + k) : mulE ((bp i : Int), 1) ((bp k : Int), 1) = ((0, 0), 4) := by
  unfold mulE
  have e : (bp i : Int) * (bp k : Int) = ((bp (i + k) : Nat) : Int) := by rw [← Int.natCast_mul, bp_add]
  simp only [e, Nat.mul_one]
  refine lowE_no ?_
  rw [low_int]
  rintro ⟨h1, _⟩
  have := (bp_fits _).1 h1
  omega
theorem mul_rr_yes {i k : Nat} (h : i + k < 512) : mulE ((1 : Int), bp i) ((1 : Int), bp k) = ((1, bp (i + k)), 0) := by
  unfold mulE
  simp only [bp_add, Int.mul_one]
  rw [lowE_yes, low_rec]
  rw [low_rec]
  exact ⟨fits_1, (bp_fits _).2 h⟩
theorem mul_rr_no {i k : Nat} (h : 512 ≤ i + k) : mulE ((1 : Int), bp i) ((1 : Int), bp k) = ((0, 0), 4) := by
  unfold mulE
  simp only [bp_add, Int.mul_one]
  refine lowE_no ?_
  rw [low_rec]
  rintro ⟨_, h1⟩
  have := (bp_fits _).1 h1
  omega
theorem mul_br_ge {i k : Nat} (hi : i < 512) (h : k ≤ i) : mulE ((bp i : Int), 1) ((1 : Int), bp k) = ((((bp (i - k) : Nat) : Int), 1), 0) := by
  unfold mulE
  simp only [Int.mul_one, Nat.one_mul]
  have e : low (bp i : Int) (bp k) = (((bp (i - k) : Nat) : Int), 1) := by
    have h1 : low (bp i : Int) (bp k) = low ((bp (i - k) : Nat) : Int) 1 := low_eq (bp_pos k) (by omega) (by rw [← Int.natCast_mul, ← Int.natCast_mul, bp_add, Nat.mul_one, Nat.sub_add_cancel h])
    rw [h1, low_int]
  rw [lowE_yes (by rw [e]; exact ⟨(bp_fits _).2 (by omega), fits_1⟩), e]
theorem mul_br_lt {i k : Nat} (hk : k < 512) (h : i < k) : mulE ((bp i : Int), 1) ((1 : Int), bp k) = ((1, bp (k - i)), 0) := by
  unfold mulE
  simp only [Int.mul_one, Nat.one_mul]
  have e : low (bp i : Int) (bp k) = ((1 : Int), bp (k - i)) := by
    have h1 : low (bp i : Int) (bp k) = low (1 : Int) (bp (k - i)) := low_eq (bp_pos k) (bp_pos _) (by rw [← Int.natCast_mul, Int.one_mul, bp_add, Nat.add_sub_cancel' (by omega)])
    rw [h1, low_rec]
  rw [lowE_yes (by rw [e]; exact ⟨fits_1, (bp_fits _).2 (by omega)⟩), e]
theorem cmp_bb (i k : Nat) : cmpF ((bp i : Int), 1) ((bp k : Int), 1) = zord (i : Int) (k : Int) := by
  have h1 := @bp_lt i k
  have h2 := @bp_lt k i
  have k1 : ((bp i : Int) * ((1 : Nat) : Int) < (bp k : Int) * ((1 : Nat) : Int)) ↔ ((i : Int) < (k : Int)) := by
    rw [Int.natCast_one, Int.mul_one, Int.mul_one, Int.ofNat_lt, Int.ofNat_lt]; exact h1
  have k2 : ((bp k : Int) * ((1 : Nat) : Int) < (bp i : Int) * ((1 : Nat) : Int)) ↔ ((k : Int) < (i : Int)) := by
    rw [Int.natCast_one, Int.mul_one, Int.mul_one, Int.ofNat_lt, Int.ofNat_lt]; exact h2
  unfold cmpF zord
  simp only [k1, k2]
theorem cmp_br (i k : Nat) : cmpF ((bp i : Int), 1) ((1 : Int), bp k) = if 0 < i + k then 1 else 0 := by
  unfold cmpF zord
  simp only
  have e : (bp i : Int) * (bp k : Int) = ((bp (i + k) : Nat) : Int) := by rw [← Int.natCast_mul, bp_add]
  rw [e]
  have h0 : bp 0 = 1 := rfl
  have h1 := @bp_lt 0 (i + k)
  have h2 := bp_pos (i + k)
  rw [h0] at h1
  rw [if_neg (by push_cast; omega)]
  by_cases h : 0 < i + k
  · rw [if_pos (by have := h1.2 h; push_cast; omega), if_pos h]
  · rw [if_neg (fun h' => h (h1.1 (by push_cast at h'; omega))), if_neg h]
end Go.Proofs.YtfhbigfbeppinaaGreatDoor
