/- Homographies in plain numbers: adjugates, determinants, products, common divisors, normal forms. Conditions: none. -/
import Derived.Test.YtglailcfgcdagaaGreatZYA
import Derived.Test.YtglailcfgcdagaaGreatZYC
set_option linter.unusedVariables false
set_option linter.unusedSimpArgs false
namespace Go.Proofs.YtglailcfgcdagaaGreat
open Go.RowKit Big
theorem limbs_bits40 (n K : Nat) : (limbs n).length ≤ K ↔ n < 2 ^ (32 * K) := by
 rw [limbs_len_iff, show (4294967296 : Nat) = 2 ^ 32 by decide, ← Nat.pow_mul]
/-- the number lies under 2 ^ k -/
def Bz (k : Nat) (x : Int) : Prop := x.natAbs < 2 ^ k
theorem limbs_lt40 {n k K : Nat} (h : n < 2 ^ k) (hk : k ≤ 32 * K) : (limbs n).length ≤ K := (limbs_bits40 n K).2 (Nat.lt_of_lt_of_le h (Nat.pow_le_pow_right (by decide) hk))
theorem Bz.ft {k : Nat} {x : Int} (h : Bz k x) (hk : k ≤ 16384) : fits x := by
 unfold fits
 exact limbs_lt40 h (by omega)
theorem Bz.mono {k l : Nat} {x : Int} (h : Bz k x) (hk : k ≤ l) : Bz l x := Nat.lt_of_lt_of_le h (Nat.pow_le_pow_right (by decide) hk)
theorem Bz.mul {k l : Nat} {x y : Int} (h : Bz k x) (h' : Bz l y) : Bz (k + l) (x * y) := by
 unfold Bz
 rw [Int.natAbs_mul, Nat.pow_add]
 exact Nat.mul_lt_mul'' h h'
theorem Bz.add {k : Nat} {x y : Int} (h : Bz k x) (h' : Bz k y) : Bz (k + 1) (x + y) := by
 unfold Bz at *
 rw [Nat.pow_succ]
 generalize 2 ^ k = P at *
 omega
theorem Bz.sub {k : Nat} {x y : Int} (h : Bz k x) (h' : Bz k y) : Bz (k + 1) (x - y) := by
 unfold Bz at *
 rw [Nat.pow_succ]
 generalize 2 ^ k = P at *
 omega
theorem Bz.zero {k : Nat} : Bz k 0 := Nat.pow_pos (by decide)
theorem Bz.ediv {k : Nat} {x y : Int} (h : Bz k x) (hd : y ∣ x) : Bz k (x / y) := by
 unfold Bz at *
 obtain ⟨q, rfl⟩ := hd
 by_cases h0 : y = 0
 ·subst h0; simp; exact Nat.pow_pos (by decide)
 ·rw [Int.mul_ediv_cancel_left _ h0]
  rw [Int.natAbs_mul] at h
  exact Nat.lt_of_le_of_lt (Nat.le_mul_of_pos_left _ (by omega)) h
end Go.Proofs.YtglailcfgcdagaaGreat
/- Homographies in plain numbers: the normal form of a multiple is that of the matrix; common denominators. Conditions: none. -/
namespace Go.Proofs.YtglailcfgcdagaaGreat
open Go.RowKit Big
end Go.Proofs.YtglailcfgcdagaaGreat
/- Homographies in plain numbers: matrices. Conditions: none. -/
namespace Go.Proofs.YtglailcfgcdagaaGreat
open Go.RowKit Big
end Go.Proofs.YtglailcfgcdagaaGreat
