/- Fractions in lowest terms: sums, products, quotients, order. Conditions: none. -/
import Derived.Test.YtglailcfgcdagaaGreatZNtA
import Derived.Test.YtglailcfgcdagaaGreatZBiC
import Derived.Test.YtglailcfgcdagaaGreatZYC
set_option linter.unusedVariables false
set_option linter.unusedSimpArgs false
namespace Go.Proofs.YtglailcfgcdagaaGreat.Big
/-- a fraction in lowest terms -/
def low (n : Int) (d : Nat) : Int × Nat := (n / (Nat.gcd n.natAbs d : Nat), d / Nat.gcd n.natAbs d)
/-- in normal form -/
def Nf (f : Int × Nat) : Prop := 0 < f.2 ∧ Nat.gcd f.1.natAbs f.2 = 1
theorem gcd_pos' {n : Int} {d : Nat} (h : 0 < d) : 0 < Nat.gcd n.natAbs d := Nat.gcd_pos_of_pos_right _ h
theorem low_mul {n : Int} {d : Nat} : (low n d).1 * (Nat.gcd n.natAbs d : Nat) = n ∧ (low n d).2 * Nat.gcd n.natAbs d = d := by
 constructor
 ·exact Int.ediv_mul_cancel (Int.ofNat_dvd_left.2 (Nat.gcd_dvd_left _ _))
 ·exact Nat.div_mul_cancel (Nat.gcd_dvd_right _ _)
theorem low_nf {n : Int} {d : Nat} (h : 0 < d) : Nf (low n d) := by
 obtain ⟨h1, h2⟩ := low_mul (n := n) (d := d)
 have hg := gcd_pos' (n := n) h
 have h1' := congrArg Int.natAbs h1
 rw [Int.natAbs_mul, Int.natAbs_natCast] at h1'
 constructor
 ·rcases Nat.eq_zero_or_pos (low n d).2 with h0 | h0
  ·rw [h0, Nat.zero_mul] at h2; omega
  ·exact h0
 ·have h3 : Nat.gcd ((low n d).1.natAbs * Nat.gcd n.natAbs d) ((low n d).2 * Nat.gcd n.natAbs d) = Nat.gcd n.natAbs d := by rw [h1', h2]
  rw [Nat.gcd_mul_right] at h3
  exact Nat.eq_of_mul_eq_mul_right hg (by rw [h3, Nat.one_mul])
end Go.Proofs.YtglailcfgcdagaaGreat.Big
/- The simplest fraction between two positive ones: continued fractions. Conditions: none. -/
namespace Go.Proofs.YtglailcfgcdagaaGreat.Big
/-- the simplest fraction from n/d to m/k -/
def simpl (n d m k : Nat) : Nat × Nat :=
 if h : d = 0 ∨ k = 0 ∨ n % d = 0 then (n / d, 1)
 else if n / d < m / k then (n / d + 1, 1)
 else
  let r := simpl k (m % k) d (n % d)
  (n / d * r.1 + r.2, r.1)
termination_by d + k
decreasing_by
 have h1 := Nat.mod_lt m (show 0 < k by omega)
 have h2 := Nat.mod_lt n (show 0 < d by omega)
 omega
theorem simpl_int {n d m k : Nat} (h : n % d = 0) : simpl n d m k = (n / d, 1) := by rw [simpl, dif_pos (.inr (.inr h))]
theorem simpl_next {n d m k : Nat} (hd : d ≠ 0) (hk : k ≠ 0) (h : n % d ≠ 0) (hlt : n / d < m / k) : simpl n d m k = (n / d + 1, 1) := by
 rw [simpl, dif_neg (by omega), if_pos hlt]
theorem simpl_rec {n d m k : Nat} (hd : d ≠ 0) (hk : k ≠ 0) (h : n % d ≠ 0) (hlt : ¬ n / d < m / k) : simpl n d m k = (n / d * (simpl k (m % k) d (n % d)).1 + (simpl k (m % k) d (n % d)).2, (simpl k (m % k) d (n % d)).1) := by
 rw [simpl, dif_neg (by omega), if_neg hlt]
/-- lies between n/d and m/k -/
def Btw (n d m k u v : Nat) : Prop := n * v ≤ u * d ∧ u * k ≤ m * v
theorem same_floor {n d m k : Nat} (hd : 0 < d) (hk : 0 < k) (hle : n * k ≤ m * d) (hlt : ¬ n / d < m / k) : n / d = m / k := by
 have h1 : n / d ≤ m / k := by
  rw [Nat.le_div_iff_mul_le hk]
  have h2 := Nat.div_mul_le_self n d
  have h3 : n / d * k * d ≤ m * d := by
   calc n / d * k * d = n / d * d * k := by ac_rfl
    _ ≤ n * k := Nat.mul_le_mul_right _ h2
    _ ≤ m * d := hle
  exact Nat.le_of_mul_le_mul_right h3 hd
 omega
/-- the bounds of the rests, turned -/
theorem rest_le {n d m k : Nat} (hle : n * k ≤ m * d) (he : n / d = m / k) : k * (n % d) ≤ d * (m % k) := by
 have h1 := Nat.div_add_mod n d
 have h2 := Nat.div_add_mod m k
 rw [he] at h1
 generalize m / k = q at *
 generalize n % d = r at *
 generalize m % k = s at *
 subst h1 h2
 have e1 : (d * q + r) * k = d * q * k + k * r := by grind
 have e2 : (k * q + s) * d = d * q * k + d * s := by grind
 omega
theorem simpl_spec : ∀ (N n d m k : Nat), d + k ≤ N → 0 < d → 0 < k → n * k ≤ m * d →
  Btw n d m k (simpl n d m k).1 (simpl n d m k).2 ∧ 0 < (simpl n d m k).2 ∧ Nat.gcd (simpl n d m k).1 (simpl n d m k).2 = 1 ∧ (0 < n → 0 < (simpl n d m k).1) ∧ ∀ u v, 0 < v → Btw n d m k u v → (simpl n d m k).1 ≤ u ∧ (simpl n d m k).2 ≤ v := by
 intro N
 induction N with
 | zero => intro n d m k h hd; omega
 | succ N ih =>
  intro n d m k hN hd hk hle
  by_cases hr : n % d = 0
  ·rw [simpl_int hr]
   have e : n = d * (n / d) := by have := Nat.div_add_mod n d; omega
   generalize n / d = q at *
   subst e
   refine ⟨⟨by simp [Nat.mul_comm], ?_⟩, by simp, by simp, ?_, ?_⟩
   ·simp only [Nat.mul_one]
    have : d * (q * k) ≤ d * m := by
     calc d * (q * k) = d * q * k := by ac_rfl
      _ ≤ m * d := hle
      _ = d * m := Nat.mul_comm _ _
    exact Nat.le_of_mul_le_mul_left this hd
   ·intro h0
    simp only
    rcases Nat.eq_zero_or_pos q with h | h
    ·subst h; simp at h0
    ·exact h
   ·rintro u v hv ⟨h1, h2⟩
    have : d * (q * v) ≤ d * u := by
     calc d * (q * v) = d * q * v := by ac_rfl
      _ ≤ u * d := h1
      _ = d * u := Nat.mul_comm _ _
    have := Nat.le_of_mul_le_mul_left this hd
    exact ⟨Nat.le_trans (Nat.le_mul_of_pos_right q hv) this, hv⟩
  ·have hnd := Nat.div_add_mod n d
   have hrl := Nat.mod_lt n hd
   by_cases hlt : n / d < m / k
   ·rw [simpl_next (by omega) (by omega) hr hlt]
    have hmk := Nat.div_add_mod m k
    generalize n % d = r at *
    generalize m % k = s at *
    generalize n / d = q at *
    generalize m / k = p at *
    subst hnd hmk
    refine ⟨⟨?_, ?_⟩, by simp, by simp, by simp, ?_⟩
    ·simp only [Nat.mul_one]
     rw [Nat.add_mul, Nat.mul_comm d q]
     omega
    ·simp only [Nat.mul_one]
     have : (q + 1) * k ≤ p * k := Nat.mul_le_mul_right _ hlt
     rw [Nat.mul_comm p k] at this
     omega
    ·rintro u v hv ⟨h1, h2⟩
     refine ⟨?_, hv⟩
     rcases Nat.lt_or_ge u (q + 1) with h | h
     ·exfalso
      have h3 : u * d ≤ q * d := Nat.mul_le_mul_right _ (by omega)
      have h4 : d * q + r ≤ (d * q + r) * v := Nat.le_mul_of_pos_right _ hv
      rw [Nat.mul_comm q d] at h3
      omega
     ·exact h
   ·rw [simpl_rec (by omega) (by omega) hr hlt]
    have he := same_floor hd hk hle hlt
    have hrs := rest_le hle he
    have hmk := Nat.div_add_mod m k
    have hsl := Nat.mod_lt m hk
    have hs0 : 0 < m % k := by
     rcases Nat.eq_zero_or_pos (m % k) with h | h
     ·rw [h, Nat.mul_zero] at hrs
      have : 0 < k * (n % d) := Nat.mul_pos hk (by omega)
      omega
     ·exact h
    obtain ⟨i1, i2, i3, i4, i5⟩ := ih k (m % k) d (n % d) (by omega) hs0 (by omega) hrs
    have i4 := i4 hk
    rw [← he] at hmk
    generalize (simpl k (m % k) d (n % d)).1 = x at *
    generalize (simpl k (m % k) d (n % d)).2 = y at *
    generalize n % d = r at *
    generalize m % k = s at *
    generalize n / d = q at *
    subst hnd hmk
    obtain ⟨j1, j2⟩ := i1
    refine ⟨⟨?_, ?_⟩, i4, ?_, ?_, ?_⟩
    ·simp only
     have e1 : (d * q + r) * x = d * q * x + x * r := by grind
     have e2 : (q * x + y) * d = d * q * x + d * y := by grind
     omega
    ·simp only
     have e1 : (q * x + y) * k = k * q * x + k * y := by grind
     have e2 : (k * q + s) * x = k * q * x + x * s := by grind
     omega
    ·simp only
     rw [Nat.gcd_comm, Nat.add_comm, Nat.gcd_add_mul_right_right]
     exact i3
    ·intro _
     simp only
     omega
    ·rintro u v hv ⟨h1, h2⟩
     simp only
     have hqv : q * v ≤ u := by
      have h3 : d * (q * v) ≤ d * u := by
       have e1 : (d * q + r) * v = d * (q * v) + r * v := by grind
       have e2 : u * d = d * u := Nat.mul_comm _ _
       omega
      exact Nat.le_of_mul_le_mul_left h3 hd
     obtain ⟨w, hw⟩ : ∃ w, u = q * v + w := ⟨u - q * v, by omega⟩
     subst hw
     have h3 : r * v ≤ w * d := by
      have e1 : (d * q + r) * v = d * q * v + r * v := by grind
      have e2 : (q * v + w) * d = d * q * v + w * d := by grind
      omega
     have h4 : w * k ≤ s * v := by
      have e1 : (q * v + w) * k = k * q * v + w * k := by grind
      have e2 : (k * q + s) * v = k * q * v + s * v := by grind
      omega
     have hw0 : 0 < w := by
      rcases Nat.eq_zero_or_pos w with h | h
      ·subst h
       have : 0 < r * v := Nat.mul_pos (by omega) hv
       omega
      ·exact h
     obtain ⟨k1, k2⟩ := i5 v w hw0 ⟨by rw [Nat.mul_comm k w, Nat.mul_comm v s]; exact h4, by rw [Nat.mul_comm v r, Nat.mul_comm d w]; exact h3⟩
     exact ⟨Nat.add_le_add (Nat.mul_le_mul_left _ k1) k2, k1⟩
end Go.Proofs.YtglailcfgcdagaaGreat.Big
/- Bits, the rounds of the reference's greatest common divisor, rounding. Conditions: none. -/
namespace Go.Proofs.YtglailcfgcdagaaGreat.Big
/-- the number of bits -/
def bl (x : Nat) : Nat := if h : x = 0 then 0 else bl (x / 2) + 1
termination_by x
decreasing_by omega
theorem bl_zero : bl 0 = 0 := by rw [bl]; simp
theorem bl_pos {x : Nat} (h : x ≠ 0) : bl x = bl (x / 2) + 1 := by rw [bl, dif_neg h]
theorem bl_le : ∀ k x, x < 2 ^ k → bl x ≤ k := by
 intro k
 induction k with
 | zero => intro x h; simp at h; subst h; rw [bl_zero]; omega
 | succ k ih =>
  intro x h
  by_cases h0 : x = 0
  ·subst h0; rw [bl_zero]; omega
  ·rw [bl_pos h0]
   have := ih (x / 2) (by rw [Nat.pow_succ] at h; omega)
   omega
theorem bl_mono : ∀ b a, a ≤ b → bl a ≤ bl b := by
 intro b
 induction b using Nat.strongRecOn with
 | _ b ih =>
  intro a h
  by_cases h0 : a = 0
  ·subst h0; rw [bl_zero]; omega
  ·rw [bl_pos h0, bl_pos (by omega : b ≠ 0)]
   have := ih (b / 2) (by omega) (a / 2) (by omega)
   omega
/-- how many rounds are still to come -/
def phi (a b : Nat) : Nat := if b = 0 then 0 else 2 * (bl a + bl b) + (if a % 2 = 1 ∧ b % 2 = 1 then 1 else 0)
theorem phi_pos {a b : Nat} (h : b ≠ 0) : phi a b = 2 * (bl a + bl b) + (if a % 2 = 1 ∧ b % 2 = 1 then 1 else 0) := by unfold phi; rw [if_neg h]
theorem phi_a {a b : Nat} (ha : a ≠ 0) (hb : b ≠ 0) (h : a % 2 = 0) : phi (a / 2) b + 1 ≤ phi a b := by
 rw [phi_pos hb, phi_pos hb, bl_pos ha]
 split <;> split <;> omega
theorem phi_b {a b : Nat} (hb : b ≠ 0) (h : b % 2 = 0) : phi a (b / 2) + 1 ≤ phi a b := by
 rw [phi_pos hb, phi_pos (by omega : b / 2 ≠ 0), bl_pos hb]
 split <;> split <;> omega
theorem phi_s1 {a b : Nat} (hb : b ≠ 0) (h1 : a % 2 = 1) (h2 : b % 2 = 1) : phi (a - b) b + 1 ≤ phi a b := by
 rw [phi_pos hb, phi_pos hb, if_neg (by omega : ¬ ((a - b) % 2 = 1 ∧ b % 2 = 1)), if_pos ⟨h1, h2⟩]
 have := bl_mono a (a - b) (by omega)
 omega
theorem phi_s2 {a b : Nat} (hb : b ≠ 0) (h1 : a % 2 = 1) (h2 : b % 2 = 1) : phi a (b - a) + 1 ≤ phi a b := by
 rw [phi_pos hb, if_pos ⟨h1, h2⟩]
 unfold phi
 have := bl_mono b (b - a) (by omega)
 split
 ·omega
 ·split <;> omega
theorem phi_le {a b k j : Nat} (ha : a < 2 ^ k) (hb : b < 2 ^ j) : phi a b ≤ 2 * (k + j) + 1 := by
 unfold phi
 have h1 := bl_le k a ha
 have h2 := bl_le j b hb
 split
 ·omega
 ·split <;> omega
end Go.Proofs.YtglailcfgcdagaaGreat.Big
/- Long division bit by bit, a limb moved up. Conditions: none. -/
namespace Go.Proofs.YtglailcfgcdagaaGreat.Big
theorem dv_no {A m b : Nat} (h : 2 * (A % m) + b < m) : (2 * A + b) / m = 2 * (A / m) ∧ (2 * A + b) % m = 2 * (A % m) + b := by
 have h1 := Nat.mod_add_div A m
 have e : 2 * A + b = (2 * (A % m) + b) + m * (2 * (A / m)) := by
  rw [Nat.mul_left_comm]; omega
 have hm : 0 < m := by omega
 constructor
 ·rw [e, Nat.add_mul_div_left _ _ hm, Nat.div_eq_of_lt h, Nat.zero_add]
 ·rw [e, Nat.add_mul_mod_self_left, Nat.mod_eq_of_lt h]
theorem dv_yes {A m b : Nat} (hm : 0 < m) (hb : b ≤ 1) (h : m ≤ 2 * (A % m) + b) : (2 * A + b) / m = 2 * (A / m) + 1 ∧ (2 * A + b) % m = 2 * (A % m) + b - m := by
 have h1 := Nat.mod_add_div A m
 have h2 := Nat.mod_lt A hm
 have hlt : 2 * (A % m) + b - m < m := by omega
 have e : 2 * A + b = (2 * (A % m) + b - m) + m * (2 * (A / m) + 1) := by
  rw [Nat.mul_add, Nat.mul_left_comm]; omega
 constructor
 ·rw [e, Nat.add_mul_div_left _ _ hm, Nat.div_eq_of_lt hlt, Nat.zero_add]
 ·rw [e, Nat.add_mul_mod_self_left, Nat.mod_eq_of_lt hlt]
theorem two_split {k : Nat} (hk : k < 32) : (4294967296 : Nat) = 2 ^ (31 - k) * 2 * 2 ^ k ∧ (2147483648 : Nat) = 2 ^ (31 - k) * 2 ^ k := by
 have h : (2147483648 : Nat) = 2 ^ (31 - k) * 2 ^ k := by rw [← Nat.pow_add, show 31 - k + k = 31 by omega]
 refine ⟨?_, h⟩
 have : (4294967296 : Nat) = 2 * 2147483648 := by decide
 rw [this, h]
 ac_rfl
/-- the next bit of a limb that has been moved k places up -/
theorem limb_bit {x k : Nat} (hk : k < 32) : x * 2 ^ k % 4294967296 / 2147483648 = x / 2 ^ (31 - k) % 2 := by
 obtain ⟨h1, h2⟩ := two_split hk
 rw [h1, h2, Nat.mul_mod_mul_right, Nat.mul_div_mul_right _ _ (Nat.pow_pos (by decide)), Nat.mod_mul_right_div_self]
theorem limb_up {x k : Nat} : x * 2 ^ k % 4294967296 * 2 % 4294967296 = x * 2 ^ (k + 1) % 4294967296 := by
 rw [Nat.pow_succ, ← Nat.mul_assoc, Nat.mod_mul_mod]
theorem limb_next {x k A : Nat} (hk : k < 32) : 2 * (A * 2 ^ k + x / 2 ^ (32 - k)) + x / 2 ^ (31 - k) % 2 = A * 2 ^ (k + 1) + x / 2 ^ (32 - (k + 1)) := by
 have h : x / 2 ^ (31 - k) = 2 * (x / 2 ^ (32 - k)) + x / 2 ^ (31 - k) % 2 := by
  rw [show 32 - k = (31 - k) + 1 by omega, Nat.pow_succ, ← Nat.div_div_eq_div_mul]
  omega
 rw [show 32 - (k + 1) = 31 - k by omega, Nat.pow_succ]
 generalize x / 2 ^ (31 - k) % 2 = b at *
 rw [h]
 grind
end Go.Proofs.YtglailcfgcdagaaGreat.Big
/- Results of operations on fractions: lowest terms with a limit. Conditions: none. -/
namespace Go.Proofs.YtglailcfgcdagaaGreat.Big
open Go.Proofs.YtglailcfgcdagaaGreat
/-- both numbers have at most 512 limbs -/
def fitsF (p : Int × Nat) : Prop := fits p.1 ∧ fits p.2
instance (p : Int × Nat) : Decidable (fitsF p) := inferInstanceAs (Decidable ((_ : Nat) ≤ _ ∧ (_ : Nat) ≤ _))
/-- a fraction in lowest terms, or the error of a number that is too long -/
def lowE (n : Int) (d : Nat) : (Int × Nat) × Int := if fitsF (low n d) then (low n d, 0) else ((0, 0), 4)
theorem lowE_yes {n : Int} {d : Nat} (h : fitsF (low n d)) : lowE n d = (low n d, 0) := by unfold lowE; rw [if_pos h]
theorem lowE_no {n : Int} {d : Nat} (h : ¬ fitsF (low n d)) : lowE n d = ((0, 0), 4) := by unfold lowE; rw [if_neg h]
/-- the parts of the fraction in lowest terms of sg neg n and d -/
theorem low_sg (neg : Bool) (n d : Nat) : (low (sg neg n) d).1 = sg neg (n / Nat.gcd n d) ∧ (low (sg neg n) d).2 = d / Nat.gcd n d := by
 unfold low
 simp only [natAbs_sg, and_true]
 unfold sg
 split
 ·rw [Int.neg_ediv_of_dvd (Int.ofNat_dvd.2 (Nat.gcd_dvd_left n d)), Int.natCast_ediv]
 ·rw [Int.natCast_ediv]
theorem fits_sg (neg : Bool) (n : Nat) : fits (sg neg n) ↔ (limbs n).length ≤ 512 := by unfold fits; rw [natAbs_sg]
theorem fits_nat (n : Nat) : fits (n : Int) ↔ (limbs n).length ≤ 512 := by unfold fits; rw [Int.natAbs_natCast]
end Go.Proofs.YtglailcfgcdagaaGreat.Big
/- Results of the functions on fractions, told of raw arguments (sign, limbs, sign, limbs). Conditions: none. -/
namespace Go.Proofs.YtglailcfgcdagaaGreat
open Go.RowKit Big
/-- in normal form -/
def fvB (na : Bool) (xs : List Nat) (nb : Bool) (ys : List Nat) : Bool := validB na xs && validB nb ys && !nb && decide (ys ≠ []) && decide (Nat.gcd (val xs) (val ys) = 1)
theorem validB_len {na : Bool} {xs : List Nat} (h : validB na xs = true) : xs.length ≤ 512 := by
 unfold validB at h
 split at h
 ·rename_i h0; subst h0; simp
 ·simp at h; exact h.1
theorem validB_limbs {na : Bool} {xs : List Nat} (ho : Ok xs) (h : validB na xs = true) : xs = limbs (val xs) ∧ (val xs = 0 → na = false) ∧ na = decide (sg na (val xs) < 0) := by
 obtain ⟨z, h1, h2, h3⟩ := valid_z ho h
 subst h2
 refine ⟨by rw [val_limbs], ?_, ?_⟩
 ·rw [val_limbs]; intro h0; rw [h1]; simp; omega
 ·rw [val_limbs, h1, sg_self]
theorem fvB_ok {na nb : Bool} {xs ys : List Nat} (h1 : Ok xs) (h2 : Ok ys) (h : fvB na xs nb ys = true) :
  nb = false ∧ na = decide (sg na (val xs) < 0) ∧ xs = limbs (val xs) ∧ ys = limbs (val ys) ∧ Nf (sg na (val xs), val ys) ∧ xs.length ≤ 512 ∧ ys.length ≤ 512 := by
 unfold fvB at h
 simp only [Bool.and_eq_true, decide_eq_true_eq, Bool.not_eq_true'] at h
 obtain ⟨⟨⟨⟨a, b⟩, c⟩, d⟩, e⟩ := h
 obtain ⟨p1, p2, p3⟩ := validB_limbs h1 a
 obtain ⟨q1, q2, q3⟩ := validB_limbs h2 b
 refine ⟨c, p3, p1, q1, ⟨?_, by simpa [natAbs_sg] using e⟩, validB_len a, validB_len b⟩
 rcases Nat.eq_zero_or_pos (val ys) with h0 | h0
 ·rw [h0, limbs_zero] at q1; exact absurd q1 d
 ·exact h0
def newE (x y : Int) : (Int × Nat) × Int := if y = 0 then ((0, 0), 12) else lowE (sg (decide (x < 0) != decide (y < 0)) x.natAbs) y.natAbs
def newR (na : Bool) (xs : List Nat) (nb : Bool) (ys : List Nat) : (Int × Nat) × Int := if validB na xs && validB nb ys then newE (sg na (val xs)) (sg nb (val ys)) else ((0, 0), 1)
end Go.Proofs.YtglailcfgcdagaaGreat
/- Continued fractions unfolded: what the loop of between keeps. Conditions: none. -/
namespace Go.Proofs.YtglailcfgcdagaaGreat
open Go.RowKit Big
def stepU (t : Nat) (p : Nat × Nat) : Nat × Nat := (t * p.1 + p.2, p.1)
def foldT (T : List Nat) (p : Nat × Nat) : Nat × Nat := T.foldr stepU p
def fits2 (p : Nat × Nat) : Prop := fits (p.1 : Nat) ∧ fits (p.2 : Nat)
theorem fits_mono {n m : Nat} (h : n ≤ m) (f : fits (m : Nat)) : fits (n : Nat) := by
 rw [fits_nat] at *; exact Nat.le_trans (limbs_mono h) f
theorem foldT_app (T : List Nat) (t : Nat) (p : Nat × Nat) : foldT (T ++ [t]) p = foldT T (stepU t p) := by unfold foldT; rw [List.foldr_append]; rfl
theorem foldT_mono (T : List Nat) {p q : Nat × Nat} (h1 : p.1 ≤ q.1) (h2 : p.2 ≤ q.2) : (foldT T p).1 ≤ (foldT T q).1 ∧ (foldT T p).2 ≤ (foldT T q).2 := by
 induction T with
 | nil => exact ⟨h1, h2⟩
 | cons t T ih => exact ⟨Nat.add_le_add (Nat.mul_le_mul_left _ ih.1) ih.2, ih.1⟩
theorem fits2_mono {T : List Nat} {p q : Nat × Nat} (h1 : p.1 ≤ q.1) (h2 : p.2 ≤ q.2) (f : fits2 (foldT T q)) : fits2 (foldT T p) :=
 ⟨fits_mono (foldT_mono T h1 h2).1 f.1, fits_mono (foldT_mono T h1 h2).2 f.2⟩
theorem bl_rem {n d : Nat} (hd : 0 < d) (h : d ≤ n) : bl (n % d) + 1 ≤ bl n := by
 have h1 := Nat.mod_lt n hd
 have h2 : n % d ≤ n / 2 := by
  have h3 := Nat.div_add_mod n d
  have h4 : d * 1 ≤ d * (n / d) := Nat.mul_le_mul_left _ ((Nat.le_div_iff_mul_le hd).2 (by omega))
  omega
 rw [bl_pos (show n ≠ 0 by omega)]
 have := bl_mono (n / 2) (n % d) h2
 omega
structure BInv (X : Nat × Nat) (S0 : Nat) (T : List Nat) (n d m k : Nat) : Prop where
 d0 : 0 < d
 k0 : 0 < k
 n0 : 0 < n
 le : n * k ≤ m * d
 fold : foldT T (simpl n d m k) = X
 fa : ∀ j, j ≤ T.length → fits2 (foldT (T.drop j) (n, d))
 fb : ∀ j, j ≤ T.length → fits2 (foldT (T.drop j) (m, k))
 ft : ∀ t ∈ T, fits (t : Nat)
 len : T.length + bl n + bl d + bl m + bl k ≤ S0 + min T.length 1
 big : T ≠ [] → d ≤ n ∧ k ≤ m
theorem BInv.start {n d m k : Nat} (hd : 0 < d) (hk : 0 < k) (hn : 0 < n) (h : n * k ≤ m * d) (f1 : fits (n : Nat)) (f2 : fits (d : Nat)) (f3 : fits (m : Nat)) (f4 : fits (k : Nat)) :
  BInv (simpl n d m k) (bl n + bl d + bl m + bl k) [] n d m k :=
 ⟨hd, hk, hn, h, rfl, fun j _ => by rw [List.drop_nil]; exact ⟨f1, f2⟩, fun j _ => by rw [List.drop_nil]; exact ⟨f3, f4⟩, by simp, by simp, by simp⟩
theorem BInv.f {X : Nat × Nat} {S0 : Nat} {T : List Nat} {n d m k : Nat} (h : BInv X S0 T n d m k) : fits (n : Nat) ∧ fits (d : Nat) ∧ fits (m : Nat) ∧ fits (k : Nat) := by
 have a := h.fa T.length (Nat.le_refl _)
 have b := h.fb T.length (Nat.le_refl _)
 rw [List.drop_length] at a b
 exact ⟨a.1, a.2, b.1, b.2⟩
theorem BInv.ends {X : Nat × Nat} {S0 : Nat} {T : List Nat} {n d m k l : Nat} (h : BInv X S0 T n d m k) (he : simpl n d m k = (l, 1)) : foldT T (l, 1) = X ∧ ∀ j, j ≤ T.length → fits2 (foldT (T.drop j) (l, 1)) := by
 obtain ⟨_, _, _, _, h5⟩ := simpl_spec _ n d m k (Nat.le_refl _) h.d0 h.k0 h.le
 obtain ⟨a, b⟩ := h5 n d h.d0 ⟨Nat.le_refl _, h.le⟩
 rw [he] at a b
 exact ⟨by rw [← he]; exact h.fold, fun j hj => fits2_mono a b (h.fa j hj)⟩
theorem BInv.step {X : Nat × Nat} {S0 : Nat} {T : List Nat} {n d m k : Nat} (h : BInv X S0 T n d m k) (hr : n % d ≠ 0) (hlt : ¬ n / d < m / k) : BInv X S0 (T ++ [n / d]) k (m % k) d (n % d) := by
 have he := same_floor h.d0 h.k0 h.le hlt
 have hrs := rest_le h.le he
 have hs0 : 0 < m % k := by
  rcases Nat.eq_zero_or_pos (m % k) with h1 | h1
  ·rw [h1, Nat.mul_zero] at hrs
   have : 0 < k * (n % d) := Nat.mul_pos h.k0 (by omega)
   omega
  ·exact h1
 have em : stepU (n / d) (k, m % k) = (m, k) := by unfold stepU; simp only; rw [he, Nat.mul_comm, Nat.div_add_mod]
 have en : stepU (n / d) (d, n % d) = (n, d) := by unfold stepU; simp only; rw [Nat.mul_comm, Nat.div_add_mod]
 have l1 := Nat.mod_lt m h.k0
 have l2 := Nat.mod_lt n h.d0
 obtain ⟨f1, f2, f3, f4⟩ := h.f
 refine ⟨hs0, by omega, h.k0, hrs, ?_, ?_, ?_, ?_, ?_, ?_⟩
 ·rw [foldT_app, ← h.fold, simpl_rec (by have := h.d0; omega) (by have := h.k0; omega) hr hlt]
  rfl
 ·intro j hj
  rw [List.length_append, List.length_singleton] at hj
  by_cases hjl : j ≤ T.length
  ·rw [List.drop_append_of_le_length hjl, foldT_app, em]
   exact h.fb j hjl
  ·rw [List.drop_of_length_le (by simp; omega)]
   exact ⟨f4, fits_mono (Nat.le_of_lt l1) f4⟩
 ·intro j hj
  rw [List.length_append, List.length_singleton] at hj
  by_cases hjl : j ≤ T.length
  ·rw [List.drop_append_of_le_length hjl, foldT_app, en]
   exact h.fa j hjl
  ·rw [List.drop_of_length_le (by simp; omega)]
   exact ⟨f2, fits_mono (Nat.le_of_lt l2) f2⟩
 ·intro t ht
  rcases List.mem_append.1 ht with h1 | h1
  ·exact h.ft t h1
  ·rw [List.mem_singleton] at h1
   subst h1
   exact fits_mono (Nat.div_le_self _ _) f1
 ·have hl := h.len
  rw [List.length_append, List.length_singleton]
  by_cases hT : T = []
  ·subst hT
   have b1 := bl_mono m (m % k) (Nat.mod_le _ _)
   have b2 := bl_mono n (n % d) (Nat.mod_le _ _)
   simp only [List.length_nil] at *
   omega
  ·obtain ⟨g1, g2⟩ := h.big hT
   have b1 := bl_rem h.k0 g2
   have b2 := bl_rem h.d0 g1
   have hT1 : 1 ≤ T.length := by have := List.length_pos_iff.2 hT; omega
   omega
 ·intro _
  exact ⟨by omega, by omega⟩
end Go.Proofs.YtglailcfgcdagaaGreat
