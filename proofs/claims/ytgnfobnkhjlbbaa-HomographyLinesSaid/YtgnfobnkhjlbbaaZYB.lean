/- Results of operations on fractions: lowest terms with a limit. Conditions: none. -/
import Derived.Test.YtgnfobnkhjlbbaaZYA
import Derived.Test.YtgnfobnkhjlbbaaZBiC
import Derived.Test.YtgnfobnkhjlbbaaZYC
import Derived.Test.YtgnfobnkhjlbbaaZBiD
set_option linter.unusedVariables false
set_option linter.unusedSimpArgs false
namespace Go.Proofs.Ytgnfobnkhjlbbaa.Big
open Go.Proofs.Ytgnfobnkhjlbbaa

/-- both numbers have at most 512 limbs -/
def fitsF (p : Int × Nat) : Prop := fits p.1 ∧ fits p.2
instance (p : Int × Nat) : Decidable (fitsF p) := inferInstanceAs (Decidable ((_ : Nat) ≤ _ ∧ (_ : Nat) ≤ _))
/-- a fraction in lowest terms, or the error of a number that is too long -/
def lowE (n : Int) (d : Nat) : (Int × Nat) × Int := if fitsF (low n d) then (low n d, 0) else ((0, 0), 4)
theorem lowE_yes {n : Int} {d : Nat} (h : fitsF (low n d)) : lowE n d = (low n d, 0) := by unfold lowE; rw [if_pos h]
theorem lowE_no {n : Int} {d : Nat} (h : ¬ fitsF (low n d)) : lowE n d = ((0, 0), 4) := by unfold lowE; rw [if_neg h]
/-- the parts of the fraction in lowest terms of sg neg n and d -/
theorem low_sg (neg : Bool) (n d : Nat) : (low (sg neg n) d).1 = sg neg (n / Nat.gcd n d) ∧ (low (sg neg n) d).2 = d / Nat.gcd n d := by
  unfold low
  simp only [natAbs_sg, and_true]
  unfold sg
  split
  · rw [Int.neg_ediv_of_dvd (Int.ofNat_dvd.2 (Nat.gcd_dvd_left n d)), Int.natCast_ediv]
  · rw [Int.natCast_ediv]
theorem fits_sg (neg : Bool) (n : Nat) : fits (sg neg n) ↔ (limbs n).length ≤ 512 := by unfold fits; rw [natAbs_sg]
theorem fits_nat (n : Nat) : fits (n : Int) ↔ (limbs n).length ≤ 512 := by unfold fits; rw [Int.natAbs_natCast]
end Go.Proofs.Ytgnfobnkhjlbbaa.Big
/- Results of the functions on fractions, told of raw arguments (sign, limbs, sign, limbs). Conditions: none. -/
namespace Go.Proofs.Ytgnfobnkhjlbbaa
open Go.RowKit Big

/-- in normal form -/
def fvB (na : Bool) (xs : List Nat) (nb : Bool) (ys : List Nat) : Bool := validB na xs && validB nb ys && !nb && decide (ys ≠ []) && decide (Nat.gcd (val xs) (val ys) = 1)
theorem validB_len {na : Bool} {xs : List Nat} (h : validB na xs = true) : xs.length ≤ 512 := by
  unfold validB at h
  split at h
  · rename_i h0; subst h0; simp
  · simp at h; exact h.1
theorem validB_limbs {na : Bool} {xs : List Nat} (ho : Ok xs) (h : validB na xs = true) : xs = limbs (val xs) ∧ (val xs = 0 → na = false) ∧ na = decide (sg na (val xs) < 0) := by
  obtain ⟨z, h1, h2, h3⟩ := valid_z ho h
  subst h2
  refine ⟨by rw [val_limbs], ?_, ?_⟩
  · rw [val_limbs]; intro h0; rw [h1]; simp; omega
  · rw [val_limbs, h1, sg_self]
theorem fvB_ok {na nb : Bool} {xs ys : List Nat} (h1 : Ok xs) (h2 : Ok ys) (h : fvB na xs nb ys = true) :
    nb = false ∧ na = decide (sg na (val xs) < 0) ∧ xs = limbs (val xs) ∧ ys = limbs (val ys) ∧ Nf (sg na (val xs), val ys) ∧ xs.length ≤ 512 ∧ ys.length ≤ 512 := by
  unfold fvB at h
  simp only [Bool.and_eq_true, decide_eq_true_eq, Bool.not_eq_true'] at h
  obtain ⟨⟨⟨⟨a, b⟩, c⟩, d⟩, e⟩ := h
  obtain ⟨p1, p2, p3⟩ := validB_limbs h1 a
  obtain ⟨q1, q2, q3⟩ := validB_limbs h2 b
  refine ⟨c, p3, p1, q1, ⟨?_, by simpa [natAbs_sg] using e⟩, validB_len a, validB_len b⟩
  rcases Nat.eq_zero_or_pos (val ys) with h0 | h0
  · rw [h0, limbs_zero] at q1; exact absurd q1 d
  · exact h0
/-- the sum of two numbers with signs, as the programs make it -/
def sumS (an : Bool) (n : Nat) (bn : Bool) (m : Nat) : Bool × Nat := if an = bn then (an, n + m) else if m ≤ n then (an, n - m) else (bn, m - n)
theorem sumS_eq {b : Bool} {n m : Nat} : sumS b n b m = (b, n + m) := by unfold sumS; rw [if_pos rfl]
theorem sumS_ge {a b : Bool} {n m : Nat} (h : a ≠ b) (hl : m ≤ n) : sumS a n b m = (a, n - m) := by unfold sumS; rw [if_neg h, if_pos hl]
theorem sumS_lt {a b : Bool} {n m : Nat} (h : a ≠ b) (hl : n < m) : sumS a n b m = (b, m - n) := by unfold sumS; rw [if_neg h, if_neg (by omega)]
theorem sumS_sg (a b : Bool) (n m : Nat) : sg (sumS a n b m).1 (sumS a n b m).2 = sg a n + sg b m := by
  unfold sumS
  split
  · rename_i h; subst h; exact (sg_same a n m).symm
  · rename_i h
    split
    · rename_i h2; exact (sg_ge a b n m h h2).symm
    · exact (sg_lt a b n m h (by omega)).symm
theorem sumS_le (a b : Bool) (n m : Nat) : (sumS a n b m).2 ≤ n + m := by unfold sumS; split <;> (try split) <;> simp <;> omega
def newE (x y : Int) : (Int × Nat) × Int := if y = 0 then ((0, 0), 12) else lowE (sg (decide (x < 0) != decide (y < 0)) x.natAbs) y.natAbs
def newR (na : Bool) (xs : List Nat) (nb : Bool) (ys : List Nat) : (Int × Nat) × Int := if validB na xs && validB nb ys then newE (sg na (val xs)) (sg nb (val ys)) else ((0, 0), 1)
def addE (f g : Int × Nat) : (Int × Nat) × Int := lowE (f.1 * g.2 + g.1 * f.2) (f.2 * g.2)
def subE (f g : Int × Nat) : (Int × Nat) × Int := lowE (f.1 * g.2 - g.1 * f.2) (f.2 * g.2)
def mulE (f g : Int × Nat) : (Int × Nat) × Int := lowE (f.1 * g.1) (f.2 * g.2)
/-- two raw fractions through a function, or the error of an argument -/
def opR (F : Int × Nat → Int × Nat → (Int × Nat) × Int) (na : Bool) (xs : List Nat) (nb : Bool) (ys : List Nat) (nc : Bool) (us : List Nat) (nd : Bool) (vs : List Nat) : (Int × Nat) × Int :=
  if fvB na xs nb ys && fvB nc us nd vs then F (sg na (val xs), val ys) (sg nc (val us), val vs) else ((0, 0), 1)
end Go.Proofs.Ytgnfobnkhjlbbaa
/- Continued fractions unfolded: what the loop of between keeps. Conditions: none. -/
namespace Go.Proofs.Ytgnfobnkhjlbbaa
open Go.RowKit Big

def stepU (t : Nat) (p : Nat × Nat) : Nat × Nat := (t * p.1 + p.2, p.1)
def foldT (T : List Nat) (p : Nat × Nat) : Nat × Nat := T.foldr stepU p
def fits2 (p : Nat × Nat) : Prop := fits (p.1 : Nat) ∧ fits (p.2 : Nat)
theorem fits_mono {n m : Nat} (h : n ≤ m) (f : fits (m : Nat)) : fits (n : Nat) := by
  rw [fits_nat] at *; exact Nat.le_trans (limbs_mono h) f
theorem foldT_app (T : List Nat) (t : Nat) (p : Nat × Nat) : foldT (T ++ [t]) p = foldT T (stepU t p) := by unfold foldT; rw [List.foldr_append]; rfl
theorem bl_rem {n d : Nat} (hd : 0 < d) (h : d ≤ n) : bl (n % d) + 1 ≤ bl n := by
  have h1 := Nat.mod_lt n hd
  have h2 : n % d ≤ n / 2 := by
    have h3 := Nat.div_add_mod n d
    have h4 : d * 1 ≤ d * (n / d) := Nat.mul_le_mul_left _ ((Nat.le_div_iff_mul_le hd).2 (by omega))
    omega
  rw [bl_pos (show n ≠ 0 by omega)]
  have := bl_mono (n / 2) (n % d) h2
  omega
structure BInv (X : Nat × Nat) (S0 : Nat) (T : List Nat) (n d m k : Nat) : Prop where
  d0 : 0 < d
  k0 : 0 < k
  n0 : 0 < n
  le : n * k ≤ m * d
  fold : foldT T (simpl n d m k) = X
  fa : ∀ j, j ≤ T.length → fits2 (foldT (T.drop j) (n, d))
  fb : ∀ j, j ≤ T.length → fits2 (foldT (T.drop j) (m, k))
  ft : ∀ t ∈ T, fits (t : Nat)
  len : T.length + bl n + bl d + bl m + bl k ≤ S0 + min T.length 1
  big : T ≠ [] → d ≤ n ∧ k ≤ m
theorem BInv.start {n d m k : Nat} (hd : 0 < d) (hk : 0 < k) (hn : 0 < n) (h : n * k ≤ m * d) (f1 : fits (n : Nat)) (f2 : fits (d : Nat)) (f3 : fits (m : Nat)) (f4 : fits (k : Nat)) :
    BInv (simpl n d m k) (bl n + bl d + bl m + bl k) [] n d m k :=
  ⟨hd, hk, hn, h, rfl, fun j _ => by rw [List.drop_nil]; exact ⟨f1, f2⟩, fun j _ => by rw [List.drop_nil]; exact ⟨f3, f4⟩, by simp, by simp, by simp⟩
theorem BInv.f {X : Nat × Nat} {S0 : Nat} {T : List Nat} {n d m k : Nat} (h : BInv X S0 T n d m k) : fits (n : Nat) ∧ fits (d : Nat) ∧ fits (m : Nat) ∧ fits (k : Nat) := by
  have a := h.fa T.length (Nat.le_refl _)
  have b := h.fb T.length (Nat.le_refl _)
  rw [List.drop_length] at a b
  exact ⟨a.1, a.2, b.1, b.2⟩
theorem BInv.step {X : Nat × Nat} {S0 : Nat} {T : List Nat} {n d m k : Nat} (h : BInv X S0 T n d m k) (hr : n % d ≠ 0) (hlt : ¬ n / d < m / k) : BInv X S0 (T ++ [n / d]) k (m % k) d (n % d) := by
  have he := same_floor h.d0 h.k0 h.le hlt
  have hrs := rest_le h.le he
  have hs0 : 0 < m % k := by
    rcases Nat.eq_zero_or_pos (m % k) with h1 | h1
    · rw [h1, Nat.mul_zero] at hrs
      have : 0 < k * (n % d) := Nat.mul_pos h.k0 (by omega)
      omega
    · exact h1
  have em : stepU (n / d) (k, m % k) = (m, k) := by unfold stepU; simp only; rw [he, Nat.mul_comm, Nat.div_add_mod]
  have en : stepU (n / d) (d, n % d) = (n, d) := by unfold stepU; simp only; rw [Nat.mul_comm, Nat.div_add_mod]
  have l1 := Nat.mod_lt m h.k0
  have l2 := Nat.mod_lt n h.d0
  obtain ⟨f1, f2, f3, f4⟩ := h.f
  refine ⟨hs0, by omega, h.k0, hrs, ?_, ?_, ?_, ?_, ?_, ?_⟩
  · rw [foldT_app, ← h.fold, simpl_rec (by have := h.d0; omega) (by have := h.k0; omega) hr hlt]
    rfl
  · intro j hj
    rw [List.length_append, List.length_singleton] at hj
    by_cases hjl : j ≤ T.length
    · rw [List.drop_append_of_le_length hjl, foldT_app, em]
      exact h.fb j hjl
    · rw [List.drop_of_length_le (by simp; omega)]
      exact ⟨f4, fits_mono (Nat.le_of_lt l1) f4⟩
  · intro j hj
    rw [List.length_append, List.length_singleton] at hj
    by_cases hjl : j ≤ T.length
    · rw [List.drop_append_of_le_length hjl, foldT_app, en]
      exact h.fa j hjl
    · rw [List.drop_of_length_le (by simp; omega)]
      exact ⟨f2, fits_mono (Nat.le_of_lt l2) f2⟩
  · intro t ht
    rcases List.mem_append.1 ht with h1 | h1
    · exact h.ft t h1
    · rw [List.mem_singleton] at h1
      subst h1
      exact fits_mono (Nat.div_le_self _ _) f1
  · have hl := h.len
    rw [List.length_append, List.length_singleton]
    by_cases hT : T = []
    · subst hT
      have b1 := bl_mono m (m % k) (Nat.mod_le _ _)
      have b2 := bl_mono n (n % d) (Nat.mod_le _ _)
      simp only [List.length_nil] at *
      omega
    · obtain ⟨g1, g2⟩ := h.big hT
      have b1 := bl_rem h.k0 g2
      have b2 := bl_rem h.d0 g1
      have hT1 : 1 ≤ T.length := by have := List.length_pos_iff.2 hT; omega
      omega
  · intro _
    exact ⟨by omega, by omega⟩
end Go.Proofs.Ytgnfobnkhjlbbaa
/- The simplest fraction between two: what package and reference compute. Conditions: none. -/
namespace Go.Proofs.Ytgnfobnkhjlbbaa
open Go.RowKit Big
end Go.Proofs.Ytgnfobnkhjlbbaa
/- The simplest fraction: what the tests of Simplest say. Conditions: none. -/
namespace Go.Proofs.Ytgnfobnkhjlbbaa
open Go.RowKit Big
theorem base_pow (k : Nat) : (4294967296 : Nat) ^ k = 2 ^ (32 * k) := by rw [show (4294967296 : Nat) = 2 ^ 32 by decide, ← Nat.pow_mul]
theorem limbs_bits (n K : Nat) : (limbs n).length ≤ K ↔ n < 2 ^ (32 * K) := by rw [limbs_len_iff, base_pow]
theorem limbs_of_bits {n k K : Nat} (h : n < 2 ^ k) (hk : k ≤ 32 * K) : (limbs n).length ≤ K := (limbs_bits n K).2 (Nat.lt_of_lt_of_le h (Nat.pow_le_pow_right (by omega) hk))
end Go.Proofs.Ytgnfobnkhjlbbaa
