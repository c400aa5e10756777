/- Results of operations on fractions: lowest terms with a limit. Conditions: none. -/
import Derived.Test.YtfdmlfpldgobjaaGreatDoorZYA
import Derived.Test.YtfdmlfpldgobjaaGreatDoorZBiC
import Derived.Test.YtfdmlfpldgobjaaGreatDoorZYC
import Derived.Test.YtfdmlfpldgobjaaGreatDoorZBiD
set_option linter.unusedVariables false
set_option linter.unusedSimpArgs false
namespace Go.Proofs.YtfdmlfpldgobjaaGreatDoor.Big
open Go.Proofs.YtfdmlfpldgobjaaGreatDoor
/-- both numbers have at most 512 limbs -/
def fitsF (p : Int × Nat) : Prop := fits p.1 ∧ fits p.2
instance (p : Int × Nat) : Decidable (fitsF p) := inferInstanceAs (Decidable ((_ : Nat) ≤ _ ∧ (_ : Nat) ≤ _))
/-- a fraction in lowest terms, or the error of a number that is too long -/
def lowE (n : Int) (d : Nat) : (Int × Nat) × Int := if fitsF (low n d) then (low n d, 0) else ((0, 0), 4)
theorem lowE_yes {n : Int} {d : Nat} (h : fitsF (low n d)) : lowE n d = (low n d, 0) := by unfold lowE; rw [if_pos h]
theorem lowE_no {n : Int} {d : Nat} (h : ¬ fitsF (low n d)) : lowE n d = ((0, 0), 4) := by unfold lowE; rw [if_neg h]
/-- the parts of the fraction in lowest terms of sg neg n and d -/
theorem low_sg (neg : Bool) (n d : Nat) : (low (sg neg n) d).1 = sg neg (n / Nat.gcd n d) ∧ (low (sg neg n) d).2 = d / Nat.gcd n d := by
 unfold low
 simp only [natAbs_sg, and_true]
 unfold sg
 split
 ·rw [Int.neg_ediv_of_dvd (Int.ofNat_dvd.2 (Nat.gcd_dvd_left n d)), Int.natCast_ediv]
 ·rw [Int.natCast_ediv]
theorem fits_sg (neg : Bool) (n : Nat) : fits (sg neg n) ↔ (limbs n).length ≤ 512 := by unfold fits; rw [natAbs_sg]
theorem fits_nat (n : Nat) : fits (n : Int) ↔ (limbs n).length ≤ 512 := by unfold fits; rw [Int.natAbs_natCast]
end Go.Proofs.YtfdmlfpldgobjaaGreatDoor.Big
/- Results of the functions on fractions, told of raw arguments (sign, limbs, sign, limbs). Conditions: none. -/
namespace Go.Proofs.YtfdmlfpldgobjaaGreatDoor
open Go.RowKit Big
/-- in normal form -/
def fvB (na : Bool) (xs : List Nat) (nb : Bool) (ys : List Nat) : Bool := validB na xs && validB nb ys && !nb && decide (ys ≠ []) && decide (Nat.gcd (val xs) (val ys) = 1)
theorem validB_len {na : Bool} {xs : List Nat} (h : validB na xs = true) : xs.length ≤ 512 := by
 unfold validB at h
 split at h
 ·rename_i h0; subst h0; simp
 ·simp at h; exact h.1
theorem validB_limbs {na : Bool} {xs : List Nat} (ho : Ok xs) (h : validB na xs = true) : xs = limbs (val xs) ∧ (val xs = 0 → na = false) ∧ na = decide (sg na (val xs) < 0) := by
 obtain ⟨z, h1, h2, h3⟩ := valid_z ho h
 subst h2
 refine ⟨by rw [val_limbs], ?_, ?_⟩
 ·rw [val_limbs]; intro h0; rw [h1]; simp; omega
 ·rw [val_limbs, h1, sg_self]
theorem fvB_ok {na nb : Bool} {xs ys : List Nat} (h1 : Ok xs) (h2 : Ok ys) (h : fvB na xs nb ys = true) :
  nb = false ∧ na = decide (sg na (val xs) < 0) ∧ xs = limbs (val xs) ∧ ys = limbs (val ys) ∧ Nf (sg na (val xs), val ys) ∧ xs.length ≤ 512 ∧ ys.length ≤ 512 := by
 unfold fvB at h
 simp only [Bool.and_eq_true, decide_eq_true_eq, Bool.not_eq_true'] at h
 obtain ⟨⟨⟨⟨a, b⟩, c⟩, d⟩, e⟩ := h
 obtain ⟨p1, p2, p3⟩ := validB_limbs h1 a
 obtain ⟨q1, q2, q3⟩ := validB_limbs h2 b
 refine ⟨c, p3, p1, q1, ⟨?_, by simpa [natAbs_sg] using e⟩, validB_len a, validB_len b⟩
 rcases Nat.eq_zero_or_pos (val ys) with h0 | h0
 ·rw [h0, limbs_zero] at q1; exact absurd q1 d
 ·exact h0
/-- the sum of two numbers with signs, as the programs make it -/
def sumS (an : Bool) (n : Nat) (bn : Bool) (m : Nat) : Bool × Nat := if an = bn then (an, n + m) else if m ≤ n then (an, n - m) else (bn, m - n)
theorem sumS_eq {b : Bool} {n m : Nat} : sumS b n b m = (b, n + m) := by unfold sumS; rw [if_pos rfl]
theorem sumS_ge {a b : Bool} {n m : Nat} (h : a ≠ b) (hl : m ≤ n) : sumS a n b m = (a, n - m) := by unfold sumS; rw [if_neg h, if_pos hl]
theorem sumS_lt {a b : Bool} {n m : Nat} (h : a ≠ b) (hl : n < m) : sumS a n b m = (b, m - n) := by unfold sumS; rw [if_neg h, if_neg (by omega)]
theorem sumS_sg (a b : Bool) (n m : Nat) : sg (sumS a n b m).1 (sumS a n b m).2 = sg a n + sg b m := by
 unfold sumS
 split
 ·rename_i h; subst h; exact (sg_same a n m).symm
 ·rename_i h
  split
  ·rename_i h2; exact (sg_ge a b n m h h2).symm
  ·exact (sg_lt a b n m h (by omega)).symm
theorem sumS_le (a b : Bool) (n m : Nat) : (sumS a n b m).2 ≤ n + m := by unfold sumS; split <;> (try split) <;> simp <;> omega
def newE (x y : Int) : (Int × Nat) × Int := if y = 0 then ((0, 0), 12) else lowE (sg (decide (x < 0) != decide (y < 0)) x.natAbs) y.natAbs
def newR (na : Bool) (xs : List Nat) (nb : Bool) (ys : List Nat) : (Int × Nat) × Int := if validB na xs && validB nb ys then newE (sg na (val xs)) (sg nb (val ys)) else ((0, 0), 1)
def addE (f g : Int × Nat) : (Int × Nat) × Int := lowE (f.1 * g.2 + g.1 * f.2) (f.2 * g.2)
def subE (f g : Int × Nat) : (Int × Nat) × Int := lowE (f.1 * g.2 - g.1 * f.2) (f.2 * g.2)
def mulE (f g : Int × Nat) : (Int × Nat) × Int := lowE (f.1 * g.1) (f.2 * g.2)
def divE (f g : Int × Nat) : (Int × Nat) × Int := if g.1 = 0 then ((0, 0), 12) else lowE (sg (decide (f.1 < 0) != decide (g.1 < 0)) (f.1.natAbs * g.2)) (f.2 * g.1.natAbs)
/-- two raw fractions through a function, or the error of an argument -/
def opR (F : Int × Nat → Int × Nat → (Int × Nat) × Int) (na : Bool) (xs : List Nat) (nb : Bool) (ys : List Nat) (nc : Bool) (us : List Nat) (nd : Bool) (vs : List Nat) : (Int × Nat) × Int :=
 if fvB na xs nb ys && fvB nc us nd vs then F (sg na (val xs), val ys) (sg nc (val us), val vs) else ((0, 0), 1)
def cmpF (f g : Int × Nat) : Int := zord (f.1 * g.2) (g.1 * f.2)
def cmpR (na : Bool) (xs : List Nat) (nb : Bool) (ys : List Nat) (nc : Bool) (us : List Nat) (nd : Bool) (vs : List Nat) : Int × Int :=
 if fvB na xs nb ys && fvB nc us nd vs then (cmpF (sg na (val xs), val ys) (sg nc (val us), val vs), 0) else (0, 1)
def flrF (f : Int × Nat) : Int := f.1 / f.2
def rndF (f : Int × Nat) : Int := (2 * f.1 + f.2) / (2 * f.2)
def intR (F : Int × Nat → Int) (na : Bool) (xs : List Nat) (nb : Bool) (ys : List Nat) : Int × Int := if fvB na xs nb ys then (F (sg na (val xs), val ys), 0) else (0, 1)
end Go.Proofs.YtfdmlfpldgobjaaGreatDoor
/- Continued fractions unfolded: what the loop of between keeps. Conditions: none. -/
namespace Go.Proofs.YtfdmlfpldgobjaaGreatDoor
open Go.RowKit Big
def stepU (t : Nat) (p : Nat × Nat) : Nat × Nat := (t * p.1 + p.2, p.1)
def foldT (T : List Nat) (p : Nat × Nat) : Nat × Nat := T.foldr stepU p
def fits2 (p : Nat × Nat) : Prop := fits (p.1 : Nat) ∧ fits (p.2 : Nat)
theorem fits_mono {n m : Nat} (h : n ≤ m) (f : fits (m : Nat)) : fits (n : Nat) := by
 rw [fits_nat] at *; exact Nat.le_trans (limbs_mono h) f
theorem foldT_app (T : List Nat) (t : Nat) (p : Nat × Nat) : foldT (T ++ [t]) p = foldT T (stepU t p) := by unfold foldT; rw [List.foldr_append]; rfl
theorem foldT_mono (T : List Nat) {p q : Nat × Nat} (h1 : p.1 ≤ q.1) (h2 : p.2 ≤ q.2) : (foldT T p).1 ≤ (foldT T q).1 ∧ (foldT T p).2 ≤ (foldT T q).2 := by
 induction T with
 | nil => exact ⟨h1, h2⟩
 | cons t T ih => exact ⟨Nat.add_le_add (Nat.mul_le_mul_left _ ih.1) ih.2, ih.1⟩
theorem fits2_mono {T : List Nat} {p q : Nat × Nat} (h1 : p.1 ≤ q.1) (h2 : p.2 ≤ q.2) (f : fits2 (foldT T q)) : fits2 (foldT T p) :=
 ⟨fits_mono (foldT_mono T h1 h2).1 f.1, fits_mono (foldT_mono T h1 h2).2 f.2⟩
theorem bl_rem {n d : Nat} (hd : 0 < d) (h : d ≤ n) : bl (n % d) + 1 ≤ bl n := by
 have h1 := Nat.mod_lt n hd
 have h2 : n % d ≤ n / 2 := by
  have h3 := Nat.div_add_mod n d
  have h4 : d * 1 ≤ d * (n / d) := Nat.mul_le_mul_left _ ((Nat.le_div_iff_mul_le hd).2 (by omega))
  omega
 rw [bl_pos (show n ≠ 0 by omega)]
 have := bl_mono (n / 2) (n % d) h2
 omega
structure BInv (X : Nat × Nat) (S0 : Nat) (T : List Nat) (n d m k : Nat) : Prop where
 d0 : 0 < d
 k0 : 0 < k
 n0 : 0 < n
 le : n * k ≤ m * d
 fold : foldT T (simpl n d m k) = X
 fa : ∀ j, j ≤ T.length → fits2 (foldT (T.drop j) (n, d))
 fb : ∀ j, j ≤ T.length → fits2 (foldT (T.drop j) (m, k))
 ft : ∀ t ∈ T, fits (t : Nat)
 len : T.length + bl n + bl d + bl m + bl k ≤ S0 + min T.length 1
 big : T ≠ [] → d ≤ n ∧ k ≤ m
theorem BInv.start {n d m k : Nat} (hd : 0 < d) (hk : 0 < k) (hn : 0 < n) (h : n * k ≤ m * d) (f1 : fits (n : Nat)) (f2 : fits (d : Nat)) (f3 : fits (m : Nat)) (f4 : fits (k : Nat)) :
  BInv (simpl n d m k) (bl n + bl d + bl m + bl k) [] n d m k :=
 ⟨hd, hk, hn, h, rfl, fun j _ => by rw [List.drop_nil]; exact ⟨f1, f2⟩, fun j _ => by rw [List.drop_nil]; exact ⟨f3, f4⟩, by simp, by simp, by simp⟩
theorem BInv.f {X : Nat × Nat} {S0 : Nat} {T : List Nat} {n d m k : Nat} (h : BInv X S0 T n d m k) : fits (n : Nat) ∧ fits (d : Nat) ∧ fits (m : Nat) ∧ fits (k : Nat) := by
 have a := h.fa T.length (Nat.le_refl _)
 have b := h.fb T.length (Nat.le_refl _)
 rw [List.drop_length] at a b
 exact ⟨a.1, a.2, b.1, b.2⟩
theorem BInv.ends {X : Nat × Nat} {S0 : Nat} {T : List Nat} {n d m k l : Nat} (h : BInv X S0 T n d m k) (he : simpl n d m k = (l, 1)) : foldT T (l, 1) = X ∧ ∀ j, j ≤ T.length → fits2 (foldT (T.drop j) (l, 1)) := by
 obtain ⟨_, _, _, _, h5⟩ := simpl_spec _ n d m k (Nat.le_refl _) h.d0 h.k0 h.le
 obtain ⟨a, b⟩ := h5 n d h.d0 ⟨Nat.le_refl _, h.le⟩
 rw [he] at a b
 exact ⟨by rw [← he]; exact h.fold, fun j hj => fits2_mono a b (h.fa j hj)⟩
theorem BInv.step {X : Nat × Nat} {S0 : Nat} {T : List Nat} {n d m k : Nat} (h : BInv X S0 T n d m k) (hr : n % d ≠ 0) (hlt : ¬ n / d < m / k) : BInv X S0 (T ++ [n / d]) k (m % k) d (n % d) := by
 have he := same_floor h.d0 h.k0 h.le hlt
 have hrs := rest_le h.le he
 have hs0 : 0 < m % k := by
  rcases Nat.eq_zero_or_pos (m % k) with h1 | h1
  ·rw [h1, Nat.mul_zero] at hrs
   have : 0 < k * (n % d) := Nat.mul_pos h.k0 (by omega)
   omega
  ·exact h1
 have em : stepU (n / d) (k, m % k) = (m, k) := by unfold stepU; simp only; rw [he, Nat.mul_comm, Nat.div_add_mod]
 have en : stepU (n / d) (d, n % d) = (n, d) := by unfold stepU; simp only; rw [Nat.mul_comm, Nat.div_add_mod]
 have l1 := Nat.mod_lt m h.k0
 have l2 := Nat.mod_lt n h.d0
 obtain ⟨f1, f2, f3, f4⟩ := h.f
 refine ⟨hs0, by omega, h.k0, hrs, ?_, ?_, ?_, ?_, ?_, ?_⟩
 ·rw [foldT_app, ← h.fold, simpl_rec (by have := h.d0; omega) (by have := h.k0; omega) hr hlt]
  rfl
 ·intro j hj
  rw [List.length_append, List.length_singleton] at hj
  by_cases hjl : j ≤ T.length
  ·rw [List.drop_append_of_le_length hjl, foldT_app, em]
   exact h.fb j hjl
  ·rw [List.drop_of_length_le (by simp; omega)]
   exact ⟨f4, fits_mono (Nat.le_of_lt l1) f4⟩
 ·intro j hj
  rw [List.length_append, List.length_singleton] at hj
  by_cases hjl : j ≤ T.length
  ·rw [List.drop_append_of_le_length hjl, foldT_app, en]
   exact h.fa j hjl
  ·rw [List.drop_of_length_le (by simp; omega)]
   exact ⟨f2, fits_mono (Nat.le_of_lt l2) f2⟩
 ·intro t ht
  rcases List.mem_append.1 ht with h1 | h1
  ·exact h.ft t h1
  ·rw [List.mem_singleton] at h1
   subst h1
   exact fits_mono (Nat.div_le_self _ _) f1
 ·have hl := h.len
  rw [List.length_append, List.length_singleton]
  by_cases hT : T = []
  ·subst hT
   have b1 := bl_mono m (m % k) (Nat.mod_le _ _)
   have b2 := bl_mono n (n % d) (Nat.mod_le _ _)
   simp only [List.length_nil] at *
   omega
  ·obtain ⟨g1, g2⟩ := h.big hT
   have b1 := bl_rem h.k0 g2
   have b2 := bl_rem h.d0 g1
   have hT1 : 1 ≤ T.length := by have := List.length_pos_iff.2 hT; omega
   omega
 ·intro _
  exact ⟨by omega, by omega⟩
end Go.Proofs.YtfdmlfpldgobjaaGreatDoor
/- The simplest fraction between two: what package and reference compute. Conditions: none. -/
namespace Go.Proofs.YtfdmlfpldgobjaaGreatDoor
open Go.RowKit Big
theorem newE_low {a b : Nat} (hb : 0 < b) (h : Nat.gcd a b = 1) (fa : fits (a : Nat)) (fb : fits (b : Nat)) : newE (a : Nat) (b : Nat) = (((a : Int), b), 0) := by
 unfold newE
 rw [if_neg (by omega)]
 have e1 : (decide ((a : Int) < 0) != decide ((b : Int) < 0)) = false := by
  rw [decide_eq_false (by omega : ¬ (a : Int) < 0), decide_eq_false (by omega : ¬ (b : Int) < 0)]; rfl
 rw [e1, Int.natAbs_natCast, Int.natAbs_natCast]
 have hl := low_sg false a b
 have h1 : low (sg false a) b = ((a : Int), b) := by
  rw [h, Nat.div_one, Nat.div_one] at hl
  exact Prod.ext hl.1 hl.2
 rw [lowE_yes (by rw [h1]; exact ⟨fa, fb⟩), h1]
theorem simpl_new {n d m k : Nat} (hd : 0 < d) (hk : 0 < k) (hn : 0 < n) (h : n * k ≤ m * d) (fn : fits (n : Nat)) (fd : fits (d : Nat)) : newE ((simpl n d m k).1 : Nat) ((simpl n d m k).2 : Nat) = ((((simpl n d m k).1 : Int), (simpl n d m k).2), 0) := by
 obtain ⟨_, h2, h3, _, h5⟩ := simpl_spec _ n d m k (Nat.le_refl _) hd hk h
 obtain ⟨a, b⟩ := h5 n d hd ⟨Nat.le_refl _, h⟩
 exact newE_low h2 h3 (fits_mono a fn) (fits_mono b fd)
def simE (f g : Int × Nat) : (Int × Nat) × Int :=
 if 0 < cmpF f g then ((0, 0), 3)
 else if g.1 < 0 then ((-((simpl g.1.natAbs g.2 f.1.natAbs f.2).1 : Int), (simpl g.1.natAbs g.2 f.1.natAbs f.2).2), 0)
 else if f.1 ≤ 0 then ((0, 1), 0)
 else (((simpl f.1.natAbs f.2 g.1.natAbs g.2).1, (simpl f.1.natAbs f.2 g.1.natAbs g.2).2), 0)
end Go.Proofs.YtfdmlfpldgobjaaGreatDoor
/- The simplest fraction: what the tests of Simplest say. Conditions: none. -/
namespace Go.Proofs.YtfdmlfpldgobjaaGreatDoor
open Go.RowKit Big
theorem neg_mulD' {f : Int × Nat} {d : Nat} (hd : 0 < d) : decide (f.1 * (d : Int) < 0) = decide (f.1 < 0) := by
 rw [Bool.eq_iff_iff]
 simp only [decide_eq_true_eq]
 constructor
 ·intro h
  rcases (show f.1 < 0 ∨ 0 ≤ f.1 by omega) with h1 | h1
  ·exact h1
  ·have := Int.mul_nonneg h1 (show 0 ≤ (d : Int) by omega); omega
 ·intro h; exact Int.mul_neg_of_neg_of_pos h (by omega)
theorem abs_mulD' {f : Int × Nat} {d : Nat} : (f.1 * (d : Int)).natAbs = f.1.natAbs * d := by rw [Int.natAbs_mul, Int.natAbs_natCast]
theorem base_pow (k : Nat) : (4294967296 : Nat) ^ k = 2 ^ (32 * k) := by rw [show (4294967296 : Nat) = 2 ^ 32 by decide, ← Nat.pow_mul]
theorem limbs_bits (n K : Nat) : (limbs n).length ≤ K ↔ n < 2 ^ (32 * K) := by rw [limbs_len_iff, base_pow]
theorem bl_limbs {n K : Nat} (h : (limbs n).length ≤ K) : bl n ≤ 32 * K := bl_le _ _ ((limbs_bits n K).1 h)
theorem bl_fits {n : Nat} (f : fits (n : Nat)) : bl n ≤ 16384 := by
 have := bl_limbs ((fits_nat n).1 f)
 omega
theorem limbs_of_bits {n k K : Nat} (h : n < 2 ^ k) (hk : k ≤ 32 * K) : (limbs n).length ≤ K := (limbs_bits n K).2 (Nat.lt_of_lt_of_le h (Nat.pow_le_pow_right (by omega) hk))
theorem simpl_le {n d m k : Nat} (hd : 0 < d) (hk : 0 < k) (h : n * k ≤ m * d) : (simpl n d m k).1 ≤ n ∧ (simpl n d m k).2 ≤ d := by
 obtain ⟨_, h2, h3, _, h5⟩ := simpl_spec _ n d m k (Nat.le_refl _) hd hk h
 exact h5 n d hd ⟨Nat.le_refl _, h⟩
theorem cmp_le {f g : Int × Nat} (h : ¬ 0 < cmpF f g) : f.1 * g.2 ≤ g.1 * f.2 := by
 unfold cmpF zord at h
 split at h
 ·omega
 ·split at h <;> omega
theorem cmp_negs {f g : Int × Nat} (h : ¬ 0 < cmpF f g) (hg : g.1 < 0) (hf : 0 < f.2) (hd : 0 < g.2) : f.1 < 0 ∧ g.1.natAbs * f.2 ≤ f.1.natAbs * g.2 := by
 have h1 := cmp_le h
 have h2 : g.1 * (f.2 : Int) < 0 := Int.mul_neg_of_neg_of_pos hg (by omega)
 have h3 : f.1 * (g.2 : Int) < 0 := by omega
 rw [← abs_mulD', ← abs_mulD']
 refine ⟨?_, by omega⟩
 have := neg_mulD' (f := f) hd
 rw [decide_eq_decide] at this
 exact this.1 h3
theorem cmp_poss {f g : Int × Nat} (h : ¬ 0 < cmpF f g) (hf : 0 ≤ f.1) (hg : 0 ≤ g.1) : f.1.natAbs * g.2 ≤ g.1.natAbs * f.2 := by
 have h1 := cmp_le h
 have h2 : 0 ≤ g.1 * (f.2 : Int) := Int.mul_nonneg hg (by omega)
 have h3 : 0 ≤ f.1 * (g.2 : Int) := Int.mul_nonneg hf (by omega)
 rw [← abs_mulD', ← abs_mulD']
 omega
end Go.Proofs.YtfdmlfpldgobjaaGreatDoor
