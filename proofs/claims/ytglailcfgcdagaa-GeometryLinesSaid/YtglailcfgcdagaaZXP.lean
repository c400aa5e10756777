/- The simplest fraction between two: what package and reference compute. Conditions: none. -/
import Derived.Test.YtglailcfgcdagaaZYA
import Derived.Test.YtglailcfgcdagaaZYE
import Derived.Test.YtglailcfgcdagaaZNtA
import Derived.Test.YtglailcfgcdagaaZYM2
import Derived.Shelf.Strings.Cut
import Derived.Test.YtglailcfgcdagaaZYI
set_option linter.unusedVariables false
set_option linter.unusedSimpArgs false
namespace Go.Proofs.Ytglailcfgcdagaa
open Go.RowKit Big
end Go.Proofs.Ytglailcfgcdagaa
/- The simplest fraction: what the tests of Simplest say. Conditions: none. -/
namespace Go.Proofs.Ytglailcfgcdagaa
open Go.RowKit Big
theorem base_pow (k : Nat) : (4294967296 : Nat) ^ k = 2 ^ (32 * k) := by rw [show (4294967296 : Nat) = 2 ^ 32 by decide, ← Nat.pow_mul]
theorem limbs_bits (n K : Nat) : (limbs n).length ≤ K ↔ n < 2 ^ (32 * K) := by rw [limbs_len_iff, base_pow]
theorem limbs_of_bits {n k K : Nat} (h : n < 2 ^ k) (hk : k ≤ 32 * K) : (limbs n).length ≤ K := (limbs_bits n K).2 (Nat.lt_of_lt_of_le h (Nat.pow_le_pow_right (by omega) hk))
end Go.Proofs.Ytglailcfgcdagaa
/- Plain facts on texts and digits: they restore the number. Conditions: none. -/
namespace Go.Proofs.Ytglailcfgcdagaa
open Go.RowKit Big Go.Lib
end Go.Proofs.Ytglailcfgcdagaa
/- The reference: walks of short, longer. Conditions: none. -/
namespace Go.Proofs.Ytglailcfgcdagaa
open Go.RowKit Big
end Go.Proofs.Ytglailcfgcdagaa
/- The reference: walks of FromDigits, Digits. Conditions: none. -/
namespace Go.Proofs.Ytglailcfgcdagaa
open Go.RowKit Big
end Go.Proofs.Ytglailcfgcdagaa
/- The reference: the walk of Digits. Conditions: none. -/
namespace Go.Proofs.Ytglailcfgcdagaa
open Go.RowKit Big
theorem Mg.far {w : World} {A : Option Addr} {c : Nat} {xs : List Nat} (h : Mg w A c xs) (hl : 0 < xs.length) : ∀ p, A = some p → p.block < w.heap.size := by
 intro p hp
 obtain ⟨b, o, e, hB, _⟩ := h.rd hl
 rw [e] at hp
 injection hp with hp
 subst hp
 exact hB
end Go.Proofs.Ytglailcfgcdagaa
/- Texts of fractions: what Format and Parse answer. Conditions: none. -/
namespace Go.Proofs.Ytglailcfgcdagaa
open Go.RowKit Big Go.Lib
theorem newE_nf {f : Int × Nat} (h : Nf f) (f1 : fits f.1) (f2 : fits (f.2 : Nat)) : newE f.1 (f.2 : Nat) = (f, 0) := by
 unfold newE
 have h0 := h.1
 rw [if_neg (by omega)]
 have e1 : (decide (f.1 < 0) != decide ((f.2 : Int) < 0)) = decide (f.1 < 0) := by
  rw [decide_eq_false (by omega : ¬ (f.2 : Int) < 0)]; simp
 rw [e1, Int.natAbs_natCast, sg_self]
 have hl := low_self (n := f.1) (d := f.2) h
 rw [lowE_yes (by rw [hl]; exact ⟨f1, f2⟩), hl]
end Go.Proofs.Ytglailcfgcdagaa
/- Valid fractions and what the functions answer at them; the examples' numbers. Conditions: none. -/
namespace Go.Proofs.Ytglailcfgcdagaa
open Go.RowKit Big
/-- in lowest terms, both numbers of at most 512 limbs -/
structure Vf (f : Int × Nat) : Prop where
 nf : Nf f
 f1 : fits f.1
 f2 : fits (f.2 : Nat)
theorem Fz.valid {f : Int × Nat} {b : Bool} {k l : Nat} {xs ys : List Nat} (h : Fz f b k xs l ys) (v : Vf f) : fvB b xs false ys = true := by
 obtain ⟨rfl, rfl, rfl, rfl, rfl⟩ := h
 unfold fvB
 have v1 := validB_z v.f1
 have v2 := validB_z (z := (f.2 : Int)) v.f2
 rw [Int.natAbs_natCast, show decide ((f.2 : Int) < 0) = false by simp] at v2
 have h0 := v.nf.1
 have h1 : limbs f.2 ≠ [] := fun h => by have := limbs_eq_nil.1 h; omega
 rw [v1, v2, val_limbs, val_limbs, decide_eq_true h1, decide_eq_true v.nf.2]
 rfl
theorem Fz.pair {f : Int × Nat} {b : Bool} {k l : Nat} {xs ys : List Nat} (h : Fz f b k xs l ys) : (sg b (val xs), val ys) = f := by
 obtain ⟨rfl, rfl, rfl, rfl, rfl⟩ := h
 rw [val_limbs, val_limbs, sg_self]
theorem opR_f {E : Int × Nat → Int × Nat → (Int × Nat) × Int} {f g : Int × Nat} {b b' : Bool} {k l k' l' : Nat} {xs ys us vs : List Nat} (hf : Fz f b k xs l ys) (hg : Fz g b' k' us l' vs) (vf : Vf f) (vg : Vf g) : opR E b xs false ys b' us false vs = E f g := by
 unfold opR; rw [hf.valid vf, hg.valid vg, hf.pair, hg.pair]; rfl
end Go.Proofs.Ytglailcfgcdagaa
/- Sizes of results on fractions; the laws of a field on what the functions answer. Conditions: none. -/
namespace Go.Proofs.Ytglailcfgcdagaa
open Go.RowKit Big
/-- both numbers lie under 2 ^ k -/
structure Sz (k : Nat) (f : Int × Nat) : Prop where
 n : f.1.natAbs < 2 ^ k
 d : f.2 < 2 ^ k
theorem fits_bits {z : Int} {k : Nat} (h : z.natAbs < 2 ^ k) (hk : k ≤ 16384) : fits z := by
 unfold fits
 exact limbs_of_bits h (by omega)
theorem Sz.vf {k : Nat} {f : Int × Nat} (h : Sz k f) (hk : k ≤ 16384) (n : Nf f) : Vf f := ⟨n, fits_bits h.n hk, fits_bits (by rw [Int.natAbs_natCast]; exact h.d) hk⟩
theorem low_sz {n : Int} {d k : Nat} (h1 : n.natAbs < 2 ^ k) (h2 : d < 2 ^ k) : Sz k (low n d) := by
 refine ⟨?_, ?_⟩
 ·unfold low
  simp only
  refine Nat.lt_of_le_of_lt ?_ h1
  rw [Int.natAbs_ediv_of_dvd (Int.dvd_natAbs.1 (Int.ofNat_dvd.2 (Nat.gcd_dvd_left _ _))), Int.natAbs_natCast]
  exact Nat.div_le_self _ _
 ·unfold low
  exact Nat.lt_of_le_of_lt (Nat.div_le_self _ _) h2
theorem mul_bits {a b k l : Nat} (h1 : a < 2 ^ k) (h2 : b < 2 ^ l) : a * b < 2 ^ (k + l) := by
 rw [Nat.pow_add]
 exact Nat.mul_lt_mul'' h1 h2
theorem sum_sz {f g : Int × Nat} {k l : Nat} (hf : Sz k f) (hg : Sz l g) : (f.1 * g.2 + g.1 * f.2).natAbs < 2 ^ (k + l + 1) ∧ (f.1 * g.2 - g.1 * f.2).natAbs < 2 ^ (k + l + 1) ∧ f.2 * g.2 < 2 ^ (k + l + 1) := by
 have h1 := mul_bits hf.n hg.d
 have h2 := mul_bits hg.n hf.d
 have h3 := mul_bits hf.d hg.d
 have e1 : (f.1 * (g.2 : Int)).natAbs = f.1.natAbs * g.2 := by rw [Int.natAbs_mul, Int.natAbs_natCast]
 have e2 : (g.1 * (f.2 : Int)).natAbs = g.1.natAbs * f.2 := by rw [Int.natAbs_mul, Int.natAbs_natCast]
 rw [Nat.add_comm l k] at h2
 rw [Nat.pow_succ]
 generalize 2 ^ (k + l) = P at *
 omega
theorem fadd_sz {f g : Int × Nat} {k l : Nat} (hf : Sz k f) (hg : Sz l g) : Sz (k + l + 1) (fadd f g) := low_sz (sum_sz hf hg).1 (sum_sz hf hg).2.2
theorem fmul_sz {f g : Int × Nat} {k l : Nat} (hf : Sz k f) (hg : Sz l g) : Sz (k + l) (fmul f g) :=
 low_sz (by rw [Int.natAbs_mul]; exact mul_bits hf.n hg.n) (mul_bits hf.d hg.d)
theorem lowE_sz {n : Int} {d k : Nat} (h : Sz k (low n d)) (hk : k ≤ 16384) : lowE n d = (low n d, 0) :=
 lowE_yes ⟨fits_bits h.n hk, fits_bits (by rw [Int.natAbs_natCast]; exact h.d) hk⟩
theorem addE_sz {f g : Int × Nat} {k l : Nat} (hf : Sz k f) (hg : Sz l g) (hk : k + l + 1 ≤ 16384) : addE f g = (fadd f g, 0) := lowE_sz (fadd_sz hf hg) hk
theorem mulE_sz {f g : Int × Nat} {k l : Nat} (hf : Sz k f) (hg : Sz l g) (hk : k + l ≤ 16384) : mulE f g = (fmul f g, 0) := lowE_sz (fmul_sz hf hg) hk
/-- a fraction in its box -/
structure Fb (w : World) (g : Nat) (b : Bool) (A : Option Addr) (k c : Nat) (xs : List Nat) (B : Option Addr) (l d : Nat) (ys : List Nat) : Prop where
 c0 : w.cell? ⟨g, 0, none⟩ = some (.bool b)
 c1 : w.cell? ⟨g, 1, none⟩ = some (.slice A k c)
 c2 : w.cell? ⟨g, 2, none⟩ = some (.bool false)
 c3 : w.cell? ⟨g, 3, none⟩ = some (.slice B l d)
 m : Mg w A c xs
 n : Mg w B d ys
theorem Fb.below {w w' : World} {g : Nat} {b : Bool} {A : Option Addr} {k c : Nat} {xs : List Nat} {B : Option Addr} {l d : Nat} {ys : List Nat} (h : Fb w g b A k c xs B l d ys) (hb : Below w.heap.size w w') : Fb w' g b A k c xs B l d ys :=
 ⟨keep_cell hb h.c0, keep_cell hb h.c1, keep_cell hb h.c2, keep_cell hb h.c3, h.m.below hb, h.n.below hb⟩
end Go.Proofs.Ytglailcfgcdagaa
