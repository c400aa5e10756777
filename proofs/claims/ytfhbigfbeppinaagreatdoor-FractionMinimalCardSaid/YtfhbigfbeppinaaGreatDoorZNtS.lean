/- Sizes of results on fractions; the laws of a field on what the functions answer. Conditions: none. -/
import Derived.Test.YtfhbigfbeppinaaGreatDoorZYS
set_option linter.unusedVariables false
set_option linter.unusedSimpArgs false
namespace Go.Proofs.YtfhbigfbeppinaaGreatDoor
open Go.RowKit Big

/-- both numbers lie under 2 ^ k -/
structure Sz (k : Nat) (f : Int × Nat) : Prop where
  n : f.1.natAbs < 2 ^ k
  d : f.2 < 2 ^ k
theorem fits_bits {z : Int} {k : Nat} (h : z.natAbs < 2 ^ k) (hk : k ≤ 16384) : fits z := by
  unfold fits
  exact limbs_of_bits h (by omega)
theorem Sz.vf {k : Nat} {f : Int × Nat} (h : Sz k f) (hk : k ≤ 16384) (n : Nf f) : Vf f := ⟨n, fits_bits h.n hk, fits_bits (by rw [Int.natAbs_natCast]; exact h.d) hk⟩
theorem Sz.of_limbs {f : Int × Nat} {m : Nat} (h1 : (limbs f.1.natAbs).length ≤ m) (h2 : (limbs f.2).length ≤ m) : Sz (32 * m) f := by
  exact ⟨(limbs_bits _ _).1 h1, (limbs_bits _ _).1 h2⟩
theorem low_sz {n : Int} {d k : Nat} (h1 : n.natAbs < 2 ^ k) (h2 : d < 2 ^ k) : Sz k (low n d) := by
  refine ⟨?_, ?_⟩
  · unfold low
    simp only
    refine Nat.lt_of_le_of_lt ?_ h1
    rw [Int.natAbs_ediv_of_dvd (Int.dvd_natAbs.1 (Int.ofNat_dvd.2 (Nat.gcd_dvd_left _ _))), Int.natAbs_natCast]
    exact Nat.div_le_self _ _
  · unfold low
    exact Nat.lt_of_le_of_lt (Nat.div_le_self _ _) h2
theorem mul_bits {a b k l : Nat} (h1 : a < 2 ^ k) (h2 : b < 2 ^ l) : a * b < 2 ^ (k + l) := by
  rw [Nat.pow_add]
  exact Nat.mul_lt_mul'' h1 h2
theorem sum_sz {f g : Int × Nat} {k l : Nat} (hf : Sz k f) (hg : Sz l g) : (f.1 * g.2 + g.1 * f.2).natAbs < 2 ^ (k + l + 1) ∧ (f.1 * g.2 - g.1 * f.2).natAbs < 2 ^ (k + l + 1) ∧ f.2 * g.2 < 2 ^ (k + l + 1) := by
  have h1 := mul_bits hf.n hg.d
  have h2 := mul_bits hg.n hf.d
  have h3 := mul_bits hf.d hg.d
  have e1 : (f.1 * (g.2 : Int)).natAbs = f.1.natAbs * g.2 := by rw [Int.natAbs_mul, Int.natAbs_natCast]
  have e2 : (g.1 * (f.2 : Int)).natAbs = g.1.natAbs * f.2 := by rw [Int.natAbs_mul, Int.natAbs_natCast]
  rw [Nat.add_comm l k] at h2
  rw [Nat.pow_succ]
  generalize 2 ^ (k + l) = P at *
  omega
theorem fadd_sz {f g : Int × Nat} {k l : Nat} (hf : Sz k f) (hg : Sz l g) : Sz (k + l + 1) (fadd f g) := low_sz (sum_sz hf hg).1 (sum_sz hf hg).2.2
theorem fsub_sz {f g : Int × Nat} {k l : Nat} (hf : Sz k f) (hg : Sz l g) : Sz (k + l + 1) (fsub f g) := low_sz (sum_sz hf hg).2.1 (sum_sz hf hg).2.2
theorem fmul_sz {f g : Int × Nat} {k l : Nat} (hf : Sz k f) (hg : Sz l g) : Sz (k + l) (fmul f g) :=
  low_sz (by rw [Int.natAbs_mul]; exact mul_bits hf.n hg.n) (mul_bits hf.d hg.d)
theorem lowE_sz {n : Int} {d k : Nat} (h : Sz k (low n d)) (hk : k ≤ 16384) : lowE n d = (low n d, 0) :=
  lowE_yes ⟨fits_bits h.n hk, fits_bits (by rw [Int.natAbs_natCast]; exact h.d) hk⟩
theorem addE_sz {f g : Int × Nat} {k l : Nat} (hf : Sz k f) (hg : Sz l g) (hk : k + l + 1 ≤ 16384) : addE f g = (fadd f g, 0) := lowE_sz (fadd_sz hf hg) hk
theorem subE_sz {f g : Int × Nat} {k l : Nat} (hf : Sz k f) (hg : Sz l g) (hk : k + l + 1 ≤ 16384) : subE f g = (fsub f g, 0) := lowE_sz (fsub_sz hf hg) hk
theorem mulE_sz {f g : Int × Nat} {k l : Nat} (hf : Sz k f) (hg : Sz l g) (hk : k + l ≤ 16384) : mulE f g = (fmul f g, 0) := lowE_sz (fmul_sz hf hg) hk
theorem divE_fdiv {f g : Int × Nat} (h : g.1 ≠ 0) : divE f g = lowE (if g.1 < 0 then -(f.1 * g.2) else f.1 * g.2) (f.2 * g.1.natAbs) := by
  unfold divE
  rw [if_neg h]
  congr 1
  have hs : ∀ (x : Int) (c : Bool) (n : Nat), sg (decide (x < 0) != c) (x.natAbs * n) = x * sg c n := by
    intro x c n
    cases c
    · rw [show (decide (x < 0) != false) = decide (x < 0) by simp, sg_mulN]; simp [sg]
    · rw [sg_flip, sg_mulN]; simp [sg, Int.mul_neg]
  rw [hs]
  unfold sg
  by_cases hg : g.1 < 0
  · rw [if_pos hg, if_pos (by simpa using hg), Int.mul_neg]
  · rw [if_neg hg, if_neg (by simpa using hg)]
theorem divE_sz {f g : Int × Nat} {k l : Nat} (hf : Sz k f) (hg : Sz l g) (hk : k + l ≤ 16384) (h0 : g.1 ≠ 0) : divE f g = (fdiv f g, 0) := by
  rw [divE_fdiv h0]
  refine lowE_sz (k := k + l) (low_sz ?_ ?_) hk
  · have h1 := mul_bits hf.n hg.d
    have e1 : (f.1 * (g.2 : Int)).natAbs = f.1.natAbs * g.2 := by rw [Int.natAbs_mul, Int.natAbs_natCast]
    split <;> omega
  · exact mul_bits hf.d hg.n
theorem divE_zero {f g : Int × Nat} (h : g.1 = 0) : divE f g = ((0, 0), 12) := by unfold divE; rw [if_pos h]
theorem fsub_nf {a b : Int × Nat} (ha : Nf a) (hb : Nf b) : Nf (fsub a b) := low_nf (Nat.mul_pos ha.1 hb.1)
/-- a fraction in its box -/
structure Fb (w : World) (g : Nat) (b : Bool) (A : Option Addr) (k c : Nat) (xs : List Nat) (B : Option Addr) (l d : Nat) (ys : List Nat) : Prop where
  c0 : w.cell? ⟨g, 0, none⟩ = some (.bool b)
  c1 : w.cell? ⟨g, 1, none⟩ = some (.slice A k c)
  c2 : w.cell? ⟨g, 2, none⟩ = some (.bool false)
  c3 : w.cell? ⟨g, 3, none⟩ = some (.slice B l d)
  m : Mg w A c xs
  n : Mg w B d ys
theorem Fb.below {w w' : World} {g : Nat} {b : Bool} {A : Option Addr} {k c : Nat} {xs : List Nat} {B : Option Addr} {l d : Nat} {ys : List Nat} (h : Fb w g b A k c xs B l d ys) (hb : Below w.heap.size w w') : Fb w' g b A k c xs B l d ys :=
  ⟨keep_cell hb h.c0, keep_cell hb h.c1, keep_cell hb h.c2, keep_cell hb h.c3, h.m.below hb, h.n.below hb⟩
end Go.Proofs.YtfhbigfbeppinaaGreatDoor
