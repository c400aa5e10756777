/- Homographies in plain numbers: adjugates, determinants, products, common divisors, normal forms. Conditions: none. -/
import Derived.Test.YtdkgbkbbbldliaaGreatZYA
import Derived.Test.YtdkgbkbbbldliaaGreatZYC
set_option linter.unusedVariables false
set_option linter.unusedSimpArgs false
namespace Go.Proofs.YtdkgbkbbbldliaaGreat
open Go.RowKit Big
theorem Zy (n K : Nat) : (limbs n).length ≤ K ↔ n < 2 ^ (32 * K) := by
 rw [K1, show (4294967296 : Nat) = 2 ^ 32 by decide, ← Nat.pow_mul]
/-- the number lies under 2 ^ k -/
def Bz (k : Nat) (x : Int) : Prop := x.natAbs < 2 ^ k
theorem Qo {n k K : Nat} (h : n < 2 ^ k) (hk : k ≤ 32 * K) : (limbs n).length ≤ K := (Zy n K).2 (Nat.lt_of_lt_of_le h (Nat.pow_le_pow_right (by decide) hk))
theorem Bz.ft {k : Nat} {x : Int} (h : Bz k x) (hk : k ≤ 16384) : fits x := by
 unfold fits
 exact Qo h (by omega)
theorem Bz.mono {k l : Nat} {x : Int} (h : Bz k x) (hk : k ≤ l) : Bz l x := Nat.lt_of_lt_of_le h (Nat.pow_le_pow_right (by decide) hk)
theorem Bz.mul {k l : Nat} {x y : Int} (h : Bz k x) (h' : Bz l y) : Bz (k + l) (x * y) := by
 unfold Bz
 rw [Int.natAbs_mul, Nat.pow_add]
 exact Nat.mul_lt_mul'' h h'
theorem Bz.add {k : Nat} {x y : Int} (h : Bz k x) (h' : Bz k y) : Bz (k + 1) (x + y) := by
 unfold Bz at *
 rw [Nat.pow_succ]
 generalize 2 ^ k = P at *
 omega
theorem Bz.sub {k : Nat} {x y : Int} (h : Bz k x) (h' : Bz k y) : Bz (k + 1) (x - y) := by
 unfold Bz at *
 rw [Nat.pow_succ]
 generalize 2 ^ k = P at *
 omega
theorem Bz.zero {k : Nat} : Bz k 0 := Nat.pow_pos (by decide)
theorem Bz.of_limbs {k : Nat} {x : Int} (h : (limbs x.natAbs).length ≤ k) : Bz (32 * k) x := (Zy _ _).1 h
theorem Bz.minor {k : Nat} {p q r t : Int} (hp : Bz k p) (hq : Bz k q) (hr : Bz k r) (ht : Bz k t) : Bz (2 * k + 1) (p * t - q * r) := by
 have h1 := hp.mul ht
 have h2 := hq.mul hr
 rw [← Nat.two_mul] at h1 h2
 exact h1.sub h2
theorem Bz.dot {k l : Nat} {a b c p q r : Int} (ha : Bz k a) (hb : Bz k b) (hc : Bz k c) (hp : Bz l p) (hq : Bz l q) (hr : Bz l r) : Bz (k + l + 2) (a * p + b * q + c * r) :=
 ((ha.mul hp).add (hb.mul hq)).add ((hc.mul hr).mono (Nat.le_succ _))
def adjZ : List Int → List Int
 | [a, b, c, d, e, f, g, h, i] => [e * i - f * h, c * h - b * i, b * f - c * e, f * g - d * i, a * i - c * g, c * d - a * f, d * h - e * g, b * g - a * h, a * e - b * d]
 | _ => []
def detZ : List Int → Int
 | [a, b, c, d, e, f, g, h, i] => a * (e * i - f * h) + b * (f * g - d * i) + c * (d * h - e * g)
 | _ => 0
def mulZ : List Int → List Int → List Int
 | [a, b, c, d, e, f, g, h, i], [a', b', c', d', e', f', g', h', i'] => [a * a' + b * d' + c * g', a * b' + b * e' + c * h', a * c' + b * f' + c * i', d * a' + e * d' + f * g', d * b' + e * e' + f * h', d * c' + e * f' + f * i', g * a' + h * d' + i * g', g * b' + h * e' + i * h', g * c' + h * f' + i * i']
 | _, _ => []
/-- the greatest common divisor of a list -/
def gcdL (l : List Int) : Nat := l.foldl (fun d x => Nat.gcd d x.natAbs) 0
/-- whether the first number that is not 0 is negative -/
def sgL : List Int → Bool
 | [] => false
 | x :: l => if x = 0 then sgL l else decide (x < 0)
/-- the multiple without a common divisor, the first number that is not 0 being positive -/
def redZ (l : List Int) : List Int := if gcdL l = 0 then l else l.map fun x => dmQ x (sg (sgL l) (gcdL l))
theorem nine {α : Type} (l : List α) (h : l.length = 9) : ∃ a b c d e f g i j, l = [a, b, c, d, e, f, g, i, j] := by
 match l, h with
 | [a, b, c, d, e, f, g, i, j], _ => exact ⟨a, b, c, d, e, f, g, i, j, rfl⟩
theorem gcdL_foldl (l : List Int) (d : Nat) : l.foldl (fun d x => Nat.gcd d x.natAbs) d = Nat.gcd d (gcdL l) := by
 unfold gcdL
 induction l generalizing d with
 | nil => simp
 | cons x l ih =>
  simp only [List.foldl_cons]
  rw [ih, ih (Nat.gcd 0 x.natAbs), Nat.gcd_zero_left, Nat.gcd_assoc]
theorem Z0 (x : Int) (l : List Int) : gcdL (x :: l) = Nat.gcd x.natAbs (gcdL l) := by
 have : gcdL (x :: l) = l.foldl (fun d x => Nat.gcd d x.natAbs) x.natAbs := by unfold gcdL; simp
 rw [this, gcdL_foldl]
theorem gcdL_snoc (x : Int) (l : List Int) : gcdL (l ++ [x]) = Nat.gcd (gcdL l) x.natAbs := by
 unfold gcdL; rw [List.foldl_append]; rfl
theorem Yz {l : List Int} {x : Int} (h : x ∈ l) : (gcdL l : Int) ∣ x := by
 induction l with
 | nil => simp at h
 | cons y l ih =>
  rw [Z0]
  rcases List.mem_cons.1 h with rfl | h
  ·exact Int.ofNat_dvd_left.2 (Nat.gcd_dvd_left _ _)
  ·exact Int.dvd_trans (Int.ofNat_dvd.2 (Nat.gcd_dvd_right _ _)) (ih h)
theorem Wr {l : List Int} : gcdL l = 0 ↔ ∀ x ∈ l, x = 0 := by
 induction l with
 | nil => simp [gcdL]
 | cons y l ih =>
  rw [Z0, Nat.gcd_eq_zero_iff, ih]
  simp
theorem gcdL_le {l : List Int} {x : Int} (h : x ∈ l) (h0 : x ≠ 0) : gcdL l ≤ x.natAbs :=
 Nat.le_of_dvd (by omega) (Int.ofNat_dvd_left.1 (Yz h))
theorem D2 {k : Nat} {l : List Int} (h : ∀ x ∈ l, Bz k x) : Bz k (gcdL l : Int) := by
 unfold Bz
 rw [Int.natAbs_natCast]
 by_cases h0 : gcdL l = 0
 ·rw [h0]; exact Nat.pow_pos (by decide)
 ·obtain ⟨x, hx, hx0⟩ : ∃ x ∈ l, x ≠ 0 := by
   refine Classical.byContradiction fun h' => h0 (Wr.2 fun x hx => ?_)
   exact Classical.byContradiction fun h2 => h' ⟨x, hx, h2⟩
  exact Nat.lt_of_le_of_lt (gcdL_le hx hx0) (h x hx)
/-- an exact quotient -/
theorem dmQ_exact {x y q : Int} (h0 : y ≠ 0) (h : x = q * y) : dmQ x y = q := by
 have hd : y.natAbs ∣ x.natAbs := by rw [h, Int.natAbs_mul]; exact Nat.dvd_mul_left _ _
 have hm : x.natAbs % y.natAbs = 0 := Nat.mod_eq_zero_of_dvd hd
 have hq : x.natAbs / y.natAbs = q.natAbs := by rw [h, Int.natAbs_mul]; exact Nat.mul_div_cancel _ (by omega)
 have hp : ¬ dmP x y := by unfold dmP; omega
 unfold dmQ
 rw [if_neg hp, hq]
 subst h
 rcases Int.lt_trichotomy q 0 with h | rfl | h
 ·rcases Int.lt_or_gt_of_ne h0 with h1 | h1
  ·have : 0 < q * y := Int.mul_pos_of_neg_of_neg h h1
   rw [decide_eq_false (by omega), decide_eq_true h1]
   simp [sg]; omega
  ·have : q * y < 0 := Int.mul_neg_of_neg_of_pos h h1
   rw [decide_eq_true this, decide_eq_false (by omega)]
   simp [sg]; omega
 ·simp [sg]
 ·rcases Int.lt_or_gt_of_ne h0 with h1 | h1
  ·have : q * y < 0 := Int.mul_neg_of_pos_of_neg h h1
   rw [decide_eq_true this, decide_eq_true h1]
   simp [sg]; omega
  ·have : 0 < q * y := Int.mul_pos h h1
   rw [decide_eq_false (by omega), decide_eq_false (by omega)]
   simp [sg]; omega
theorem Hf {x y : Int} (h0 : y ≠ 0) (h : y ∣ x) : dmQ x y = x / y := dmQ_exact h0 (Int.ediv_mul_cancel h).symm
theorem W4 {a b : Nat} (h0 : b ≠ 0) (h : b ∣ a) : dmQ (a : Int) (b : Int) = ((a / b : Nat) : Int) := by
 refine dmQ_exact (by omega) ?_
 rw [← Int.natCast_mul, Nat.div_mul_cancel h]
theorem sg_ne {b : Bool} {n : Nat} (h : n ≠ 0) : sg b n ≠ 0 := by unfold sg; split <;> omega
theorem sg_dvd {b : Bool} {n : Nat} {x : Int} : sg b n ∣ x ↔ (n : Int) ∣ x := by
 unfold sg; split
 ·exact Int.neg_dvd
 ·exact Iff.rfl
theorem Q4 (l : List Int) : (redZ l).length = l.length := by unfold redZ; split <;> simp
theorem Bz.ediv {k : Nat} {x y : Int} (h : Bz k x) (hd : y ∣ x) : Bz k (x / y) := by
 unfold Bz at *
 obtain ⟨q, rfl⟩ := hd
 by_cases h0 : y = 0
 ·subst h0; simp; exact Nat.pow_pos (by decide)
 ·rw [Int.mul_ediv_cancel_left _ h0]
  rw [Int.natAbs_mul] at h
  exact Nat.lt_of_le_of_lt (Nat.le_mul_of_pos_left _ (by omega)) h
theorem redZ_bz {k : Nat} {l : List Int} (h : ∀ x ∈ l, Bz k x) : ∀ x ∈ redZ l, Bz k x := by
 unfold redZ
 split
 ·exact h
 ·rename_i h0
  intro x hx
  obtain ⟨y, hy, rfl⟩ := List.mem_map.1 hx
  have hd := sg_dvd (b := sgL l).2 (Yz hy)
  rw [Hf (sg_ne h0) hd]
  exact (h y hy).ediv hd
theorem gcdL_smul (k : Int) (l : List Int) : gcdL (l.map (k * ·)) = k.natAbs * gcdL l := by
 induction l with
 | nil => simp [gcdL]
 | cons x l ih => rw [List.map_cons, Z0, Z0, ih, Int.natAbs_mul, Nat.gcd_mul_left]
theorem sgL_smul {k : Int} (hk : k ≠ 0) : ∀ l : List Int, gcdL l ≠ 0 → sgL (l.map (k * ·)) = (decide (k < 0) != sgL l)
 | [], h => by simp [gcdL] at h
 | x :: l, h => by
  rw [List.map_cons]
  unfold sgL
  by_cases hx : x = 0
  ·subst hx
   rw [if_pos (by simp), if_pos rfl]
   exact sgL_smul hk l (by rw [Z0] at h; simpa using h)
  ·rw [if_neg (Int.mul_ne_zero hk hx), if_neg hx]
   rcases Int.lt_or_gt_of_ne hk with h1 | h1 <;> rcases Int.lt_or_gt_of_ne hx with h2 | h2
   ·rw [decide_eq_false (by have := Int.mul_pos_of_neg_of_neg h1 h2; omega), decide_eq_true h1, decide_eq_true h2]; rfl
   ·rw [decide_eq_true (Int.mul_neg_of_neg_of_pos h1 h2), decide_eq_true h1, decide_eq_false (by omega)]; rfl
   ·rw [decide_eq_true (Int.mul_neg_of_pos_of_neg h1 h2), decide_eq_false (by omega), decide_eq_true h2]; rfl
   ·rw [decide_eq_false (by have := Int.mul_pos h1 h2; omega), decide_eq_false (by omega), decide_eq_false (by omega)]; rfl
theorem sg_smul (k : Int) (b : Bool) (n : Nat) : sg (decide (k < 0) != b) (k.natAbs * n) = k * sg b n := by
 rcases Int.lt_or_le k 0 with h | h
 ·rw [decide_eq_true h]
  cases b
  ·simp only [sg, Bool.bne_false, if_true, Bool.false_eq_true, if_false, Int.natCast_mul]
   rw [← Int.neg_mul, show -(k.natAbs : Int) = k by omega]
  ·simp only [sg, bne_self_eq_false, Bool.false_eq_true, if_false, if_true, Int.natCast_mul]
   rw [Int.mul_neg, ← Int.neg_mul, show (k.natAbs : Int) = -k by omega]
 ·rw [decide_eq_false (by omega)]
  cases b
  ·simp only [sg, bne_self_eq_false, Bool.false_eq_true, if_false, Int.natCast_mul]
   rw [show (k.natAbs : Int) = k by omega]
  ·simp only [sg, Bool.bne_true, Bool.not_false, if_true, Int.natCast_mul]
   rw [Int.mul_neg, show (k.natAbs : Int) = k by omega]
theorem Gb (l : List Int) (h : gcdL l ≠ 0) : redZ l = l.map (· / sg (sgL l) (gcdL l)) := by
 unfold redZ
 rw [if_neg h]
 exact List.map_congr_left fun x hx => Hf (sg_ne h) (sg_dvd.2 (Yz hx))
theorem U7 {k : Int} (hk : k ≠ 0) (l : List Int) : redZ (l.map (k * ·)) = redZ l := by
 by_cases h : gcdL l = 0
 ·have hz := Wr.1 h
  have e : l.map (k * ·) = l := by
   rw [show l = l.map id by simp, List.map_map]
   exact List.map_congr_left fun x hx => by simp [hz x hx]
  rw [e]
 ·have h' : gcdL (l.map (k * ·)) ≠ 0 := by rw [gcdL_smul]; exact Nat.mul_ne_zero (by omega) h
  rw [Gb _ h', Gb _ h, gcdL_smul, sgL_smul hk l h, sg_smul, List.map_map]
  refine List.map_congr_left fun x hx => ?_
  obtain ⟨q, hq⟩ := sg_dvd (b := sgL l).2 (Yz hx)
  have h0 := sg_ne (b := sgL l) h
  simp only [Function.comp]
  rw [hq, ← Int.mul_assoc, Int.mul_ediv_cancel_left _ (Int.mul_ne_zero hk h0), Int.mul_ediv_cancel_left _ h0]
theorem redZ_spec (l : List Int) : ∃ s : Int, s ≠ 0 ∧ l = (redZ l).map (s * ·) := by
 by_cases h : gcdL l = 0
 ·exact ⟨1, by omega, by unfold redZ; rw [if_pos h]; simp⟩
 ·refine ⟨sg (sgL l) (gcdL l), sg_ne h, ?_⟩
  rw [Gb _ h, List.map_map]
  conv => lhs; rw [show l = l.map id by simp]
  exact List.map_congr_left fun x hx => (Int.mul_ediv_cancel' (sg_dvd.2 (Yz hx))).symm
theorem redZ_red (l : List Int) : redZ (redZ l) = redZ l := by
 obtain ⟨s, hs, e⟩ := redZ_spec l
 conv => rhs; rw [e]
 exact (U7 hs _).symm
theorem redZ_eq {l l' : List Int} {k k' : Int} (hk : k ≠ 0) (hk' : k' ≠ 0) (h : l.map (k * ·) = l'.map (k' * ·)) : redZ l = redZ l' := by
 rw [← U7 hk, h, U7 hk']
theorem snocInd {α : Type} {P : List α → Prop} (h0 : P []) (h1 : ∀ l x, P l → P (l ++ [x])) (l : List α) : P l := by
 rw [← List.reverse_reverse l]
 induction l.reverse with
 | nil => exact h0
 | cons x l ih => rw [List.reverse_cons]; exact h1 _ _ ih
/-- a common multiple of the denominators -/
def comZ (l : List (Int × Nat)) : Nat := l.foldl (fun c f => c * (f.2 / Nat.gcd c f.2)) 1
def intZ (l : List (Int × Nat)) : List Int := l.map fun f => f.1 * ((comZ l / f.2 : Nat) : Int)
theorem Zw (l : List (Int × Nat)) (f : Int × Nat) : comZ (l ++ [f]) = comZ l * (f.2 / Nat.gcd (comZ l) f.2) := by
 unfold comZ; rw [List.foldl_append]; rfl
theorem Y4 (l : List (Int × Nat)) (h : ∀ f ∈ l, 0 < f.2) : 0 < comZ l := by
 induction l using snocInd with
 | h0 => simp [comZ]
 | h1 l f ih =>
  rw [Zw]
  have h1 := ih fun g hg => h g (by simp [hg])
  have h2 := h f (by simp)
  exact Nat.mul_pos h1 (Nat.div_pos (Nat.le_of_dvd h2 (Nat.gcd_dvd_right _ _)) (Nat.gcd_pos_of_pos_left _ h1))
theorem Vw (l : List (Int × Nat)) : ∀ f ∈ l, f.2 ∣ comZ l := by
 induction l using snocInd with
 | h0 => simp
 | h1 l f ih =>
  intro g hg
  rw [Zw]
  rcases List.mem_append.1 hg with h | h
  ·exact Nat.dvd_mul_right_of_dvd (ih g h) _
  ·obtain rfl : g = f := by simpa using h
   obtain ⟨q, hq⟩ := Nat.gcd_dvd_left (comZ l) g.2
   have h3 := Nat.mul_div_cancel' (Nat.gcd_dvd_right (comZ l) g.2)
   refine ⟨q, ?_⟩
   generalize Nat.gcd (comZ l) g.2 = G at *
   rw [hq, Nat.mul_right_comm, h3]
theorem Hr (k : Nat) (l : List (Int × Nat)) (h : ∀ f ∈ l, f.2 < 2 ^ k) : comZ l < 2 ^ (k * l.length + 1) := by
 induction l using snocInd with
 | h0 => simp [comZ]
 | h1 l f ih =>
  have h1 := ih fun g hg => h g (by simp [hg])
  have h2 := h f (by simp)
  rw [Zw]
  have e : k * (l ++ [f]).length + 1 = (k * l.length + 1) + k := by simp [Nat.mul_add]; omega
  rw [e, Nat.pow_add]
  exact Nat.mul_lt_mul'' h1 (Nat.lt_of_le_of_lt (Nat.div_le_self _ _) h2)
theorem Z5 (l : List (Int × Nat)) (n : Int) : comZ (l ++ [(n, 1)]) = comZ l := by rw [Zw]; simp
theorem Y7 (l : List (Int × Nat)) : (intZ l).length = l.length := by simp [intZ]
theorem Hz {k : Nat} {l : List (Int × Nat)} (h : ∀ f ∈ l, Bz k f.1 ∧ f.2 < 2 ^ k) : ∀ x ∈ intZ l, Bz (k * l.length + 1 + k) x := by
 intro x hx
 obtain ⟨f, hf, rfl⟩ := List.mem_map.1 hx
 have h1 := Hr k l fun f hf => (h f hf).2
 rw [Nat.add_comm _ k]
 refine (h f hf).1.mul ?_
 unfold Bz
 rw [Int.natAbs_natCast]
 exact Nat.lt_of_le_of_lt (Nat.div_le_self _ _) h1
theorem Ws {m : List Int} (hm : m.length = 9) : (adjZ m).length = 9 := by
 obtain ⟨a, b, c, d, e, f, g, h, i, rfl⟩ := nine m hm
 rfl
theorem all9 {P : Int → Prop} {a b c d e f g h i : Int} : (∀ x ∈ [a, b, c, d, e, f, g, h, i], P x) ↔ P a ∧ P b ∧ P c ∧ P d ∧ P e ∧ P f ∧ P g ∧ P h ∧ P i := by simp
theorem D3 {k : Nat} {m : List Int} (hm : m.length = 9) (h : ∀ x ∈ m, Bz k x) : ∀ x ∈ adjZ m, Bz (2 * k + 1) x := by
 obtain ⟨a, b, c, d, e, f, g, p, i, rfl⟩ := nine m hm
 obtain ⟨h1, h2, h3, h4, h5, h6, h7, h8, h9⟩ := all9.1 h
 unfold adjZ
 rw [all9]
 exact ⟨.minor h5 h6 h8 h9, .minor h3 h2 h9 h8, .minor h2 h3 h5 h6, .minor h6 h4 h9 h7, .minor h1 h3 h7 h9, .minor h3 h1 h6 h4, .minor h4 h5 h7 h8, .minor h2 h1 h8 h7, .minor h1 h2 h4 h5⟩
theorem mulZ_smul {m n : List Int} (hm : m.length = 9) (hn : n.length = 9) (k : Int) : mulZ (m.map (k * ·)) n = (mulZ m n).map (k * ·) := by
 obtain ⟨a, b, c, d, e, f, g, p, i, rfl⟩ := nine m hm
 obtain ⟨a', b', c', d', e', f', g', p', i', rfl⟩ := nine n hn
 simp [mulZ, Int.mul_add, Int.mul_assoc]
theorem Gw {m n : List Int} (hm : m.length = 9) (hn : n.length = 9) (k : Int) : mulZ m (n.map (k * ·)) = (mulZ m n).map (k * ·) := by
 obtain ⟨a, b, c, d, e, f, g, p, i, rfl⟩ := nine m hm
 obtain ⟨a', b', c', d', e', f', g', p', i', rfl⟩ := nine n hn
 simp [mulZ, Int.mul_add, Int.mul_left_comm]
theorem adjZ_smul {m : List Int} (hm : m.length = 9) (k : Int) : adjZ (m.map (k * ·)) = (adjZ m).map (k * k * ·) := by
 obtain ⟨a, b, c, d, e, f, g, p, i, rfl⟩ := nine m hm
 simp only [adjZ, List.map_cons, List.map_nil]
 simp only [List.cons.injEq, and_true]
 refine ⟨?_, ?_, ?_, ?_, ?_, ?_, ?_, ?_, ?_⟩ <;> grind
theorem mulZ_adj {m : List Int} (hm : m.length = 9) : mulZ m (adjZ m) = [detZ m, 0, 0, 0, detZ m, 0, 0, 0, detZ m] := by
 obtain ⟨a, b, c, d, e, f, g, p, i, rfl⟩ := nine m hm
 simp only [mulZ, adjZ, detZ]
 simp only [List.cons.injEq, and_true]
 refine ⟨?_, ?_, ?_, ?_, ?_, ?_, ?_, ?_, ?_⟩ <;> grind
theorem Hq {m : List Int} (hm : m.length = 9) : mulZ (adjZ m) m = [detZ m, 0, 0, 0, detZ m, 0, 0, 0, detZ m] := by
 obtain ⟨a, b, c, d, e, f, g, p, i, rfl⟩ := nine m hm
 simp only [mulZ, adjZ, detZ]
 simp only [List.cons.injEq, and_true]
 refine ⟨?_, ?_, ?_, ?_, ?_, ?_, ?_, ?_, ?_⟩ <;> grind
theorem detZ_smul {m : List Int} (hm : m.length = 9) (k : Int) : detZ (m.map (k * ·)) = k * k * k * detZ m := by
 obtain ⟨a, b, c, d, e, f, g, p, i, rfl⟩ := nine m hm
 simp only [detZ, List.map_cons, List.map_nil]
 grind
theorem detZ_adj {m : List Int} (hm : m.length = 9) : detZ (adjZ m) = detZ m * detZ m := by
 obtain ⟨a, b, c, d, e, f, g, p, i, rfl⟩ := nine m hm
 simp only [adjZ, detZ]
 grind
/-- the homogeneous coordinates of a point -/
def ptZ (f g : Int × Nat) : List Int := [f.1 * g.2, g.1 * f.2, (f.2 : Int) * g.2]
/-- a matrix times a vector -/
def mvZ : List Int → List Int → List Int
 | [a, b, c, d, e, f, g, h, i], [x, y, z] => [a * x + b * y + c * z, d * x + e * y + f * z, g * x + h * y + i * z]
 | _, _ => []
theorem Xc {α : Type} (l : List α) (h : l.length = 3) : ∃ a b c, l = [a, b, c] := by
 match l, h with
 | [a, b, c], _ => exact ⟨a, b, c, rfl⟩
theorem mvZ_len {m v : List Int} (hm : m.length = 9) (hv : v.length = 3) : (mvZ m v).length = 3 := by
 obtain ⟨a, b, c, d, e, f, g, h, i, rfl⟩ := nine m hm
 obtain ⟨x, y, z, rfl⟩ := Xc v hv
 rfl
theorem mvZ_mul {m n v : List Int} (hm : m.length = 9) (hn : n.length = 9) (hv : v.length = 3) : mvZ (mulZ m n) v = mvZ m (mvZ n v) := by
 obtain ⟨a, b, c, d, e, f, g, h, i, rfl⟩ := nine m hm
 obtain ⟨a', b', c', d', e', f', g', h', i', rfl⟩ := nine n hn
 obtain ⟨x, y, z, rfl⟩ := Xc v hv
 simp only [mulZ, mvZ, List.cons.injEq, and_true]
 refine ⟨?_, ?_, ?_⟩ <;> grind
theorem mvZ_smul {m v : List Int} (hm : m.length = 9) (hv : v.length = 3) (k : Int) : mvZ (m.map (k * ·)) v = (mvZ m v).map (k * ·) := by
 obtain ⟨a, b, c, d, e, f, g, h, i, rfl⟩ := nine m hm
 obtain ⟨x, y, z, rfl⟩ := Xc v hv
 simp [mvZ, Int.mul_add, Int.mul_assoc]
theorem mvZ_smul2 {m v : List Int} (hm : m.length = 9) (hv : v.length = 3) (k : Int) : mvZ m (v.map (k * ·)) = (mvZ m v).map (k * ·) := by
 obtain ⟨a, b, c, d, e, f, g, h, i, rfl⟩ := nine m hm
 obtain ⟨x, y, z, rfl⟩ := Xc v hv
 simp [mvZ, Int.mul_add, Int.mul_left_comm]
theorem mvZ_adj {m v : List Int} (hm : m.length = 9) (hv : v.length = 3) : mvZ (adjZ m) (mvZ m v) = v.map (detZ m * ·) := by
 obtain ⟨a, b, c, d, e, f, g, h, i, rfl⟩ := nine m hm
 obtain ⟨x, y, z, rfl⟩ := Xc v hv
 simp only [adjZ, mvZ, detZ, List.map_cons, List.map_nil, List.cons.injEq, and_true]
 refine ⟨?_, ?_, ?_⟩ <;> grind
/-- equal up to a factor that is not 0 -/
def Pr (l l' : List Int) : Prop := ∃ k k' : Int, k ≠ 0 ∧ k' ≠ 0 ∧ l.map (k * ·) = l'.map (k' * ·)
theorem Xx (k k' : Int) (l : List Int) : (l.map (k * ·)).map (k' * ·) = l.map (k' * k * ·) := by
 rw [List.map_map]
 exact List.map_congr_left fun x _ => (Int.mul_assoc _ _ _).symm
theorem map_one_mul (l : List Int) : l.map ((1 : Int) * ·) = l := by
 conv => rhs; rw [← List.map_id l]
 exact List.map_congr_left fun x _ => Int.one_mul x
theorem Pr.refl (l : List Int) : Pr l l := ⟨1, 1, by decide, by decide, rfl⟩
theorem Pr.symm {l l' : List Int} (h : Pr l l') : Pr l' l := by
 obtain ⟨k, k', h1, h2, h3⟩ := h
 exact ⟨k', k, h2, h1, h3.symm⟩
theorem Pr.trans {l l' l'' : List Int} (h : Pr l l') (h' : Pr l' l'') : Pr l l'' := by
 obtain ⟨k, k', h1, h2, h3⟩ := h
 obtain ⟨j, j', g1, g2, g3⟩ := h'
 refine ⟨j * k, k' * j', Int.mul_ne_zero g1 h1, Int.mul_ne_zero h2 g2, ?_⟩
 rw [← Xx, h3, Xx, Int.mul_comm j k', ← Xx, g3, Xx]
theorem Pr.of_smul {l l' : List Int} {k : Int} (hk : k ≠ 0) (h : l = l'.map (k * ·)) : Pr l l' := ⟨1, k, by decide, hk, by rw [map_one_mul, h]⟩
theorem Pr.red (l : List Int) : Pr l (redZ l) := by
 obtain ⟨s, hs, e⟩ := redZ_spec l
 exact Pr.of_smul hs e
theorem Pr.eq {l l' : List Int} (h : Pr l l') : redZ l = redZ l' := by
 obtain ⟨k, k', h1, h2, h3⟩ := h
 exact redZ_eq h1 h2 h3
theorem Pr.len {l l' : List Int} (h : Pr l l') : l.length = l'.length := by
 obtain ⟨k, k', h1, h2, h3⟩ := h
 have := congrArg List.length h3
 simpa using this
theorem Pr.mul {m m' n n' : List Int} (hm : m.length = 9) (hn : n.length = 9) (h : Pr m m') (h' : Pr n n') : Pr (mulZ m n) (mulZ m' n') := by
 have hm' := h.len ▸ hm
 have hn' := h'.len ▸ hn
 obtain ⟨k, k', h1, h2, h3⟩ := h
 obtain ⟨j, j', g1, g2, g3⟩ := h'
 refine ⟨k * j, k' * j', Int.mul_ne_zero h1 g1, Int.mul_ne_zero h2 g2, ?_⟩
 rw [← Xx, ← Gw hm hn, ← mulZ_smul hm (by simpa using hn), h3, g3, mulZ_smul hm' (by simpa using hn'), Gw hm' hn', Xx]
theorem Pr.adj {m m' : List Int} (hm : m.length = 9) (h : Pr m m') : Pr (adjZ m) (adjZ m') := by
 have hm' := h.len ▸ hm
 obtain ⟨k, k', h1, h2, h3⟩ := h
 refine ⟨k * k, k' * k', Int.mul_ne_zero h1 h1, Int.mul_ne_zero h2 h2, ?_⟩
 rw [← adjZ_smul hm, h3, adjZ_smul hm']
theorem Pr.mv {m m' v v' : List Int} (hm : m.length = 9) (hv : v.length = 3) (h : Pr m m') (h' : Pr v v') : Pr (mvZ m v) (mvZ m' v') := by
 have hm' := h.len ▸ hm
 have hv' := h'.len ▸ hv
 obtain ⟨k, k', h1, h2, h3⟩ := h
 obtain ⟨j, j', g1, g2, g3⟩ := h'
 refine ⟨k * j, k' * j', Int.mul_ne_zero h1 g1, Int.mul_ne_zero h2 g2, ?_⟩
 rw [← Xx, ← mvZ_smul2 hm hv, ← mvZ_smul hm (by simpa using hv), h3, g3, mvZ_smul hm' (by simpa using hv'), mvZ_smul2 hm' hv', Xx]
theorem Pr.det {m m' : List Int} (hm : m.length = 9) (h : Pr m m') : detZ m = 0 ↔ detZ m' = 0 := by
 have hm' := h.len ▸ hm
 obtain ⟨k, k', h1, h2, h3⟩ := h
 have e1 := detZ_smul hm k
 have e2 := detZ_smul hm' k'
 rw [h3, e2] at e1
 have p1 : k * k * k ≠ 0 := Int.mul_ne_zero (Int.mul_ne_zero h1 h1) h1
 have p2 : k' * k' * k' ≠ 0 := Int.mul_ne_zero (Int.mul_ne_zero h2 h2) h2
 constructor
 ·intro h
  rw [h, Int.mul_zero] at e1
  exact (Int.mul_eq_zero.1 e1).resolve_left p2
 ·intro h
  rw [h, Int.mul_zero] at e1
  exact (Int.mul_eq_zero.1 e1.symm).resolve_left p1
theorem Pr.cells {x y z x' y' z' : Int} (h : Pr [x, y, z] [x', y', z']) : ∃ k k' : Int, k ≠ 0 ∧ k' ≠ 0 ∧ k * x = k' * x' ∧ k * y = k' * y' ∧ k * z = k' * z' := by
 obtain ⟨k, k', h1, h2, h3⟩ := h
 simp only [List.map_cons, List.map_nil, List.cons.injEq, and_true] at h3
 exact ⟨k, k', h1, h2, h3⟩
def one9 : List Int := [1, 0, 0, 0, 1, 0, 0, 0, 1]
theorem mulZ_one {m : List Int} (hm : m.length = 9) : mulZ m one9 = m := by
 obtain ⟨a, b, c, d, e, f, g, h, i, rfl⟩ := nine m hm
 simp [mulZ, one9]
theorem one_mulZ {m : List Int} (hm : m.length = 9) : mulZ one9 m = m := by
 obtain ⟨a, b, c, d, e, f, g, h, i, rfl⟩ := nine m hm
 simp [mulZ, one9]
theorem Pr.inv {m : List Int} (hm : m.length = 9) (h : detZ m ≠ 0) : Pr (mulZ m (adjZ m)) one9 ∧ Pr (mulZ (adjZ m) m) one9 := by
 have e : one9.map (detZ m * ·) = [detZ m, 0, 0, 0, detZ m, 0, 0, 0, detZ m] := by simp [one9]
 exact ⟨Pr.of_smul h (by rw [e]; exact mulZ_adj hm), Pr.of_smul h (by rw [e]; exact Hq hm)⟩
/-- Xc vectors as a matrix -/
theorem detZ_mv {m p q r : List Int} (hm : m.length = 9) (hp : p.length = 3) (hq : q.length = 3) (hr : r.length = 3) : detZ (mvZ m p ++ mvZ m q ++ mvZ m r) = detZ m * detZ (p ++ q ++ r) := by
 obtain ⟨a, b, c, d, e, f, g, h, i, rfl⟩ := nine m hm
 obtain ⟨p0, p1, p2, rfl⟩ := Xc p hp
 obtain ⟨q0, q1, q2, rfl⟩ := Xc q hq
 obtain ⟨r0, r1, r2, rfl⟩ := Xc r hr
 simp only [mvZ, detZ, List.cons_append, List.nil_append]
 grind
theorem detZ_rows {p q r : List Int} (hp : p.length = 3) (hq : q.length = 3) (hr : r.length = 3) (k l n : Int) : detZ (p.map (k * ·) ++ q.map (l * ·) ++ r.map (n * ·)) = k * l * n * detZ (p ++ q ++ r) := by
 obtain ⟨p0, p1, p2, rfl⟩ := Xc p hp
 obtain ⟨q0, q1, q2, rfl⟩ := Xc q hq
 obtain ⟨r0, r1, r2, rfl⟩ := Xc r hr
 simp only [detZ, List.cons_append, List.nil_append, List.map_cons, List.map_nil]
 grind
/-- on one line -/
theorem Pr.line {p q r p' q' r' : List Int} (hp : p.length = 3) (hq : q.length = 3) (hr : r.length = 3) (h1 : Pr p p') (h2 : Pr q q') (h3 : Pr r r') : detZ (p ++ q ++ r) = 0 ↔ detZ (p' ++ q' ++ r') = 0 := by
 have hp' := h1.len ▸ hp
 have hq' := h2.len ▸ hq
 have hr' := h3.len ▸ hr
 obtain ⟨k1, j1, a1, b1, e1⟩ := h1
 obtain ⟨k2, j2, a2, b2, e2⟩ := h2
 obtain ⟨k3, j3, a3, b3, e3⟩ := h3
 have f1 := detZ_rows hp hq hr k1 k2 k3
 have f2 := detZ_rows hp' hq' hr' j1 j2 j3
 rw [e1, e2, e3, f2] at f1
 have p1 : k1 * k2 * k3 ≠ 0 := Int.mul_ne_zero (Int.mul_ne_zero a1 a2) a3
 have p2 : j1 * j2 * j3 ≠ 0 := Int.mul_ne_zero (Int.mul_ne_zero b1 b2) b3
 constructor
 ·intro h
  rw [h, Int.mul_zero] at f1
  exact (Int.mul_eq_zero.1 f1).resolve_left p2
 ·intro h
  rw [h, Int.mul_zero] at f1
  exact (Int.mul_eq_zero.1 f1.symm).resolve_left p1
end Go.Proofs.YtdkgbkbbbldliaaGreat
