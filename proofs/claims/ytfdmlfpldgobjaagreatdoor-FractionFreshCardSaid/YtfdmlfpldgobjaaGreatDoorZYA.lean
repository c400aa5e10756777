/- Fractions in lowest terms: sums, products, quotients, order. Conditions: none. -/
import Derived.Test.YtfdmlfpldgobjaaGreatDoorZNtA
set_option linter.unusedVariables false
set_option linter.unusedSimpArgs false
namespace Go.Proofs.YtfdmlfpldgobjaaGreatDoor.Big
/-- a fraction in lowest terms -/
def low (n : Int) (d : Nat) : Int × Nat := (n / (Nat.gcd n.natAbs d : Nat), d / Nat.gcd n.natAbs d)
/-- in normal form -/
def Nf (f : Int × Nat) : Prop := 0 < f.2 ∧ Nat.gcd f.1.natAbs f.2 = 1
theorem gcd_pos' {n : Int} {d : Nat} (h : 0 < d) : 0 < Nat.gcd n.natAbs d := Nat.gcd_pos_of_pos_right _ h
theorem low_mul {n : Int} {d : Nat} : (low n d).1 * (Nat.gcd n.natAbs d : Nat) = n ∧ (low n d).2 * Nat.gcd n.natAbs d = d := by
 constructor
 ·exact Int.ediv_mul_cancel (Int.ofNat_dvd_left.2 (Nat.gcd_dvd_left _ _))
 ·exact Nat.div_mul_cancel (Nat.gcd_dvd_right _ _)
theorem low_nf {n : Int} {d : Nat} (h : 0 < d) : Nf (low n d) := by
 obtain ⟨h1, h2⟩ := low_mul (n := n) (d := d)
 have hg := gcd_pos' (n := n) h
 have h1' := congrArg Int.natAbs h1
 rw [Int.natAbs_mul, Int.natAbs_natCast] at h1'
 constructor
 ·rcases Nat.eq_zero_or_pos (low n d).2 with h0 | h0
  ·rw [h0, Nat.zero_mul] at h2; omega
  ·exact h0
 ·have h3 : Nat.gcd ((low n d).1.natAbs * Nat.gcd n.natAbs d) ((low n d).2 * Nat.gcd n.natAbs d) = Nat.gcd n.natAbs d := by rw [h1', h2]
  rw [Nat.gcd_mul_right] at h3
  exact Nat.eq_of_mul_eq_mul_right hg (by rw [h3, Nat.one_mul])
theorem nf_unique {n m : Int} {d e : Nat} (h1 : Nf (n, d)) (h2 : Nf (m, e)) (h : n * e = m * d) : n = m ∧ d = e := by
 have ha : n.natAbs * e = m.natAbs * d := by
  have := congrArg Int.natAbs h
  rwa [Int.natAbs_mul, Int.natAbs_mul, Int.natAbs_natCast, Int.natAbs_natCast] at this
 have hd : d ∣ e := (Nat.Coprime.dvd_of_dvd_mul_left (Nat.coprime_comm.1 h1.2) ⟨m.natAbs, by rw [ha, Nat.mul_comm]⟩)
 have he : e ∣ d := (Nat.Coprime.dvd_of_dvd_mul_left (Nat.coprime_comm.1 h2.2) ⟨n.natAbs, by rw [← ha, Nat.mul_comm]⟩)
 have hde := Nat.dvd_antisymm hd he
 subst hde
 have hp := h1.1
 exact ⟨Int.eq_of_mul_eq_mul_right (by simp at hp; omega) h, rfl⟩
theorem low_eq {n m : Int} {d e : Nat} (hd : 0 < d) (he : 0 < e) (h : n * e = m * d) : low n d = low m e := by
 have h1 := low_nf (n := n) hd
 have h2 := low_nf (n := m) he
 obtain ⟨a1, a2⟩ := low_mul (n := n) (d := d)
 obtain ⟨b1, b2⟩ := low_mul (n := m) (d := e)
 have hg := gcd_pos' (n := n) hd
 have hg' := gcd_pos' (n := m) he
 have hx : (low n d).1 * ((low m e).2 : Int) = (low m e).1 * ((low n d).2 : Int) := by
  generalize Nat.gcd n.natAbs d = g at *
  generalize Nat.gcd m.natAbs e = g' at *
  generalize (low n d).1 = p at *
  generalize (low n d).2 = q at *
  generalize (low m e).1 = r at *
  generalize (low m e).2 = s at *
  subst a1 a2 b1 b2
  have h3 : (p * (s : Int)) * ((g : Int) * g') = (r * (q : Int)) * ((g : Int) * g') := by
   simp only [Int.natCast_mul] at h
   calc (p * (s : Int)) * ((g : Int) * g') = (p * g) * ((s : Int) * g') := by ac_rfl
    _ = (r * g') * ((q : Int) * g) := h
    _ = _ := by ac_rfl
  exact Int.eq_of_mul_eq_mul_right (Int.mul_ne_zero (by omega) (by omega)) h3
 obtain ⟨e1, e2⟩ := nf_unique (n := (low n d).1) (d := (low n d).2) (m := (low m e).1) (e := (low m e).2) h1 h2 hx
 exact Prod.ext e1 e2
theorem low_self {n : Int} {d : Nat} (h : Nf (n, d)) : low n d = (n, d) := by
 unfold low
 have := h.2
 simp only at this
 rw [this]
 simp
/-- sums and products of fractions -/
def fadd (a b : Int × Nat) : Int × Nat := low (a.1 * b.2 + b.1 * a.2) (a.2 * b.2)
def fmul (a b : Int × Nat) : Int × Nat := low (a.1 * b.1) (a.2 * b.2)
theorem low_cross {n : Int} {d : Nat} (h : 0 < d) : (low n d).1 * d = n * ((low n d).2 : Int) := by
 obtain ⟨a1, a2⟩ := low_mul (n := n) (d := d)
 generalize Nat.gcd n.natAbs d = g at *
 generalize (low n d).1 = p at *
 generalize (low n d).2 = q at *
 subst a1 a2
 simp only [Int.natCast_mul]
 ac_rfl
theorem fadd_low {n m : Int} {d e : Nat} (hd : 0 < d) (he : 0 < e) : fadd (low n d) (low m e) = low (n * e + m * d) (d * e) := by
 have h1 := low_cross (n := n) hd
 have h2 := low_cross (n := m) he
 have p1 := (low_nf (n := n) hd).1
 have p2 := (low_nf (n := m) he).1
 unfold fadd
 apply low_eq (Nat.mul_pos p1 p2) (Nat.mul_pos hd he)
 generalize (low n d).1 = p at *
 generalize (low n d).2 = q at *
 generalize (low m e).1 = r at *
 generalize (low m e).2 = s at *
 simp only [Int.natCast_mul]
 grind
theorem fmul_low {n m : Int} {d e : Nat} (hd : 0 < d) (he : 0 < e) : fmul (low n d) (low m e) = low (n * m) (d * e) := by
 have h1 := low_cross (n := n) hd
 have h2 := low_cross (n := m) he
 have p1 := (low_nf (n := n) hd).1
 have p2 := (low_nf (n := m) he).1
 unfold fmul
 apply low_eq (Nat.mul_pos p1 p2) (Nat.mul_pos hd he)
 generalize (low n d).1 = p at *
 generalize (low n d).2 = q at *
 generalize (low m e).1 = r at *
 generalize (low m e).2 = s at *
 simp only [Int.natCast_mul]
 grind
theorem fadd_nf {a b : Int × Nat} (ha : Nf a) (hb : Nf b) : Nf (fadd a b) := low_nf (Nat.mul_pos ha.1 hb.1)
theorem fmul_nf {a b : Int × Nat} (ha : Nf a) (hb : Nf b) : Nf (fmul a b) := low_nf (Nat.mul_pos ha.1 hb.1)
theorem nf_low {a : Int × Nat} (ha : Nf a) : a = low a.1 a.2 := (low_self (n := a.1) (d := a.2) ha).symm
theorem fadd_comm (a b : Int × Nat) : fadd a b = fadd b a := by unfold fadd; rw [Int.add_comm, Nat.mul_comm]
theorem fmul_comm (a b : Int × Nat) : fmul a b = fmul b a := by unfold fmul; rw [Int.mul_comm, Nat.mul_comm]
theorem fadd_assoc {a b c : Int × Nat} (ha : Nf a) (hb : Nf b) (hc : Nf c) : fadd (fadd a b) c = fadd a (fadd b c) := by
 have h1 : fadd (fadd a b) c = low ((a.1 * b.2 + b.1 * a.2) * c.2 + c.1 * (a.2 * b.2 : Nat)) (a.2 * b.2 * c.2) := by
  conv => lhs; rw [nf_low hc]
  exact fadd_low (Nat.mul_pos ha.1 hb.1) hc.1
 have h2 : fadd a (fadd b c) = low (a.1 * (b.2 * c.2 : Nat) + (b.1 * c.2 + c.1 * b.2) * a.2) (a.2 * (b.2 * c.2)) := by
  conv => lhs; rw [nf_low ha]
  exact fadd_low ha.1 (Nat.mul_pos hb.1 hc.1)
 rw [h1, h2]
 apply low_eq (Nat.mul_pos (Nat.mul_pos ha.1 hb.1) hc.1) (Nat.mul_pos ha.1 (Nat.mul_pos hb.1 hc.1))
 simp only [Int.natCast_mul]
 grind
theorem fmul_assoc {a b c : Int × Nat} (ha : Nf a) (hb : Nf b) (hc : Nf c) : fmul (fmul a b) c = fmul a (fmul b c) := by
 have h1 : fmul (fmul a b) c = low (a.1 * b.1 * c.1) (a.2 * b.2 * c.2) := by
  conv => lhs; rw [nf_low hc]
  exact fmul_low (Nat.mul_pos ha.1 hb.1) hc.1
 have h2 : fmul a (fmul b c) = low (a.1 * (b.1 * c.1)) (a.2 * (b.2 * c.2)) := by
  conv => lhs; rw [nf_low ha]
  exact fmul_low ha.1 (Nat.mul_pos hb.1 hc.1)
 rw [h1, h2, Int.mul_assoc, Nat.mul_assoc]
theorem fmul_fadd {a b c : Int × Nat} (ha : Nf a) (hb : Nf b) (hc : Nf c) : fmul a (fadd b c) = fadd (fmul a b) (fmul a c) := by
 have h1 : fmul a (fadd b c) = low (a.1 * (b.1 * c.2 + c.1 * b.2)) (a.2 * (b.2 * c.2)) := by
  conv => lhs; rw [nf_low ha]
  exact fmul_low ha.1 (Nat.mul_pos hb.1 hc.1)
 have h2 : fadd (fmul a b) (fmul a c) = low (a.1 * b.1 * (a.2 * c.2 : Nat) + a.1 * c.1 * (a.2 * b.2 : Nat)) (a.2 * b.2 * (a.2 * c.2)) :=
  fadd_low (Nat.mul_pos ha.1 hb.1) (Nat.mul_pos ha.1 hc.1)
 rw [h1, h2]
 apply low_eq (Nat.mul_pos ha.1 (Nat.mul_pos hb.1 hc.1)) (Nat.mul_pos (Nat.mul_pos ha.1 hb.1) (Nat.mul_pos ha.1 hc.1))
 simp only [Int.natCast_mul]
 grind
def fneg (a : Int × Nat) : Int × Nat := (-a.1, a.2)
theorem fneg_nf {a : Int × Nat} (h : Nf a) : Nf (fneg a) := ⟨h.1, by unfold fneg; rw [Int.natAbs_neg]; exact h.2⟩
def fsub (a b : Int × Nat) : Int × Nat := low (a.1 * b.2 - b.1 * a.2) (a.2 * b.2)
theorem fsub_eq (a b : Int × Nat) : fsub a b = fadd a (fneg b) := by unfold fsub fadd fneg; rw [Int.neg_mul, Int.sub_eq_add_neg]
theorem fsub_fadd {a b : Int × Nat} (ha : Nf a) (hb : Nf b) : fsub (fadd a b) b = a := by
 have h1 : fsub (fadd a b) b = low ((a.1 * b.2 + b.1 * a.2) * b.2 + (-b.1) * (a.2 * b.2 : Nat)) (a.2 * b.2 * b.2) := by
  rw [fsub_eq]
  conv => lhs; rw [nf_low (fneg_nf hb)]
  exact fadd_low (Nat.mul_pos ha.1 hb.1) hb.1
 rw [h1]
 conv => rhs; rw [nf_low ha]
 apply low_eq (Nat.mul_pos (Nat.mul_pos ha.1 hb.1) hb.1) ha.1
 simp only [Int.natCast_mul]
 grind
/-- a quotient: the divisor is not 0 -/
def fdiv (a b : Int × Nat) : Int × Nat := low (if b.1 < 0 then -(a.1 * b.2) else a.1 * b.2) (a.2 * b.1.natAbs)
theorem fdiv_fmul {a b : Int × Nat} (ha : Nf a) (hb : Nf b) (h0 : b.1 ≠ 0) : fdiv (fmul a b) b = a := by
 obtain ⟨b1, b2⟩ := b
 simp only at h0
 have hp : 0 < b1.natAbs := by omega
 have hb2 := hb.1
 simp only at hb2
 have e : (if b1 < 0 then -((fmul a (b1, b2)).1 * (b2 : Int)) else (fmul a (b1, b2)).1 * (b2 : Int)) * b1 = (fmul a (b1, b2)).1 * (b2 : Int) * (b1.natAbs : Int) := by
  split
  ·rw [show (b1.natAbs : Int) = -b1 by omega]; grind
  ·rw [show (b1.natAbs : Int) = b1 by omega]
 have hc := low_cross (n := a.1 * b1) (d := a.2 * b2) (Nat.mul_pos ha.1 hb2)
 have hq := (low_nf (n := a.1 * b1) (d := a.2 * b2) (Nat.mul_pos ha.1 hb2)).1
 conv => rhs; rw [nf_low ha]
 unfold fdiv
 apply low_eq (Nat.mul_pos hq hp) ha.1
 change (if b1 < 0 then -((fmul a (b1, b2)).1 * (b2 : Int)) else (fmul a (b1, b2)).1 * (b2 : Int)) * (a.2 : Int) = a.1 * (((fmul a (b1, b2)).2 * b1.natAbs : Nat) : Int)
 change (fmul a (b1, b2)).1 * ((a.2 * b2 : Nat) : Int) = a.1 * b1 * ((fmul a (b1, b2)).2 : Int) at hc
 generalize (fmul a (b1, b2)).1 = p at *
 generalize (fmul a (b1, b2)).2 = q at *
 generalize (if b1 < 0 then -(p * (b2 : Int)) else p * (b2 : Int)) = r at *
 simp only [Int.natCast_mul] at *
 apply Int.eq_of_mul_eq_mul_right h0
 have h5 : r * (a.2 : Int) * b1 = p * (b2 : Int) * (b1.natAbs : Int) * (a.2 : Int) := by rw [← e]; ac_rfl
 rw [h5]
 have h6 : a.1 * ((q : Int) * (b1.natAbs : Int)) * b1 = (a.1 * b1 * (q : Int)) * (b1.natAbs : Int) := by ac_rfl
 rw [h6, ← hc]
 ac_rfl
/-- the order of fractions -/
def flt (a b : Int × Nat) : Prop := a.1 * b.2 < b.1 * a.2
theorem flt_trans {a b c : Int × Nat} (ha : Nf a) (hb : Nf b) (hc : Nf c) (h1 : flt a b) (h2 : flt b c) : flt a c := by
 unfold flt at *
 have pa := ha.1
 have pb := hb.1
 have pc := hc.1
 have h3 : a.1 * b.2 * c.2 < b.1 * a.2 * c.2 := Int.mul_lt_mul_of_pos_right h1 (by omega)
 have h4 : b.1 * c.2 * a.2 < c.1 * b.2 * a.2 := Int.mul_lt_mul_of_pos_right h2 (by omega)
 have h5 : (a.1 * c.2) * b.2 < (c.1 * a.2) * (b.2 : Int) := by
  have e1 : (a.1 * c.2) * (b.2 : Int) = a.1 * b.2 * c.2 := by ac_rfl
  have e2 : (c.1 * a.2) * (b.2 : Int) = c.1 * b.2 * a.2 := by ac_rfl
  have e3 : b.1 * a.2 * (c.2 : Int) = b.1 * c.2 * a.2 := by ac_rfl
  omega
 exact Int.lt_of_mul_lt_mul_right h5 (by omega)
theorem feq_iff {a b : Int × Nat} (ha : Nf a) (hb : Nf b) : a = b ↔ a.1 * b.2 = b.1 * a.2 := by
 constructor
 ·rintro rfl; rfl
 ·intro h
  obtain ⟨h1, h2⟩ := nf_unique (n := a.1) (d := a.2) (m := b.1) (e := b.2) ha hb h
  exact Prod.ext h1 h2
theorem flt_add {a b c : Int × Nat} (ha : Nf a) (hb : Nf b) (hc : Nf c) : flt (fadd a c) (fadd b c) ↔ flt a b := by
 have pa := ha.1
 have pb := hb.1
 have pc := hc.1
 have h1 := low_cross (n := a.1 * c.2 + c.1 * a.2) (d := a.2 * c.2) (Nat.mul_pos pa pc)
 have h2 := low_cross (n := b.1 * c.2 + c.1 * b.2) (d := b.2 * c.2) (Nat.mul_pos pb pc)
 have q1 := (low_nf (n := a.1 * c.2 + c.1 * a.2) (d := a.2 * c.2) (Nat.mul_pos pa pc)).1
 have q2 := (low_nf (n := b.1 * c.2 + c.1 * b.2) (d := b.2 * c.2) (Nat.mul_pos pb pc)).1
 unfold flt
 change (fadd a c).1 * ((a.2 * c.2 : Nat) : Int) = _ * ((fadd a c).2 : Int) at h1
 change (fadd b c).1 * ((b.2 * c.2 : Nat) : Int) = _ * ((fadd b c).2 : Int) at h2
 change 0 < (fadd a c).2 at q1
 change 0 < (fadd b c).2 at q2
 generalize (fadd a c).1 = p at *
 generalize (fadd a c).2 = q at *
 generalize (fadd b c).1 = r at *
 generalize (fadd b c).2 = s at *
 simp only [Int.natCast_mul] at h1 h2
 have k : (0 : Int) < (a.2 : Int) * b.2 * c.2 * c.2 := Int.mul_pos (Int.mul_pos (Int.mul_pos (by omega) (by omega)) (by omega)) (by omega)
 have k2 : (0 : Int) < (q : Int) * s * c.2 * c.2 := Int.mul_pos (Int.mul_pos (Int.mul_pos (by omega) (by omega)) (by omega)) (by omega)
 have e : (p * s - r * q) * ((a.2 : Int) * b.2 * c.2 * c.2) = (a.1 * b.2 - b.1 * a.2) * ((q : Int) * s * c.2 * c.2) := by grind
 generalize ((a.2 : Int) * b.2 * c.2 * c.2) = K at *
 generalize ((q : Int) * s * c.2 * c.2) = K2 at *
 generalize p * (s : Int) = u at *
 generalize r * (q : Int) = v at *
 generalize a.1 * (b.2 : Int) = x at *
 generalize b.1 * (a.2 : Int) = y at *
 constructor
 ·intro h
  rcases (show x < y ∨ y ≤ x by omega) with h0 | h0
  ·exact h0
  ·exfalso
   have h3 : (u - v) * K < 0 := Int.mul_neg_of_neg_of_pos (by omega) k
   have h4 : 0 ≤ (x - y) * K2 := Int.mul_nonneg (by omega) (by omega)
   omega
 ·intro h
  rcases (show u < v ∨ v ≤ u by omega) with h0 | h0
  ·exact h0
  ·exfalso
   have h3 : (x - y) * K2 < 0 := Int.mul_neg_of_neg_of_pos (by omega) k2
   have h4 : 0 ≤ (u - v) * K := Int.mul_nonneg (by omega) (by omega)
   omega
end Go.Proofs.YtfdmlfpldgobjaaGreatDoor.Big
/- The simplest fraction between two positive ones: continued fractions. Conditions: none. -/
namespace Go.Proofs.YtfdmlfpldgobjaaGreatDoor.Big
/-- the simplest fraction from n/d to m/k -/
def simpl (n d m k : Nat) : Nat × Nat :=
 if h : d = 0 ∨ k = 0 ∨ n % d = 0 then (n / d, 1)
 else if n / d < m / k then (n / d + 1, 1)
 else
  let r := simpl k (m % k) d (n % d)
  (n / d * r.1 + r.2, r.1)
termination_by d + k
decreasing_by
 have h1 := Nat.mod_lt m (show 0 < k by omega)
 have h2 := Nat.mod_lt n (show 0 < d by omega)
 omega
theorem simpl_int {n d m k : Nat} (h : n % d = 0) : simpl n d m k = (n / d, 1) := by rw [simpl, dif_pos (.inr (.inr h))]
theorem simpl_next {n d m k : Nat} (hd : d ≠ 0) (hk : k ≠ 0) (h : n % d ≠ 0) (hlt : n / d < m / k) : simpl n d m k = (n / d + 1, 1) := by
 rw [simpl, dif_neg (by omega), if_pos hlt]
theorem simpl_rec {n d m k : Nat} (hd : d ≠ 0) (hk : k ≠ 0) (h : n % d ≠ 0) (hlt : ¬ n / d < m / k) : simpl n d m k = (n / d * (simpl k (m % k) d (n % d)).1 + (simpl k (m % k) d (n % d)).2, (simpl k (m % k) d (n % d)).1) := by
 rw [simpl, dif_neg (by omega), if_neg hlt]
/-- lies between n/d and m/k -/
def Btw (n d m k u v : Nat) : Prop := n * v ≤ u * d ∧ u * k ≤ m * v
theorem same_floor {n d m k : Nat} (hd : 0 < d) (hk : 0 < k) (hle : n * k ≤ m * d) (hlt : ¬ n / d < m / k) : n / d = m / k := by
 have h1 : n / d ≤ m / k := by
  rw [Nat.le_div_iff_mul_le hk]
  have h2 := Nat.div_mul_le_self n d
  have h3 : n / d * k * d ≤ m * d := by
   calc n / d * k * d = n / d * d * k := by ac_rfl
    _ ≤ n * k := Nat.mul_le_mul_right _ h2
    _ ≤ m * d := hle
  exact Nat.le_of_mul_le_mul_right h3 hd
 omega
/-- the bounds of the rests, turned -/
theorem rest_le {n d m k : Nat} (hle : n * k ≤ m * d) (he : n / d = m / k) : k * (n % d) ≤ d * (m % k) := by
 have h1 := Nat.div_add_mod n d
 have h2 := Nat.div_add_mod m k
 rw [he] at h1
 generalize m / k = q at *
 generalize n % d = r at *
 generalize m % k = s at *
 subst h1 h2
 have e1 : (d * q + r) * k = d * q * k + k * r := by grind
 have e2 : (k * q + s) * d = d * q * k + d * s := by grind
 omega
theorem simpl_spec : ∀ (N n d m k : Nat), d + k ≤ N → 0 < d → 0 < k → n * k ≤ m * d →
  Btw n d m k (simpl n d m k).1 (simpl n d m k).2 ∧ 0 < (simpl n d m k).2 ∧ Nat.gcd (simpl n d m k).1 (simpl n d m k).2 = 1 ∧ (0 < n → 0 < (simpl n d m k).1) ∧ ∀ u v, 0 < v → Btw n d m k u v → (simpl n d m k).1 ≤ u ∧ (simpl n d m k).2 ≤ v := by
 intro N
 induction N with
 | zero => intro n d m k h hd; omega
 | succ N ih =>
  intro n d m k hN hd hk hle
  by_cases hr : n % d = 0
  ·rw [simpl_int hr]
   have e : n = d * (n / d) := by have := Nat.div_add_mod n d; omega
   generalize n / d = q at *
   subst e
   refine ⟨⟨by simp [Nat.mul_comm], ?_⟩, by simp, by simp, ?_, ?_⟩
   ·simp only [Nat.mul_one]
    have : d * (q * k) ≤ d * m := by
     calc d * (q * k) = d * q * k := by ac_rfl
      _ ≤ m * d := hle
      _ = d * m := Nat.mul_comm _ _
    exact Nat.le_of_mul_le_mul_left this hd
   ·intro h0
    simp only
    rcases Nat.eq_zero_or_pos q with h | h
    ·subst h; simp at h0
    ·exact h
   ·rintro u v hv ⟨h1, h2⟩
    have : d * (q * v) ≤ d * u := by
     calc d * (q * v) = d * q * v := by ac_rfl
      _ ≤ u * d := h1
      _ = d * u := Nat.mul_comm _ _
    have := Nat.le_of_mul_le_mul_left this hd
    exact ⟨Nat.le_trans (Nat.le_mul_of_pos_right q hv) this, hv⟩
  ·have hnd := Nat.div_add_mod n d
   have hrl := Nat.mod_lt n hd
   by_cases hlt : n / d < m / k
   ·rw [simpl_next (by omega) (by omega) hr hlt]
    have hmk := Nat.div_add_mod m k
    generalize n % d = r at *
    generalize m % k = s at *
    generalize n / d = q at *
    generalize m / k = p at *
    subst hnd hmk
    refine ⟨⟨?_, ?_⟩, by simp, by simp, by simp, ?_⟩
    ·simp only [Nat.mul_one]
     rw [Nat.add_mul, Nat.mul_comm d q]
     omega
    ·simp only [Nat.mul_one]
     have : (q + 1) * k ≤ p * k := Nat.mul_le_mul_right _ hlt
     rw [Nat.mul_comm p k] at this
     omega
    ·rintro u v hv ⟨h1, h2⟩
     refine ⟨?_, hv⟩
     rcases Nat.lt_or_ge u (q + 1) with h | h
     ·exfalso
      have h3 : u * d ≤ q * d := Nat.mul_le_mul_right _ (by omega)
      have h4 : d * q + r ≤ (d * q + r) * v := Nat.le_mul_of_pos_right _ hv
      rw [Nat.mul_comm q d] at h3
      omega
     ·exact h
   ·rw [simpl_rec (by omega) (by omega) hr hlt]
    have he := same_floor hd hk hle hlt
    have hrs := rest_le hle he
    have hmk := Nat.div_add_mod m k
    have hsl := Nat.mod_lt m hk
    have hs0 : 0 < m % k := by
     rcases Nat.eq_zero_or_pos (m % k) with h | h
     ·rw [h, Nat.mul_zero] at hrs
      have : 0 < k * (n % d) := Nat.mul_pos hk (by omega)
      omega
     ·exact h
    obtain ⟨i1, i2, i3, i4, i5⟩ := ih k (m % k) d (n % d) (by omega) hs0 (by omega) hrs
    have i4 := i4 hk
    rw [← he] at hmk
    generalize (simpl k (m % k) d (n % d)).1 = x at *
    generalize (simpl k (m % k) d (n % d)).2 = y at *
    generalize n % d = r at *
    generalize m % k = s at *
    generalize n / d = q at *
    subst hnd hmk
    obtain ⟨j1, j2⟩ := i1
    refine ⟨⟨?_, ?_⟩, i4, ?_, ?_, ?_⟩
    ·simp only
     have e1 : (d * q + r) * x = d * q * x + x * r := by grind
     have e2 : (q * x + y) * d = d * q * x + d * y := by grind
     omega
    ·simp only
     have e1 : (q * x + y) * k = k * q * x + k * y := by grind
     have e2 : (k * q + s) * x = k * q * x + x * s := by grind
     omega
    ·simp only
     rw [Nat.gcd_comm, Nat.add_comm, Nat.gcd_add_mul_right_right]
     exact i3
    ·intro _
     simp only
     omega
    ·rintro u v hv ⟨h1, h2⟩
     simp only
     have hqv : q * v ≤ u := by
      have h3 : d * (q * v) ≤ d * u := by
       have e1 : (d * q + r) * v = d * (q * v) + r * v := by grind
       have e2 : u * d = d * u := Nat.mul_comm _ _
       omega
      exact Nat.le_of_mul_le_mul_left h3 hd
     obtain ⟨w, hw⟩ : ∃ w, u = q * v + w := ⟨u - q * v, by omega⟩
     subst hw
     have h3 : r * v ≤ w * d := by
      have e1 : (d * q + r) * v = d * q * v + r * v := by grind
      have e2 : (q * v + w) * d = d * q * v + w * d := by grind
      omega
     have h4 : w * k ≤ s * v := by
      have e1 : (q * v + w) * k = k * q * v + w * k := by grind
      have e2 : (k * q + s) * v = k * q * v + s * v := by grind
      omega
     have hw0 : 0 < w := by
      rcases Nat.eq_zero_or_pos w with h | h
      ·subst h
       have : 0 < r * v := Nat.mul_pos (by omega) hv
       omega
      ·exact h
     obtain ⟨k1, k2⟩ := i5 v w hw0 ⟨by rw [Nat.mul_comm k w, Nat.mul_comm v s]; exact h4, by rw [Nat.mul_comm v r, Nat.mul_comm d w]; exact h3⟩
     exact ⟨Nat.add_le_add (Nat.mul_le_mul_left _ k1) k2, k1⟩
end Go.Proofs.YtfdmlfpldgobjaaGreatDoor.Big
/- Bits, the rounds of the reference's greatest common divisor, rounding. Conditions: none. -/
namespace Go.Proofs.YtfdmlfpldgobjaaGreatDoor.Big
/-- the number of bits -/
def bl (x : Nat) : Nat := if h : x = 0 then 0 else bl (x / 2) + 1
termination_by x
decreasing_by omega
theorem bl_zero : bl 0 = 0 := by rw [bl]; simp
theorem bl_pos {x : Nat} (h : x ≠ 0) : bl x = bl (x / 2) + 1 := by rw [bl, dif_neg h]
theorem bl_le : ∀ k x, x < 2 ^ k → bl x ≤ k := by
 intro k
 induction k with
 | zero => intro x h; simp at h; subst h; rw [bl_zero]; omega
 | succ k ih =>
  intro x h
  by_cases h0 : x = 0
  ·subst h0; rw [bl_zero]; omega
  ·rw [bl_pos h0]
   have := ih (x / 2) (by rw [Nat.pow_succ] at h; omega)
   omega
theorem bl_mono : ∀ b a, a ≤ b → bl a ≤ bl b := by
 intro b
 induction b using Nat.strongRecOn with
 | _ b ih =>
  intro a h
  by_cases h0 : a = 0
  ·subst h0; rw [bl_zero]; omega
  ·rw [bl_pos h0, bl_pos (by omega : b ≠ 0)]
   have := ih (b / 2) (by omega) (a / 2) (by omega)
   omega
/-- how many rounds are still to come -/
def phi (a b : Nat) : Nat := if b = 0 then 0 else 2 * (bl a + bl b) + (if a % 2 = 1 ∧ b % 2 = 1 then 1 else 0)
theorem phi_pos {a b : Nat} (h : b ≠ 0) : phi a b = 2 * (bl a + bl b) + (if a % 2 = 1 ∧ b % 2 = 1 then 1 else 0) := by unfold phi; rw [if_neg h]
theorem phi_a {a b : Nat} (ha : a ≠ 0) (hb : b ≠ 0) (h : a % 2 = 0) : phi (a / 2) b + 1 ≤ phi a b := by
 rw [phi_pos hb, phi_pos hb, bl_pos ha]
 split <;> split <;> omega
theorem phi_b {a b : Nat} (hb : b ≠ 0) (h : b % 2 = 0) : phi a (b / 2) + 1 ≤ phi a b := by
 rw [phi_pos hb, phi_pos (by omega : b / 2 ≠ 0), bl_pos hb]
 split <;> split <;> omega
theorem phi_s1 {a b : Nat} (hb : b ≠ 0) (h1 : a % 2 = 1) (h2 : b % 2 = 1) : phi (a - b) b + 1 ≤ phi a b := by
 rw [phi_pos hb, phi_pos hb, if_neg (by omega : ¬ ((a - b) % 2 = 1 ∧ b % 2 = 1)), if_pos ⟨h1, h2⟩]
 have := bl_mono a (a - b) (by omega)
 omega
theorem phi_s2 {a b : Nat} (hb : b ≠ 0) (h1 : a % 2 = 1) (h2 : b % 2 = 1) : phi a (b - a) + 1 ≤ phi a b := by
 rw [phi_pos hb, if_pos ⟨h1, h2⟩]
 unfold phi
 have := bl_mono b (b - a) (by omega)
 split
 ·omega
 ·split <;> omega
theorem phi_le {a b k j : Nat} (ha : a < 2 ^ k) (hb : b < 2 ^ j) : phi a b ≤ 2 * (k + j) + 1 := by
 unfold phi
 have h1 := bl_le k a ha
 have h2 := bl_le j b hb
 split
 ·omega
 ·split <;> omega
/-- the floor of n/d + 1/2 -/
theorem round_floor {n : Int} {d : Nat} (hd : 0 < d) : (2 * n + d) / (2 * d) = n / d + (if n % d < d - n % d then 0 else 1) := by
 have h1 := Int.mul_ediv_add_emod n d
 have h2 := Int.emod_nonneg n (show (d : Int) ≠ 0 by omega)
 have h3 := Int.emod_lt_of_pos n (show (0 : Int) < d by omega)
 generalize n % (d : Int) = r at *
 generalize n / (d : Int) = q at *
 subst h1
 have e : 2 * ((d : Int) * q + r) + d = (2 * r + d) + 2 * d * q := by grind
 rw [e, Int.add_mul_ediv_left _ _ (by omega)]
 split
 ·rw [Int.ediv_eq_zero_of_lt (by omega) (by omega)]; omega
 ·have : (2 * r + d) / (2 * (d : Int)) = 1 := by
   rw [show (2 * r + d : Int) = (2 * r - d) + 2 * d * 1 by omega, Int.add_mul_ediv_left _ _ (by omega), Int.ediv_eq_zero_of_lt (by omega) (by omega)]
   omega
  omega
end Go.Proofs.YtfdmlfpldgobjaaGreatDoor.Big
/- Long division bit by bit, a limb moved up. Conditions: none. -/
namespace Go.Proofs.YtfdmlfpldgobjaaGreatDoor.Big
theorem dv_no {A m b : Nat} (h : 2 * (A % m) + b < m) : (2 * A + b) / m = 2 * (A / m) ∧ (2 * A + b) % m = 2 * (A % m) + b := by
 have h1 := Nat.mod_add_div A m
 have e : 2 * A + b = (2 * (A % m) + b) + m * (2 * (A / m)) := by
  rw [Nat.mul_left_comm]; omega
 have hm : 0 < m := by omega
 constructor
 ·rw [e, Nat.add_mul_div_left _ _ hm, Nat.div_eq_of_lt h, Nat.zero_add]
 ·rw [e, Nat.add_mul_mod_self_left, Nat.mod_eq_of_lt h]
theorem dv_yes {A m b : Nat} (hm : 0 < m) (hb : b ≤ 1) (h : m ≤ 2 * (A % m) + b) : (2 * A + b) / m = 2 * (A / m) + 1 ∧ (2 * A + b) % m = 2 * (A % m) + b - m := by
 have h1 := Nat.mod_add_div A m
 have h2 := Nat.mod_lt A hm
 have hlt : 2 * (A % m) + b - m < m := by omega
 have e : 2 * A + b = (2 * (A % m) + b - m) + m * (2 * (A / m) + 1) := by
  rw [Nat.mul_add, Nat.mul_left_comm]; omega
 constructor
 ·rw [e, Nat.add_mul_div_left _ _ hm, Nat.div_eq_of_lt hlt, Nat.zero_add]
 ·rw [e, Nat.add_mul_mod_self_left, Nat.mod_eq_of_lt hlt]
theorem two_split {k : Nat} (hk : k < 32) : (4294967296 : Nat) = 2 ^ (31 - k) * 2 * 2 ^ k ∧ (2147483648 : Nat) = 2 ^ (31 - k) * 2 ^ k := by
 have h : (2147483648 : Nat) = 2 ^ (31 - k) * 2 ^ k := by rw [← Nat.pow_add, show 31 - k + k = 31 by omega]
 refine ⟨?_, h⟩
 have : (4294967296 : Nat) = 2 * 2147483648 := by decide
 rw [this, h]
 ac_rfl
/-- the next bit of a limb that has been moved k places up -/
theorem limb_bit {x k : Nat} (hk : k < 32) : x * 2 ^ k % 4294967296 / 2147483648 = x / 2 ^ (31 - k) % 2 := by
 obtain ⟨h1, h2⟩ := two_split hk
 rw [h1, h2, Nat.mul_mod_mul_right, Nat.mul_div_mul_right _ _ (Nat.pow_pos (by decide)), Nat.mod_mul_right_div_self]
theorem limb_up {x k : Nat} : x * 2 ^ k % 4294967296 * 2 % 4294967296 = x * 2 ^ (k + 1) % 4294967296 := by
 rw [Nat.pow_succ, ← Nat.mul_assoc, Nat.mod_mul_mod]
theorem limb_next {x k A : Nat} (hk : k < 32) : 2 * (A * 2 ^ k + x / 2 ^ (32 - k)) + x / 2 ^ (31 - k) % 2 = A * 2 ^ (k + 1) + x / 2 ^ (32 - (k + 1)) := by
 have h : x / 2 ^ (31 - k) = 2 * (x / 2 ^ (32 - k)) + x / 2 ^ (31 - k) % 2 := by
  rw [show 32 - k = (31 - k) + 1 by omega, Nat.pow_succ, ← Nat.div_div_eq_div_mul]
  omega
 rw [show 32 - (k + 1) = 31 - k by omega, Nat.pow_succ]
 generalize x / 2 ^ (31 - k) % 2 = b at *
 rw [h]
 grind
theorem shift_carry {x q : Nat} (hq : q ≤ 1) : (x * 2 + q) / 4294967296 = x / 2147483648 := by omega
end Go.Proofs.YtfdmlfpldgobjaaGreatDoor.Big
