/- Fractions in lowest terms: sums, products, quotients, order. Conditions: none. -/
import Derived.Test.YtgnfobnkhjlbbaaZNtA
set_option linter.unusedVariables false
set_option linter.unusedSimpArgs false
namespace Go.Proofs.Ytgnfobnkhjlbbaa.Big

/-- a fraction in lowest terms -/
def low (n : Int) (d : Nat) : Int × Nat := (n / (Nat.gcd n.natAbs d : Nat), d / Nat.gcd n.natAbs d)
/-- in normal form -/
def Nf (f : Int × Nat) : Prop := 0 < f.2 ∧ Nat.gcd f.1.natAbs f.2 = 1
theorem gcd_pos' {n : Int} {d : Nat} (h : 0 < d) : 0 < Nat.gcd n.natAbs d := Nat.gcd_pos_of_pos_right _ h
theorem low_mul {n : Int} {d : Nat} : (low n d).1 * (Nat.gcd n.natAbs d : Nat) = n ∧ (low n d).2 * Nat.gcd n.natAbs d = d := by
  constructor
  · exact Int.ediv_mul_cancel (Int.ofNat_dvd_left.2 (Nat.gcd_dvd_left _ _))
  · exact Nat.div_mul_cancel (Nat.gcd_dvd_right _ _)
theorem low_nf {n : Int} {d : Nat} (h : 0 < d) : Nf (low n d) := by
  obtain ⟨h1, h2⟩ := low_mul (n := n) (d := d)
  have hg := gcd_pos' (n := n) h
  have h1' := congrArg Int.natAbs h1
  rw [Int.natAbs_mul, Int.natAbs_natCast] at h1'
  constructor
  · rcases Nat.eq_zero_or_pos (low n d).2 with h0 | h0
    · rw [h0, Nat.zero_mul] at h2; omega
    · exact h0
  · have h3 : Nat.gcd ((low n d).1.natAbs * Nat.gcd n.natAbs d) ((low n d).2 * Nat.gcd n.natAbs d) = Nat.gcd n.natAbs d := by rw [h1', h2]
    rw [Nat.gcd_mul_right] at h3
    exact Nat.eq_of_mul_eq_mul_right hg (by rw [h3, Nat.one_mul])
theorem nf_unique {n m : Int} {d e : Nat} (h1 : Nf (n, d)) (h2 : Nf (m, e)) (h : n * e = m * d) : n = m ∧ d = e := by
  have ha : n.natAbs * e = m.natAbs * d := by
    have := congrArg Int.natAbs h
    rwa [Int.natAbs_mul, Int.natAbs_mul, Int.natAbs_natCast, Int.natAbs_natCast] at this
  have hd : d ∣ e := (Nat.Coprime.dvd_of_dvd_mul_left (Nat.coprime_comm.1 h1.2) ⟨m.natAbs, by rw [ha, Nat.mul_comm]⟩)
  have he : e ∣ d := (Nat.Coprime.dvd_of_dvd_mul_left (Nat.coprime_comm.1 h2.2) ⟨n.natAbs, by rw [← ha, Nat.mul_comm]⟩)
  have hde := Nat.dvd_antisymm hd he
  subst hde
  have hp := h1.1
  exact ⟨Int.eq_of_mul_eq_mul_right (by simp at hp; omega) h, rfl⟩
theorem low_eq {n m : Int} {d e : Nat} (hd : 0 < d) (he : 0 < e) (h : n * e = m * d) : low n d = low m e := by
  have h1 := low_nf (n := n) hd
  have h2 := low_nf (n := m) he
  obtain ⟨a1, a2⟩ := low_mul (n := n) (d := d)
  obtain ⟨b1, b2⟩ := low_mul (n := m) (d := e)
  have hg := gcd_pos' (n := n) hd
  have hg' := gcd_pos' (n := m) he
  have hx : (low n d).1 * ((low m e).2 : Int) = (low m e).1 * ((low n d).2 : Int) := by
    generalize Nat.gcd n.natAbs d = g at *
    generalize Nat.gcd m.natAbs e = g' at *
    generalize (low n d).1 = p at *
    generalize (low n d).2 = q at *
    generalize (low m e).1 = r at *
    generalize (low m e).2 = s at *
    subst a1 a2 b1 b2
    have h3 : (p * (s : Int)) * ((g : Int) * g') = (r * (q : Int)) * ((g : Int) * g') := by
      simp only [Int.natCast_mul] at h
      calc (p * (s : Int)) * ((g : Int) * g') = (p * g) * ((s : Int) * g') := by ac_rfl
        _ = (r * g') * ((q : Int) * g) := h
        _ = _ := by ac_rfl
    exact Int.eq_of_mul_eq_mul_right (Int.mul_ne_zero (by omega) (by omega)) h3
  obtain ⟨e1, e2⟩ := nf_unique (n := (low n d).1) (d := (low n d).2) (m := (low m e).1) (e := (low m e).2) h1 h2 hx
  exact Prod.ext e1 e2
def fmul (a b : Int × Nat) : Int × Nat := low (a.1 * b.1) (a.2 * b.2)
theorem low_cross {n : Int} {d : Nat} (h : 0 < d) : (low n d).1 * d = n * ((low n d).2 : Int) := by
  obtain ⟨a1, a2⟩ := low_mul (n := n) (d := d)
  generalize Nat.gcd n.natAbs d = g at *
  generalize (low n d).1 = p at *
  generalize (low n d).2 = q at *
  subst a1 a2
  simp only [Int.natCast_mul]
  ac_rfl
def fneg (a : Int × Nat) : Int × Nat := (-a.1, a.2)
theorem fneg_nf {a : Int × Nat} (h : Nf a) : Nf (fneg a) := ⟨h.1, by unfold fneg; rw [Int.natAbs_neg]; exact h.2⟩
def fsub (a b : Int × Nat) : Int × Nat := low (a.1 * b.2 - b.1 * a.2) (a.2 * b.2)
end Go.Proofs.Ytgnfobnkhjlbbaa.Big
/- The simplest fraction between two positive ones: continued fractions. Conditions: none. -/
namespace Go.Proofs.Ytgnfobnkhjlbbaa.Big
/-- the simplest fraction from n/d to m/k -/
def simpl (n d m k : Nat) : Nat × Nat :=
  if h : d = 0 ∨ k = 0 ∨ n % d = 0 then (n / d, 1)
  else if n / d < m / k then (n / d + 1, 1)
  else
    let r := simpl k (m % k) d (n % d)
    (n / d * r.1 + r.2, r.1)
termination_by d + k
decreasing_by
  have h1 := Nat.mod_lt m (show 0 < k by omega)
  have h2 := Nat.mod_lt n (show 0 < d by omega)
  omega
theorem simpl_rec {n d m k : Nat} (hd : d ≠ 0) (hk : k ≠ 0) (h : n % d ≠ 0) (hlt : ¬ n / d < m / k) : simpl n d m k = (n / d * (simpl k (m % k) d (n % d)).1 + (simpl k (m % k) d (n % d)).2, (simpl k (m % k) d (n % d)).1) := by
  rw [simpl, dif_neg (by omega), if_neg hlt]
theorem same_floor {n d m k : Nat} (hd : 0 < d) (hk : 0 < k) (hle : n * k ≤ m * d) (hlt : ¬ n / d < m / k) : n / d = m / k := by
  have h1 : n / d ≤ m / k := by
    rw [Nat.le_div_iff_mul_le hk]
    have h2 := Nat.div_mul_le_self n d
    have h3 : n / d * k * d ≤ m * d := by
      calc n / d * k * d = n / d * d * k := by ac_rfl
        _ ≤ n * k := Nat.mul_le_mul_right _ h2
        _ ≤ m * d := hle
    exact Nat.le_of_mul_le_mul_right h3 hd
  omega
/-- the bounds of the rests, turned -/
theorem rest_le {n d m k : Nat} (hle : n * k ≤ m * d) (he : n / d = m / k) : k * (n % d) ≤ d * (m % k) := by
  have h1 := Nat.div_add_mod n d
  have h2 := Nat.div_add_mod m k
  rw [he] at h1
  generalize m / k = q at *
  generalize n % d = r at *
  generalize m % k = s at *
  subst h1 h2
  have e1 : (d * q + r) * k = d * q * k + k * r := by grind
  have e2 : (k * q + s) * d = d * q * k + d * s := by grind
  omega
end Go.Proofs.Ytgnfobnkhjlbbaa.Big
/- Bits, the rounds of the reference's greatest common divisor, rounding. Conditions: none. -/
namespace Go.Proofs.Ytgnfobnkhjlbbaa.Big
/-- the number of bits -/
def bl (x : Nat) : Nat := if h : x = 0 then 0 else bl (x / 2) + 1
termination_by x
decreasing_by omega
theorem bl_zero : bl 0 = 0 := by rw [bl]; simp
theorem bl_pos {x : Nat} (h : x ≠ 0) : bl x = bl (x / 2) + 1 := by rw [bl, dif_neg h]
theorem bl_mono : ∀ b a, a ≤ b → bl a ≤ bl b := by
  intro b
  induction b using Nat.strongRecOn with
  | _ b ih =>
    intro a h
    by_cases h0 : a = 0
    · subst h0; rw [bl_zero]; omega
    · rw [bl_pos h0, bl_pos (by omega : b ≠ 0)]
      have := ih (b / 2) (by omega) (a / 2) (by omega)
      omega
end Go.Proofs.Ytgnfobnkhjlbbaa.Big
/- Long division bit by bit, a limb moved up. Conditions: none. -/
namespace Go.Proofs.Ytgnfobnkhjlbbaa.Big
end Go.Proofs.Ytgnfobnkhjlbbaa.Big
