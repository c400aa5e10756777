/- Natural numbers as lists of limbs: plain facts. Conditions: none. -/
import Derived.Test.YtkfpcohdbbhmaaaDoorNat2
namespace Go.Proofs.YtkfpcohdbbhmaaaDoor.Big
set_option linter.unusedVariables false
set_option linter.unusedSimpArgs false

/-! Knuth's guess. v1, v2: the two highest limbs of v; top = u0*B+u1; u2 the third. P = B^(n-2). -/
structure Shape (U V top u2 v1 v2 P : Nat) : Prop where
  hV : (v1 * 4294967296 + v2) * P ≤ V
  hV' : V < (v1 * 4294967296 + v2 + 1) * P
  hU : (top * 4294967296 + u2) * P ≤ U
  hU' : U < (top * 4294967296 + u2 + 1) * P

theorem guess_high {U V top u2 v1 v2 P g r : Nat} (S : Shape U V top u2 v1 v2 P) (hg : g * v1 + r = top) (h : r * 4294967296 + u2 < g * v2) : U < g * V := by
  have h1 : top * 4294967296 + u2 + 1 ≤ g * (v1 * 4294967296 + v2) := by
    rw [Nat.mul_add, ← Nat.mul_assoc, ← hg, Nat.add_mul]; omega
  have h2 := Nat.mul_le_mul_right P h1
  have h3 := Nat.mul_le_mul_left g S.hV
  rw [← Nat.mul_assoc] at h3
  exact Nat.lt_of_lt_of_le S.hU' (Nat.le_trans h2 h3)

theorem guess_low {U V top u2 v1 v2 P g r : Nat} (S : Shape U V top u2 v1 v2 P) (hv1 : 1 ≤ v1) (hg : g * v1 + r = top) (hB : g < 4294967297) (hg1 : 1 ≤ g) (h : g * v2 ≤ r * 4294967296 + u2) : (g - 1) * V ≤ U := by
  have h1 : g * (v1 * 4294967296 + v2) ≤ top * 4294967296 + u2 := by
    rw [Nat.mul_add, ← Nat.mul_assoc, ← hg, Nat.add_mul]; omega
  have h2 := Nat.mul_le_mul_right P h1
  obtain ⟨k, rfl⟩ : ∃ k, g = k + 1 := ⟨g - 1, by omega⟩
  simp only [Nat.add_sub_cancel]
  have h3 : k * V ≤ k * ((v1 * 4294967296 + v2 + 1) * P) := Nat.mul_le_mul_left _ (Nat.le_of_lt S.hV')
  have h4 : k * ((v1 * 4294967296 + v2 + 1) * P) = k * ((v1 * 4294967296 + v2) * P) + k * P := by
    rw [Nat.add_mul (v1 * 4294967296 + v2) 1 P, Nat.mul_add, Nat.one_mul]
  have h5 : (k + 1) * (v1 * 4294967296 + v2) * P = k * ((v1 * 4294967296 + v2) * P) + (v1 * 4294967296 + v2) * P := by
    rw [Nat.mul_assoc, Nat.add_mul, Nat.one_mul]
  have h6 : k * P ≤ (v1 * 4294967296 + v2) * P := Nat.mul_le_mul_right _ (by omega)
  have h7 := S.hU
  omega

theorem guess_start {U V top u2 v1 v2 P : Nat} (S : Shape U V top u2 v1 v2 P) (hu2 : u2 < 4294967296) (q : Nat) (hv1 : 1 ≤ v1) (hq : q * V ≤ U) : q ≤ top / v1 := by
  rw [Nat.le_div_iff_mul_le (by omega)]
  have h1 : q * ((v1 * 4294967296) * P) < (top + 1) * 4294967296 * P := by
    have := Nat.mul_le_mul_left q S.hV
    rw [Nat.add_mul, Nat.mul_add] at this
    have h2 := S.hU'
    have h3 : (top * 4294967296 + u2 + 1) * P ≤ (top + 1) * 4294967296 * P := Nat.mul_le_mul_right _ (by omega)
    omega
  have h4 : q * v1 * (4294967296 * P) < (top + 1) * (4294967296 * P) := by
    rw [Nat.mul_assoc q, Nat.mul_assoc (top + 1)] at *
    rwa [Nat.mul_assoc v1] at h1
  have := Nat.lt_of_mul_lt_mul_right h4
  omega

/-- what step's loop may end with -/
theorem guess_end {U V top u2 v1 v2 P g r : Nat} (S : Shape U V top u2 v1 v2 P) (hV0 : 0 < V) (hv1 : 1 ≤ v1) (hv2 : v2 < 4294967296) (hu2 : u2 < 4294967296) (hg : g * v1 + r = top) (hB : g < 4294967296) (hhi : U / V ≤ g)
    (h : g * v2 ≤ r * 4294967296 + u2 ∨ 4294967296 ≤ r) : g = U / V ∨ g = U / V + 1 := by
  by_cases h0 : g = 0
  · left; subst h0; exact (Nat.le_zero.1 hhi).symm
  · have h' : g * v2 ≤ r * 4294967296 + u2 := by
      rcases h with h | h
      · exact h
      · have h1 : g * v2 ≤ 4294967295 * 4294967295 := Nat.mul_le_mul (by omega) (by omega)
        omega
    have h1 := guess_low S hv1 hg (by omega) (by omega) h'
    have h2 : g - 1 ≤ U / V := (Nat.le_div_iff_mul_le hV0).2 h1
    omega

/-! multiply and subtract; c: carry, d: borrow -/
def subM (g : Nat) : List Nat → List Nat → Nat → Nat → List Nat × Nat × Nat
  | [], _, c, d => ([], c, d)
  | _ :: _, [], c, d => ([], c, d)
  | x :: v, y :: u, c, d =>
    let p := g * x + c
    let s := y + 18446744073709551616 - p % 4294967296 - d
    let r := subM g v u (p / 4294967296) (if y < p % 4294967296 + d then 1 else 0)
    (s % 4294967296 :: r.1, r.2)

theorem subM_spec (g : Nat) (v u : List Nat) (c d : Nat) (hl : v.length = u.length) (hd : d ≤ 1) (hu : Ok u) :
    val (subM g v u c d).1 + g * val v + c + d = val u + 4294967296 ^ v.length * ((subM g v u c d).2.1 + (subM g v u c d).2.2) ∧ (subM g v u c d).2.2 ≤ 1 := by
  induction v generalizing u c d with
  | nil => cases u with
    | nil => simp [subM, val]; exact hd
    | cons y u => simp at hl
  | cons x v ih => cases u with
    | nil => simp at hl
    | cons y u =>
      have hy := hu.head
      simp only [subM]
      by_cases hlt : y < (g * x + c) % 4294967296 + d
      · rw [if_pos hlt]
        obtain ⟨h1, h2⟩ := ih u ((g * x + c) / 4294967296) 1 (by simpa using hl) (by omega) hu.tail
        refine ⟨?_, h2⟩
        simp only [val, List.length_cons, Nat.pow_succ]
        generalize (subM g v u ((g * x + c) / 4294967296) 1).2.1 + (subM g v u ((g * x + c) / 4294967296) 1).2.2 = t at *
        have e1 : g * (x + 4294967296 * val v) = g * x + 4294967296 * (g * val v) := by rw [Nat.mul_add, Nat.mul_left_comm]
        have e2 : 4294967296 ^ v.length * 4294967296 * t = 4294967296 * (4294967296 ^ v.length * t) := by rw [Nat.mul_comm (4294967296 ^ v.length), Nat.mul_assoc]
        rw [e1, e2]
        omega
      · rw [if_neg hlt]
        obtain ⟨h1, h2⟩ := ih u ((g * x + c) / 4294967296) 0 (by simpa using hl) (by omega) hu.tail
        refine ⟨?_, h2⟩
        simp only [val, List.length_cons, Nat.pow_succ]
        generalize (subM g v u ((g * x + c) / 4294967296) 0).2.1 + (subM g v u ((g * x + c) / 4294967296) 0).2.2 = t at *
        have e1 : g * (x + 4294967296 * val v) = g * x + 4294967296 * (g * val v) := by rw [Nat.mul_add, Nat.mul_left_comm]
        have e2 : 4294967296 ^ v.length * 4294967296 * t = 4294967296 * (4294967296 ^ v.length * t) := by rw [Nat.mul_comm (4294967296 ^ v.length), Nat.mul_assoc]
        rw [e1, e2]
        omega

theorem length_subM (g : Nat) (v u : List Nat) (c d : Nat) (hl : v.length = u.length) : (subM g v u c d).1.length = v.length := by
  induction v generalizing u c d with
  | nil => simp [subM]
  | cons x v ih => cases u with
    | nil => simp at hl
    | cons y u => simp only [subM, List.length_cons]; rw [ih]; simpa using hl

theorem ok_subM (g : Nat) (v u : List Nat) (c d : Nat) : Ok (subM g v u c d).1 := by
  induction v generalizing u c d with
  | nil => simp [subM, Ok]
  | cons x v ih => cases u with
    | nil => simp [subM, Ok]
    | cons y u => simp only [subM]; exact Ok.cons (by omega) (ih _ _ _)

theorem subM_carry (g : Nat) (v u : List Nat) (c d : Nat) (hg : g < 4294967296) (hv : Ok v) (hc : c < 4294967296) : (subM g v u c d).2.1 < 4294967296 := by
  induction v generalizing u c d with
  | nil => simpa [subM] using hc
  | cons x v ih => cases u with
    | nil => simpa [subM] using hc
    | cons y u =>
      simp only [subM]
      have := mul_bound hg hv.head (p := 0) (by omega) hc
      exact ih _ _ _ hv.tail (by omega)

/-! add back -/
def addB : List Nat → List Nat → Nat → List Nat × Nat
  | [], _, c => ([], c)
  | _ :: _, [], c => ([], c)
  | x :: v, y :: u, c => let r := addB v u ((y + x + c) / 4294967296); ((y + x + c) % 4294967296 :: r.1, r.2)

theorem addB_spec (v u : List Nat) (c : Nat) (hl : v.length = u.length) : val (addB v u c).1 + 4294967296 ^ v.length * (addB v u c).2 = val u + val v + c := by
  induction v generalizing u c with
  | nil => cases u with
    | nil => simp [addB, val]
    | cons y u => simp at hl
  | cons x v ih => cases u with
    | nil => simp at hl
    | cons y u =>
      have h1 := ih u ((y + x + c) / 4294967296) (by simpa using hl)
      simp only [addB, val, List.length_cons, Nat.pow_succ]
      generalize (addB v u ((y + x + c) / 4294967296)).2 = t at *
      have e2 : 4294967296 ^ v.length * 4294967296 * t = 4294967296 * (4294967296 ^ v.length * t) := by rw [Nat.mul_comm (4294967296 ^ v.length), Nat.mul_assoc]
      rw [e2]; omega

theorem length_addB (v u : List Nat) (c : Nat) (hl : v.length = u.length) : (addB v u c).1.length = v.length := by
  induction v generalizing u c with
  | nil => simp [addB]
  | cons x v ih => cases u with
    | nil => simp at hl
    | cons y u => simp only [addB, List.length_cons]; rw [ih]; simpa using hl

theorem ok_addB (v u : List Nat) (c : Nat) : Ok (addB v u c).1 := by
  induction v generalizing u c with
  | nil => simp [addB, Ok]
  | cons x v ih => cases u with
    | nil => simp [addB, Ok]
    | cons y u => simp only [addB]; exact Ok.cons (by omega) (ih _ _)

/-- Go's step: u is low (n limbs) and its highest limb h; g the guess. The new limbs of u, the new highest, the quotient's digit. -/
def stepL (g : Nat) (v low : List Nat) (h : Nat) : List Nat × Nat × Nat :=
  let m := subM g v low 0 0
  if m.2.1 + m.2.2 ≤ h then (m.1, h - m.2.1 - m.2.2, g)
  else
    let b := addB v m.1 0
    (b.1, (h + 18446744073709551616 - m.2.1 - m.2.2 + b.2) % 4294967296, g - 1)

theorem stepL_spec {g h : Nat} {v low : List Nat} (hl : v.length = low.length) (hlo : Ok low) (hh : h < 4294967296) (hv : Ok v) (hg : g < 4294967296) (hV : 0 < val v)
    (hq : g = val (low ++ [h]) / val v ∨ g = val (low ++ [h]) / val v + 1) :
    (stepL g v low h).2.2 = val (low ++ [h]) / val v ∧ val (stepL g v low h).1 = val (low ++ [h]) % val v ∧ (stepL g v low h).2.1 = 0 ∧ Ok (stepL g v low h).1 ∧ (stepL g v low h).1.length = v.length := by
  obtain ⟨hs, hd⟩ := subM_spec g v low 0 0 hl (by omega) hlo
  have hlen := length_subM g v low 0 0 hl
  have hok := ok_subM g v low 0 0
  have hcar := subM_carry g v low 0 0 hg hv (by omega)
  have hU : val (low ++ [h]) = val low + 4294967296 ^ v.length * h := by rw [val_append, hl]; simp [val]
  have hmod := Nat.div_add_mod (val (low ++ [h])) (val v)
  have hml := Nat.mod_lt (val (low ++ [h])) hV
  have hvp := val_lt_pow hv
  generalize hUU : val (low ++ [h]) = U at *
  have hm1 := val_lt_pow hok
  rw [hlen] at hm1
  unfold stepL
  simp only
  generalize hM : subM g v low 0 0 = m at *
  obtain ⟨m1, c, d⟩ := m
  simp only at *
  generalize hP : 4294967296 ^ v.length = P at *
  by_cases hle : c + d ≤ h
  · rw [if_pos hle]
    simp only
    have h1 : P * (c + d) ≤ P * h := Nat.mul_le_mul_left _ hle
    have hge : g * val v ≤ U := by omega
    have hgq : g = U / val v := by
      rcases hq with h | h
      · exact h
      · have : g ≤ U / val v := (Nat.le_div_iff_mul_le hV).2 hge
        omega
    have hval : val m1 + P * (h - c - d) = U % val v := by
      have e : P * h = P * (c + d) + P * (h - c - d) := by rw [← Nat.mul_add]; congr 1; omega
      rw [← hgq, Nat.mul_comm] at hmod
      omega
    have hz : h - c - d = 0 := by
      rcases Nat.eq_zero_or_pos (h - c - d) with h0 | h0
      · exact h0
      · have := Nat.mul_le_mul_left P h0
        omega
    rw [hz] at hval ⊢
    exact ⟨hgq, by omega, rfl, hok, hlen⟩
  · rw [if_neg hle]
    have hb := addB_spec v m1 0 (by omega)
    have hbl := length_addB v m1 0 (by omega)
    have hbo := ok_addB v m1 0
    generalize hBk : addB v m1 0 = b at *
    obtain ⟨b1, e⟩ := b
    simp only at *
    rw [hP] at hb
    have hlt : h + 1 ≤ c + d := by omega
    have h1 : P * (h + 1) ≤ P * (c + d) := Nat.mul_le_mul_left _ hlt
    rw [Nat.mul_add] at h1
    have hgt : U < g * val v := by omega
    have hgq : g = U / val v + 1 := by
      rcases hq with h | h
      · rw [h, Nat.mul_comm] at hgt; omega
      · exact h
    have hgv : g * val v = val v * (U / val v) + val v := by rw [hgq, Nat.add_mul, Nat.one_mul, Nat.mul_comm]
    have hb1 := val_lt_pow hbo
    rw [hbl, hP] at hb1
    -- val b1 + P*e + P*h = U % val v + P*(c+d)
    have key : val b1 + P * (e + h) = U % val v + P * (c + d) := by
      rw [Nat.mul_add]; omega
    have he : e + h = c + d := by
      rcases Nat.lt_trichotomy (e + h) (c + d) with h2 | h2 | h2
      · have := Nat.mul_le_mul_left P (show e + h + 1 ≤ c + d from h2)
        rw [Nat.mul_add] at this; omega
      · exact h2
      · have := Nat.mul_le_mul_left P (show c + d + 1 ≤ e + h from h2)
        rw [Nat.mul_add] at this; omega
    rw [he] at key
    refine ⟨by rw [hgq]; rfl, by omega, ?_, hbo, hbl⟩
    have e1 : h + 18446744073709551616 - c - d + e = 18446744073709551616 := by omega
    rw [e1]

end Go.Proofs.YtkfpcohdbbhmaaaDoor.Big
