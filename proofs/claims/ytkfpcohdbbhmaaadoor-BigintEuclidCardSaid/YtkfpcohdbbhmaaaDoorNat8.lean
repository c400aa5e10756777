/- Decimal digits, by nines. Conditions: none. -/
import Derived.Test.YtkfpcohdbbhmaaaDoorNat7
import Derived.Lib.ItoaMem
import Derived.Lib.Repeat
namespace Go.Proofs.YtkfpcohdbbhmaaaDoor.Big
set_option linter.unusedVariables false
set_option linter.unusedSimpArgs false
open Go.Lib

def ch (d : Nat) : UInt8 := UInt8.ofNat (48 + d)
theorem dec_small {n : Nat} (h : n < 10) : decDigits n = [ch n] := by rw [decDigits, dif_pos h]; rfl
theorem dec_big {n : Nat} (h : ¬ n < 10) : decDigits n = decDigits (n / 10) ++ [ch (n % 10)] := by rw [decDigits, dif_neg h]; rfl

def padk : Nat → Nat → List UInt8
  | 0, _ => []
  | k + 1, r => padk k (r / 10) ++ [ch (r % 10)]

theorem dec_pad (k : Nat) : ∀ q r, 1 ≤ q → r < 10 ^ k → decDigits (q * 10 ^ k + r) = decDigits q ++ padk k r := by
  induction k with
  | zero => intro q r hq hr; simp at hr; subst hr; simp [padk]
  | succ k ih =>
    intro q r hq hr
    rw [Nat.pow_succ] at hr ⊢
    have h1 : 1 ≤ 10 ^ k := Nat.one_le_pow _ _ (by omega)
    generalize hQ : 10 ^ k = Q at *
    have h2 : 1 ≤ q * Q := Nat.mul_le_mul hq h1
    have e : q * (Q * 10) = q * Q * 10 := by rw [Nat.mul_assoc]
    rw [e]
    generalize hqq : q * Q = qq at *
    rw [dec_big (by omega), show (qq * 10 + r) / 10 = qq + r / 10 by omega, show (qq * 10 + r) % 10 = r % 10 by omega]
    have := ih q (r / 10) hq (by omega)
    rw [hqq] at this
    rw [this, padk, List.append_assoc]

theorem rep_snoc (k : Nat) : repeatL [48] k ++ [48] = repeatL [48] (k + 1) := by
  induction k with
  | zero => rfl
  | succ k ih => rw [repeatL, List.append_assoc, ih]; rfl

theorem dec_len_pos (n : Nat) : 1 ≤ (decDigits n).length := by
  by_cases h : n < 10
  · rw [dec_small h]; simp
  · rw [dec_big h]; simp

theorem padk_eq (k : Nat) : ∀ r, r < 10 ^ (k + 1) → (decDigits r).length ≤ k + 1 ∧ padk (k + 1) r = repeatL [48] (k + 1 - (decDigits r).length) ++ decDigits r := by
  induction k with
  | zero => intro r hr; simp at hr; rw [dec_small hr]; simp [padk, repeatL, Nat.mod_eq_of_lt hr]
  | succ k ih =>
    intro r hr
    rw [Nat.pow_succ] at hr
    have hd : r / 10 < 10 ^ (k + 1) := by omega
    obtain ⟨h1, h2⟩ := ih _ hd
    rw [padk, h2]
    by_cases h : r < 10
    · have e0 : r / 10 = 0 := by omega
      rw [e0, dec_small (show (0 : Nat) < 10 by omega), dec_small h, Nat.mod_eq_of_lt h]
      refine ⟨by simp, ?_⟩
      have := rep_snoc k
      simp only [List.length_singleton]
      rw [show k + 1 - 1 = k by omega, show k + 1 + 1 - 1 = k + 1 by omega]
      rw [show ([ch 0] : List UInt8) = [48] from rfl, rep_snoc]
    · rw [dec_big h]
      refine ⟨by simp; omega, ?_⟩
      simp only [List.length_append, List.length_singleton]
      rw [show k + 1 + 1 - ((decDigits (r / 10)).length + 1) = k + 1 - (decDigits (r / 10)).length by omega, List.append_assoc]

theorem dec_digs (n : Nat) (h : n ≠ 0) : decDigits n = (digs 10 n).reverse.map ch := by
  induction n using Nat.strongRecOn with
  | _ n ih =>
    rw [digs_pos (by omega) h]
    by_cases h1 : n < 10
    · rw [dec_small h1, show n / 10 = 0 by omega, digs_zero, Nat.mod_eq_of_lt h1]; rfl
    · rw [dec_big h1, ih _ (by omega) (by omega)]; simp

/-- the digits that chunks of nine make, the least chunk first -/
def outC : List Nat → List UInt8
  | [] => []
  | c :: rest => outC rest ++ (if rest = [] then decDigits c else repeatL [48] (9 - (decDigits c).length) ++ decDigits c)

theorem outC_digs (n : Nat) (h : n ≠ 0) : outC (digs 1000000000 n) = decDigits n := by
  induction n using Nat.strongRecOn with
  | _ n ih =>
    rw [digs_pos (by omega) h, outC]
    by_cases h1 : n / 1000000000 = 0
    · rw [h1, digs_zero, if_pos rfl, Nat.mod_eq_of_lt (by omega)]; rfl
    · rw [if_neg (digs_ne (by omega) h1), ih _ (by omega) h1]
      obtain ⟨h2, h3⟩ := padk_eq 8 (n % 1000000000) (Nat.mod_lt _ (by omega))
      have h4 := dec_pad 9 (n / 1000000000) (n % 1000000000) (by omega) (Nat.mod_lt _ (by omega))
      rw [show n / 1000000000 * 10 ^ 9 + n % 1000000000 = n by omega] at h4
      rw [h4, h3]

theorem repeatL_len (k : Nat) : (repeatL [48] k).length = k := by
  rw [repeatL_length]; simp
theorem outC_len (l : List Nat) (h : ∀ c ∈ l, c < 1000000000) : (outC l).length ≤ 9 * l.length := by
  induction l with
  | nil => simp [outC]
  | cons c l ih =>
    have h1 := ih fun d hd => h d (List.mem_cons_of_mem _ hd)
    have h2 := (padk_eq 8 c (h c (List.mem_cons_self ..))).1
    rw [outC]
    simp only [List.length_append, List.length_cons]
    split
    · omega
    · simp only [List.length_append, repeatL_len]; omega

/-- what Format answers -/
def fmtZ (z : Int) : List UInt8 := if z < 0 then 45 :: decDigits z.natAbs else decDigits z.natAbs

end Go.Proofs.YtkfpcohdbbhmaaaDoor.Big
