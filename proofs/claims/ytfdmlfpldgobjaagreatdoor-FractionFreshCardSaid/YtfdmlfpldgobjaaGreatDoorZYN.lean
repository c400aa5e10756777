/- Plain facts on texts and digits: they restore the number. Conditions: none. -/
import Derived.Test.YtfdmlfpldgobjaaGreatDoorZYD
import Derived.Test.YtfdmlfpldgobjaaGreatDoorZNtA
import Derived.Test.YtfdmlfpldgobjaaGreatDoorZYH
import Derived.Test.YtfdmlfpldgobjaaGreatDoorZYB
import Derived.Shelf.Strings.Cut
set_option linter.unusedVariables false
set_option linter.unusedSimpArgs false
namespace Go.Proofs.YtfdmlfpldgobjaaGreatDoor
open Go.RowKit Big Go.Lib
theorem ch_val {d : Nat} (h : d < 10) : (ch d).toNat = 48 + d := by
 unfold ch
 rw [UInt8.toNat_ofNat']
 omega
theorem ch_digit {d : Nat} (h : d < 10) : digit (ch d) := by unfold digit; rw [ch_val h]; omega
theorem dvals_ch : ∀ l : List Nat, (∀ d ∈ l, d < 10) → dvals (l.map ch) = l
 | [], _ => rfl
 | d :: r, h => by
  have h1 := dvals_ch r (fun d hd => h d (by simp [hd]))
  unfold dvals at h1 ⊢
  simp only [List.map_cons]
  rw [h1, ch_val (h d (by simp))]
  congr 1
  omega
theorem digs_head {b n : Nat} (hb : 2 ≤ b) (h : n ≠ 0) : ∃ d r, (digs b n).reverse = d :: r ∧ d ≠ 0 ∧ d < b := by
 have h1 := digs_ne hb h
 have h2 := digs_last hb n h
 cases hr : (digs b n).reverse with
 | nil => exact absurd (List.reverse_eq_nil_iff.1 hr) h1
 | cons d r =>
  refine ⟨d, r, rfl, fun hd => h2 ?_, digs_lt hb n d ?_⟩
  ·rw [← List.head?_reverse, hr, hd]; rfl
  ·rw [← List.mem_reverse, hr]; simp
theorem parD_digs (neg : Bool) (n : Nat) (h : n ≠ 0) (hl : (decDigits n).length ≤ 4096) : parD neg (decDigits n) = (sg neg n, 0) := by
 rw [dec_digs n h] at hl ⊢
 obtain ⟨d, r, hr, hd, hd2⟩ := digs_head (b := 10) (by omega) h
 have hall : ∀ d ∈ (digs 10 n).reverse, d < 10 := fun d hd => digs_lt (by omega) n d (List.mem_reverse.1 hd)
 unfold parD
 rw [if_neg (by omega), if_neg, if_pos, dvals_ch _ hall, ofd_digs (by omega)]
 ·intro x hx
  obtain ⟨d, hd, rfl⟩ := List.mem_map.1 hx
  exact ch_digit (hall d hd)
 ·rw [hr]
  rintro (h1 | ⟨h1, _⟩)
  ·simp at h1
  ·simp only [List.map_cons, List.head?_cons, Option.some.injEq] at h1
   have := congrArg UInt8.toNat h1
   rw [ch_val hd2] at this
   have e : (48 : UInt8).toNat = 48 := rfl
   omega
theorem dec_first (n : Nat) : ∃ c r, decDigits n = c :: r ∧ c ≠ 45 := by
 by_cases h : n = 0
 ·subst h
  exact ⟨48, [], by rw [decDigits]; rfl, by decide⟩
 ·obtain ⟨d, r, hr, hd, hd2⟩ := digs_head (b := 10) (by omega) h
  rw [dec_digs n h, hr]
  refine ⟨ch d, r.map ch, rfl, fun h1 => ?_⟩
  have := congrArg UInt8.toNat h1
  rw [ch_val hd2] at this
  have e : (45 : UInt8).toNat = 45 := rfl
  omega
theorem parE_fmtZ (x : Int) (h : (fmtZ x).length ≤ 4096) : parE (fmtZ x) = (x, 0) := by
 unfold fmtZ at h ⊢
 split
 ·rename_i hx
  rw [if_pos hx] at h
  have e1 : hasPrefix (45 :: decDigits x.natAbs) [45] = true := by simp [hasPrefix]
  unfold parE
  have e2 : trimPrefix (45 :: decDigits x.natAbs) [45] = decDigits x.natAbs := by simp [trimPrefix, e1]
  rw [e1, e2, parD_digs true x.natAbs (by omega) (by simp at h; omega)]
  simp only [Prod.mk.injEq, and_true]
  unfold sg
  simp
  omega
 ·rename_i hx
  rw [if_neg hx] at h
  obtain ⟨c, r, hc, hne⟩ := dec_first x.natAbs
  have e1 : hasPrefix (decDigits x.natAbs) [45] = false := by
   rw [hc]
   simp only [hasPrefix, List.isPrefixOf, Bool.and_true]
   rw [beq_eq_false_iff_ne]
   exact fun h => hne h.symm
  unfold parE
  have e2 : trimPrefix (decDigits x.natAbs) [45] = decDigits x.natAbs := by simp [trimPrefix, e1]
  rw [e1, e2]
  by_cases h0 : x.natAbs = 0
  ·have : x = 0 := by omega
   subst this
   decide +kernel
  ·rw [parD_digs false x.natAbs h0 h]
   simp only [Prod.mk.injEq, and_true]
   unfold sg
   simp
   omega
end Go.Proofs.YtfdmlfpldgobjaaGreatDoor
/- The reference: walks of short, longer. Conditions: none. -/
namespace Go.Proofs.YtfdmlfpldgobjaaGreatDoor
open Go.RowKit Big
end Go.Proofs.YtfdmlfpldgobjaaGreatDoor
/- The reference: walks of FromDigits, Digits. Conditions: none. -/
namespace Go.Proofs.YtfdmlfpldgobjaaGreatDoor
open Go.RowKit Big
end Go.Proofs.YtfdmlfpldgobjaaGreatDoor
/- The reference: the walk of Digits. Conditions: none. -/
namespace Go.Proofs.YtfdmlfpldgobjaaGreatDoor
open Go.RowKit Big
theorem digs_len2 {b : Nat} (hb : 2 ≤ b) (k : Nat) : ∀ n, n < 2 ^ k → (digs b n).length ≤ k := by
 induction k with
 | zero => intro n h; simp at h; subst h; rw [digs_zero]; simp
 | succ k ih =>
  intro n h
  by_cases h0 : n = 0
  ·subst h0; rw [digs_zero]; simp
  ·rw [digs_pos hb h0, List.length_cons]
   have : n / b < 2 ^ k := by
    rw [Nat.div_lt_iff_lt_mul (by omega)]
    rw [Nat.pow_succ] at h
    exact Nat.lt_of_lt_of_le h (Nat.mul_le_mul_left _ hb)
   have := ih _ this
   omega
theorem digs_len_l {b n : Nat} (hb : 2 ≤ b) : (digs b n).length ≤ 32 * (limbs n).length := by
 apply digs_len2 hb
 have h := (limbs_len_iff n _).1 (Nat.le_refl _)
 rwa [two_pow_B] at h
theorem Mg.far {w : World} {A : Option Addr} {c : Nat} {xs : List Nat} (h : Mg w A c xs) (hl : 0 < xs.length) : ∀ p, A = some p → p.block < w.heap.size := by
 intro p hp
 obtain ⟨b, o, e, hB, _⟩ := h.rd hl
 rw [e] at hp
 injection hp with hp
 subst hp
 exact hB
end Go.Proofs.YtfdmlfpldgobjaaGreatDoor
/- Texts of fractions: what Format and Parse answer. Conditions: none. -/
namespace Go.Proofs.YtfdmlfpldgobjaaGreatDoor
open Go.RowKit Big Go.Lib
/-- where the slash stands, or the length -/
def at47 : List UInt8 → Nat
 | [] => 0
 | b :: l => if b = 47 then 0 else at47 l + 1
theorem at47_le : ∀ l, at47 l ≤ l.length
 | [] => Nat.le_refl _
 | b :: l => by
  have := at47_le l
  unfold at47
  split <;> simp <;> omega
theorem at47_cons (b : UInt8) (l : List UInt8) : at47 (b :: l) = if b = 47 then 0 else at47 l + 1 := rfl
theorem index47 : ∀ l : List UInt8, Lib.index l [47] = if at47 l < l.length then (at47 l : Int) else -1
 | [] => by simp [Lib.index, at47]
 | b :: l => by
  have ih := index47 l
  have e0 : Lib.index (b :: l) [47] = if List.isPrefixOf [47] (b :: l) then 0 else if Lib.index l [47] == -1 then -1 else Lib.index l [47] + 1 := rfl
  by_cases h : b = 47
  ·subst h
   have e1 : at47 (47 :: l) = 0 := by rw [at47_cons, if_pos rfl]
   rw [e0, e1]
   simp
  ·have e1 : List.isPrefixOf [47] (b :: l) = false := by
    simp only [List.isPrefixOf, Bool.and_true]
    rw [beq_eq_false_iff_ne]
    exact fun e => h e.symm
   have e2 : at47 (b :: l) = at47 l + 1 := by rw [at47_cons, if_neg h]
   rw [e0, e1, e2, ih]
   simp only [Bool.false_eq_true, if_false, List.length_cons]
   by_cases h2 : at47 l < l.length
   ·have h3 : at47 l + 1 < l.length + 1 := by omega
    rw [if_pos h2, if_pos h3, if_neg (by rw [beq_iff_eq]; omega)]
    omega
   ·have h3 : ¬ at47 l + 1 < l.length + 1 := by omega
    rw [if_neg h2, if_neg h3]
    simp
theorem cut47 (l : List UInt8) : Lib.cut l [47] = (l.take (at47 l), l.drop (at47 l + 1), decide (at47 l < l.length)) := by
 unfold Lib.cut
 rw [index47]
 have h1 := at47_le l
 by_cases h : at47 l < l.length
 ·rw [if_pos h, if_pos (by omega), decide_eq_true h]
  rfl
 ·rw [if_neg h, if_neg (by omega), decide_eq_false h, List.take_of_length_le (by omega), List.drop_of_length_le (by omega)]
def parF (l : List UInt8) : (Int × Nat) × Int :=
 if (parE (l.take (at47 l))).2 ≠ 0 then ((0, 0), (parE (l.take (at47 l))).2)
 else if ¬ at47 l < l.length then newE (parE (l.take (at47 l))).1 1
 else if Lib.hasPrefix (l.drop (at47 l + 1)) [45] = true then ((0, 0), 9)
 else if (parE (l.drop (at47 l + 1))).2 ≠ 0 then ((0, 0), (parE (l.drop (at47 l + 1))).2)
 else newE (parE (l.take (at47 l))).1 (parE (l.drop (at47 l + 1))).1
def fmtF (f : Int × Nat) : List UInt8 := if f.2 = 1 then fmtZ f.1 else fmtZ f.1 ++ 47 :: fmtZ (f.2 : Int)
def fmtR (na : Bool) (xs : List Nat) (nb : Bool) (ys : List Nat) : List UInt8 := if fvB na xs nb ys then fmtF (sg na (val xs), val ys) else []
theorem fmtZ_len (z : Int) : (fmtZ z).length ≤ 32 * (limbs z.natAbs).length + 2 := by
 have h : (decDigits z.natAbs).length ≤ 32 * (limbs z.natAbs).length + 1 := by
  by_cases h0 : z.natAbs = 0
  ·rw [h0, show decDigits 0 = [48] by rw [decDigits]; rfl]; simp
  ·rw [dec_digs _ h0]
   have := digs_len_l (b := 10) (n := z.natAbs) (by omega)
   simp only [List.length_map, List.length_reverse]
   omega
 unfold fmtZ
 split
 ·simp; omega
 ·omega
theorem fmt_one (d : Nat) : fmtZ (d : Int) = [49] ↔ d = 1 := by
 constructor
 ·intro h
  have h1 := parE_fmtZ (d : Int) (by rw [h]; decide)
  rw [h] at h1
  have h2 : parE [49] = (1, 0) := by decide +kernel
  rw [h2, Prod.mk.injEq] at h1
  omega
 ·rintro rfl; decide +kernel
theorem ofd_lt : ∀ (d : List UInt8) (m : Nat), (∀ x ∈ d, digit x) → ofd 10 m (dvals d) < (m + 1) * 10 ^ d.length
 | [], m, _ => by simp [ofd, dvals]
 | x :: d, m, h => by
  have hx := h x (by simp)
  have ih := ofd_lt d (m * 10 + (x.toNat - 48)) (fun y hy => h y (by simp [hy]))
  have e : ofd 10 m (dvals (x :: d)) = ofd 10 (m * 10 + (x.toNat - 48)) (dvals d) := rfl
  rw [e, List.length_cons, Nat.pow_succ, Nat.mul_comm (10 ^ d.length) 10, ← Nat.mul_assoc]
  refine Nat.lt_of_lt_of_le ih (Nat.mul_le_mul_right _ ?_)
  unfold digit at hx
  omega
theorem ten_pow (k : Nat) : (10 : Nat) ^ k ≤ 2 ^ (4 * k) := by
 have := Nat.pow_le_pow_left (show (10 : Nat) ≤ 16 by omega) k
 rwa [show (16 : Nat) = 2 ^ 4 by decide, ← Nat.pow_mul] at this
theorem parD_fits (neg : Bool) (d : List UInt8) : fits (parD neg d).1 := by
 unfold parD
 have h0 : fits 0 := by unfold fits; simp [limbs_zero]
 split
 ·exact h0
 ·split
  ·exact h0
  ·split
   ·rename_i hl _ hd
    rw [fits_sg]
    have h1 : ofd 10 0 (dvals d) < 10 ^ d.length := by have := ofd_lt d 0 hd; omega
    exact limbs_of_bits (Nat.lt_of_lt_of_le h1 (ten_pow _)) (by omega)
   ·exact h0
theorem parE_fits (s : List UInt8) : fits (parE s).1 := parD_fits _ _
end Go.Proofs.YtfdmlfpldgobjaaGreatDoor
