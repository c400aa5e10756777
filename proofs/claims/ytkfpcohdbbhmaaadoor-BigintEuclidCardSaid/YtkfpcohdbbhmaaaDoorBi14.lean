/- Integers: the natural numbers' contracts at canonical limbs; Valid; sum, Add, Sub, Mul. Conditions: none. -/
import Derived.Test.YtkfpcohdbbhmaaaDoorBi13
import Derived.Test.YtkfpcohdbbhmaaaDoorBi5
namespace Go.Proofs.YtkfpcohdbbhmaaaDoor
set_option linter.unusedVariables false
set_option linter.unusedSimpArgs false
open Go.RowKit Big

section
variable (A B : Option Addr) (c d n m : Nat) (w : World) (ha : Mg w A c (limbs n)) (hb : Mg w B d (limbs m)) (hs : (limbs n).length ≤ 1048576) (ht : (limbs m).length ≤ 1048576)
include ha hb
theorem cmp_n : Calls Tryd.prog 82 #[.slice A (limbs n).length c, .slice B (limbs m).length d] w (RetI w (ord n m)) := by
  have := compare_any A B c d _ _ w ha hb (nrm_limbs _) (nrm_limbs _); rwa [val_limbs, val_limbs] at this
include hs ht
theorem add_n : Calls Tryd.prog 52 #[.slice A (limbs n).length c, .slice B (limbs m).length d] w (RetN w (n + m)) := by
  have _h1 := hs
  have _h2 := ht
  have := add_any A B c d _ _ w ha hb (by omega) (by omega); rwa [val_limbs, val_limbs] at this
theorem mul_n : Calls Tryd.prog 63 #[.slice A (limbs n).length c, .slice B (limbs m).length d] w (RetN w (n * m)) := by
  have _h1 := hs
  have _h2 := ht
  have := multiply_any A B c d _ _ w ha hb (by omega) (by omega); rwa [val_limbs, val_limbs] at this
theorem gcd_n : Calls Tryd.prog 59 #[.slice A (limbs n).length c, .slice B (limbs m).length d] w (RetN w (Nat.gcd n m)) := by
  have _h1 := hs
  have _h2 := ht
  have := divisor_any A B c d _ _ w ha hb (nrm_limbs _) (nrm_limbs _) (by omega) (by omega); rwa [val_limbs, val_limbs] at this
theorem div_n (hm : m ≠ 0) : Calls Tryd.prog 51 #[.slice A (limbs n).length c, .slice B (limbs m).length d] w (RetQR w (n / m) (n % m)) := by
  have _h1 := hs
  have _h2 := ht
  have := divide_any A B c d _ _ w ha hb (nrm_limbs _) (nrm_limbs _) (fun h => hm (limbs_eq_nil.1 h)) (by omega); rwa [val_limbs, val_limbs] at this
theorem sub_n (hle : m ≤ n) : Calls Tryd.prog 53 #[.slice A (limbs n).length c, .slice B (limbs m).length d] w (RetN w (n - m)) := by
  have _h1 := hs
  have _h2 := ht
  have hl : (limbs m).length ≤ (limbs n).length := by
    rw [limbs_len_iff]; have := val_lt_pow (ok_limbs n); rw [val_limbs] at this; omega
  have := subtract_any A B c d _ _ w ha hb hl (by rw [val_limbs, val_limbs]; exact hle) (by omega); rwa [val_limbs, val_limbs] at this
end

def validB (neg : Bool) (xs : List Nat) : Bool := if xs = [] then !neg else decide (xs.length ≤ 512) && decide (xs.getLast? ≠ some 0)

theorem valid_z {neg : Bool} {xs : List Nat} (ho : Ok xs) (h : validB neg xs = true) : ∃ z : Int, neg = decide (z < 0) ∧ xs = limbs z.natAbs ∧ fits z := by
  unfold validB at h
  split at h
  · rename_i h0
    subst h0
    refine ⟨0, by simpa using h, by simp [limbs_zero], by simp [fits, limbs_zero]⟩
  · rename_i h0
    simp only [Bool.and_eq_true, decide_eq_true_eq] at h
    have hl := limbs_val ho (h.2 : Nrm xs)
    have hp := val_pos (h.2 : Nrm xs) h0
    refine ⟨sg neg (val xs), (sg_neg neg _ (by omega)).symm, by rw [natAbs_sg, hl], by unfold fits; rw [natAbs_sg, hl]; exact h.1⟩
theorem validB_z {z : Int} (h : fits z) : validB (decide (z < 0)) (limbs z.natAbs) = true := by
  unfold validB
  split
  · rename_i h0
    have := limbs_eq_nil.1 h0
    simp; omega
  · have h1 : (limbs z.natAbs).getLast? ≠ some 0 := nrm_limbs z.natAbs
    simp only [Bool.and_eq_true, decide_eq_true_eq]
    exact ⟨h, h1⟩

set_option maxHeartbeats 400000 in
theorem Valid_any (neg : Bool) (A : Option Addr) (c : Nat) (xs : List Nat) (w : World) (ha : Mg w A c xs) :
    Calls Tryd.prog 29 #[.agg #[.bool neg, .slice A xs.length c]] w fun e w' => e = .returned (.bool (validB neg xs)) ∧ Below w.heap.size w w' := by
  by_cases h0 : xs = []
  · subst h0
    have hv : validB neg [] = !neg := by simp [validB]
    rw [hv]
    clear ha hv
    go_enter Tryd.func29, Tryd.ntmps29
    go_wp2
    go_ret
    exact ⟨by simp, (Below.refl _ _).alloc (Nat.le_refl _) _⟩
  · have hl0 : 0 < xs.length := List.length_pos_iff.2 h0
    have hl1 : ((xs.length : Int) == 0) = false := by rw [beq_eq_false_iff_ne]; omega
    have hv : validB neg xs = (decide (xs.length ≤ 512) && decide (xs.getLast? ≠ some 0)) := by unfold validB; rw [if_neg h0]
    have hm := ha.max
    have hm2 := ha.cap
    by_cases h5 : xs.length ≤ 512
    · obtain ⟨b, o, rfl, hB, hc⟩ := ha.rd.at_ (k := xs.length - 1) (by omega)
      have c1 := hc (xs.length - 1) (by omega)
      unfold lim at c1
      have hlast : xs.getLast? = some xs[xs.length - 1] := by rw [List.getLast?_eq_getElem?, List.getElem?_eq_getElem (by omega)]
      rw [hlast] at hv
      generalize xs[xs.length - 1] = t at *
      by_cases ht : t = 0
      · have hv2 : validB neg xs = false := by rw [hv]; simp [ht]
        rw [hv2]
        subst ht
        clear hc hlast hv hv2 h0 ha
        go_enter Tryd.func29, Tryd.ntmps29
        go_wp2
        go_ret
        exact ⟨rfl, (Below.refl _ _).alloc (Nat.le_refl _) _⟩
      · have hv2 : validB neg xs = true := by rw [hv]; simp [ht, h5]
        have ht1 : ((t : Int) != 0) = true := by rw [bne_iff_ne]; omega
        rw [hv2]
        clear hc hlast hv hv2 h0 ha ht
        go_enter Tryd.func29, Tryd.ntmps29
        go_wp2
        go_ret
        exact ⟨rfl, (Below.refl _ _).alloc (Nat.le_refl _) _⟩
    · have hv2 : validB neg xs = false := by rw [hv]; simp [h5]
      rw [hv2]
      clear hv hv2 h0 ha
      go_enter Tryd.func29, Tryd.ntmps29
      go_wp2
      go_ret
      exact ⟨rfl, (Below.refl _ _).alloc (Nat.le_refl _) _⟩

theorem Valid_t {z : Int} {A : Option Addr} {c : Nat} {w : World} (ha : Mg w A c (limbs z.natAbs)) (h : fits z) :
    Calls Tryd.prog 29 #[.agg #[.bool (decide ((z) < 0)), .slice A (limbs (Int.natAbs (z))).length c]] w fun e w' => e = .returned (.bool true) ∧ Below w.heap.size w w' :=
  (Valid_any _ A c _ w ha).mono fun e w' ⟨h1, h2⟩ => ⟨by rw [h1, validB_z h], h2⟩
theorem Valid_f {neg : Bool} {A : Option Addr} {c : Nat} {xs : List Nat} {w : World} (ha : Mg w A c xs) (h : validB neg xs = false) :
    Calls Tryd.prog 29 #[.agg #[.bool neg, .slice A xs.length c]] w fun e w' => e = .returned (.bool false) ∧ Below w.heap.size w w' :=
  (Valid_any _ A c _ w ha).mono fun e w' ⟨h1, h2⟩ => ⟨by rw [h1, h], h2⟩

end Go.Proofs.YtkfpcohdbbhmaaaDoor
