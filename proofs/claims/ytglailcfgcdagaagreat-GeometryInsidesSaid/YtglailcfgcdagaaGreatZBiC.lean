/- Magnitudes: the walk of divide. Conditions: none. -/
import Derived.Test.YtglailcfgcdagaaGreatZBi8
import Derived.Test.YtglailcfgcdagaaGreatZNtA
import Derived.Test.YtglailcfgcdagaaGreatZBaA
import Derived.Test.YtglailcfgcdagaaGreatSh0
import Derived.Test.YtglailcfgcdagaaGreatZBiB
set_option linter.unusedVariables false
set_option linter.unusedSimpArgs false
namespace Go.Proofs.YtglailcfgcdagaaGreat
open Go.RowKit Big
theorem mod_small {q v r : Nat} (h : r < v) : (q * v + r) % v = r := by rw [Nat.add_comm, Nat.add_mul_mod_self_right, Nat.mod_eq_of_lt h]
theorem LongAt_end {us U qs xs ys : List Nat} {n m p : Nat} (h : LongAt us (val ys * p) n m 0 U qs) (hu : val us = val xs * p) (hp : 0 < p) (hy : 0 < val ys) : val qs = val xs / val ys ∧ val U / p = val xs % val ys ∧ Ok qs ∧ Ok U ∧ qs.length = m := by
 obtain ⟨rem, qq, h1, h2, h3, h4, h5, h6, h7, h8⟩ := h.ex
 have e1 : qs = qq := by simpa using h5
 have e2 : U = rem ++ List.replicate m 0 := by simpa using h1
 have e3 : val U = val rem := by rw [e2, val_append, val_rep]; simp
 rw [List.drop_zero, hu, ← Nat.mul_assoc] at h8
 have hr : val rem = val xs % val ys * p := by
  have h9 : val rem = (val xs * p) % (val ys * p) := by
   rw [h8, Nat.mul_assoc, mod_small h4]
  rw [h9, Nat.mul_mod_mul_right]
 have hq : val qq = val xs / val ys := by
  have : (val xs * p) / (val ys * p) = val qq := by
   rw [h8, Nat.mul_assoc, Nat.add_comm, Nat.add_mul_div_right _ _ (Nat.mul_pos hy hp), Nat.div_eq_of_lt h4, Nat.zero_add]
  rw [← this, Nat.mul_div_mul_right _ _ hp]
 refine ⟨by rw [e1, hq], by rw [e3, hr, Nat.mul_div_cancel _ hp], by rw [e1]; exact h7, by rw [e2]; exact h3.app (Ok.rep _), by rw [e1, h6]; rfl⟩
end Go.Proofs.YtglailcfgcdagaaGreat
/- Magnitudes: the walk of divide. Conditions: none. -/
namespace Go.Proofs.YtglailcfgcdagaaGreat
open Go.RowKit Big
def RetQR (w : World) (q r : Nat) (e : Ending) (w' : World) : Prop :=
 ∃ A c B d, e = .returned (.tuple #[.slice A (limbs q).length c, .slice B (limbs r).length d]) ∧ Mg w' A c (limbs q) ∧ Mg w' B d (limbs r) ∧ Below w.heap.size w w'
theorem lz_any (t : Nat) (w : World) (ht : t < 4294967296) : Calls Tryz.prog 77 #[.int .u32 t] w fun e w' => e = .returned (.int .i64 ((32 - Lib.bitLen t : Nat) : Int)) ∧ w = w' :=
 (Tryz.bits_LeadingZeros32 t w (by omega) (by omega)).mono fun e w' ⟨h1, h2⟩ => ⟨by
  rw [h1, Int.toNat_natCast]
  have := Lib.bitLen_le t 32 (by omega) (by omega)
  exact ret_int (by omega), h2.symm⟩
theorem own_mg {w : World} {base : Nat} {v : Value} {xs : List Nat} (h : w.ownsRow base 85 1 v xs.length (xs.map lim)) (ho : Ok xs) : ∃ A c, v = .slice A xs.length c ∧ Mg w A c xs := by
 obtain ⟨A, c, rfl, h1, h2, h3⟩ := own_rd h
 exact ⟨A, c, rfl, h1, h2, ho, h3⟩
end Go.Proofs.YtglailcfgcdagaaGreat
/- Magnitudes: the walk of divide, two limbs and more. Conditions: none. -/
namespace Go.Proofs.YtglailcfgcdagaaGreat
open Go.RowKit Big
end Go.Proofs.YtglailcfgcdagaaGreat
/- Magnitudes: the walk of divisor. Conditions: none. -/
namespace Go.Proofs.YtglailcfgcdagaaGreat
open Go.RowKit Big
theorem gcd_step (a b : Nat) : Nat.gcd b (a % b) = Nat.gcd a b := by
 rw [Nat.gcd_comm a b, Nat.gcd_rec b a, Nat.gcd_comm]
theorem val_two {xs : List Nat} (ho : Ok xs) (h : xs.length ≤ 2) : val xs ≤ 18446744073709551615 := by
 match xs, h, ho with
 | [], _, _ => simp [val]
 | [x], _, ho => have := ho.head; simp [val]; omega
 | [x, y], _, ho => have := ho.head; have := ho.tail.head; simp only [val]; omega
theorem limbs_mod_len {ys : List Nat} (ho : Ok ys) {r : Nat} (h : r < val ys) : (limbs r).length ≤ ys.length := by
 rw [limbs_len_iff]; have := val_lt_pow ho; omega
end Go.Proofs.YtglailcfgcdagaaGreat
/- Integers: walks of integer, bounded, Valid. Conditions: none. -/
namespace Go.Proofs.YtglailcfgcdagaaGreat
open Go.RowKit Big
def sg (neg : Bool) (n : Nat) : Int := if neg then -(n : Int) else n
theorem natAbs_sg (neg : Bool) (n : Nat) : (sg neg n).natAbs = n := by unfold sg; split <;> omega
theorem sg_neg (neg : Bool) (n : Nat) (h : n ≠ 0) : decide (sg neg n < 0) = neg := by
 unfold sg; cases neg
 ·simp
 ·simp; omega
theorem sg_zero (neg : Bool) : sg neg 0 = 0 := by unfold sg; split <;> simp
theorem sg_self (z : Int) : sg (decide (z < 0)) z.natAbs = z := by unfold sg; split <;> simp_all <;> omega
/-- an integer handed back -/
def RetZ (w : World) (z : Int) (e : Ending) (w' : World) : Prop :=
 ∃ A c, e = .returned (.agg #[.bool (decide ((z) < 0)), .slice A (limbs (Int.natAbs (z))).length c]) ∧ Mg w' A c (limbs z.natAbs) ∧ Below w.heap.size w w'
/-- an integer and an error number handed back -/
def RetZE (w : World) (z : Int) (err : Int) (e : Ending) (w' : World) : Prop :=
 ∃ A c, e = .returned (.tuple #[.agg #[.bool (decide ((z) < 0)), .slice A (limbs (Int.natAbs (z))).length c], .int .i64 err]) ∧ Mg w' A c (limbs z.natAbs) ∧ Below w.heap.size w w'
theorem mg_nil (w : World) : Mg w none 0 (limbs 0) := ⟨by simp [limbs_zero], by omega, ok_limbs _, by rw [limbs_zero]; exact Rd.nil _ _⟩
theorem retZ_zero {w w' : World} (hb : Below w.heap.size w w') : RetZ w 0 (.returned (.agg #[.bool false, .slice none 0 0])) w' := ⟨none, 0, by simp [limbs_zero], mg_nil _, hb⟩
theorem retZE_zero {w w' : World} (err : Int) (hb : Below w.heap.size w w') : RetZE w 0 err (.returned (.tuple #[.agg #[.bool false, .slice none 0 0], .int .i64 err])) w' := ⟨none, 0, by simp [limbs_zero], mg_nil _, hb⟩
/-- a store over a cell that holds no limb leaves every slice of limbs alone -/
theorem Mg.set_ {w : World} {A : Option Addr} {c : Nat} {xs : List Nat} (h : Mg w A c xs) (g i : Nat) (v u : Value) (hv : w.cell? ⟨g, i, none⟩ = some v) (hn : ∀ n, v ≠ .int .u32 n) : Mg (w.setCell ⟨g, i, none⟩ u) A c xs :=
 ⟨h.cap, h.max, h.ok, fun hl => by
  obtain ⟨b, o, e, hB, hc⟩ := h.rd hl
  refine ⟨b, o, e, by simpa using hB, fun j hj => ?_⟩
  rw [World.cell?_setCell_other]
  ·exact hc j hj
  ·intro he
   have h1 := hc j hj
   first | rw [he] at h1 | rw [← he] at h1
   rw [hv] at h1
   injection h1 with h1
   exact hn _ h1⟩
theorem below_set {B : Nat} {a w : World} (h : Below B a w) {g : Nat} (hg : B ≤ g) (i : Nat) (u : Value) : Below B a (w.setCell ⟨g, i, none⟩ u) := h.setCell (p := ⟨g, i, none⟩) hg u
theorem cell_set_ne {w : World} {g i j : Nat} {u : Value} (h : i ≠ j) : (w.setCell ⟨g, i, none⟩ u).cell? ⟨g, j, none⟩ = w.cell? ⟨g, j, none⟩ := World.cell?_setCell_other _ _ _ _ (by first | (simp; done) | (simp; omega))
/-- the last stores of a function that hands an integer back -/
theorem fin_ze {w w1 : World} {g : Nat} {z err : Int} {A : Option Addr} {c : Nat} {b0 : Bool} {A1 : Option Addr} {n1 c1 : Nat} (hr : Mg w1 A c (limbs z.natAbs)) (hb : Below w.heap.size w w1) (hg : w.heap.size ≤ g)
  (h0 : w1.cell? ⟨g, 0, none⟩ = some (.bool b0)) (h1 : w1.cell? ⟨g, 1, none⟩ = some (.slice A1 n1 c1)) (u0 u1 : Value) :
  RetZE w z err (.returned (.tuple #[.agg #[.bool (decide ((z) < 0)), .slice A (limbs (Int.natAbs (z))).length c], .int .i64 err])) ((w1.setCell ⟨g, 0, none⟩ u0).setCell ⟨g, 1, none⟩ u1) :=
 ⟨A, c, rfl, (hr.set_ g 0 _ u0 h0 (by simp)).set_ g 1 _ u1 ((cell_set_ne (by omega)).trans h1) (by simp), below_set (below_set hb hg _ _) hg _ _⟩
theorem fin_z {w w1 : World} {g : Nat} {z : Int} {A : Option Addr} {c : Nat} {b0 : Bool} {A1 : Option Addr} {n1 c1 : Nat} (hr : Mg w1 A c (limbs z.natAbs)) (hb : Below w.heap.size w w1) (hg : w.heap.size ≤ g)
  (h0 : w1.cell? ⟨g, 0, none⟩ = some (.bool b0)) (h1 : w1.cell? ⟨g, 1, none⟩ = some (.slice A1 n1 c1)) (u0 u1 : Value) :
  RetZ w z (.returned (.agg #[.bool (decide ((z) < 0)), .slice A (limbs (Int.natAbs (z))).length c])) ((w1.setCell ⟨g, 0, none⟩ u0).setCell ⟨g, 1, none⟩ u1) :=
 ⟨A, c, rfl, (hr.set_ g 0 _ u0 h0 (by simp)).set_ g 1 _ u1 ((cell_set_ne (by omega)).trans h1) (by simp), below_set (below_set hb hg _ _) hg _ _⟩
set_option maxHeartbeats 400000 in
theorem integer_any (neg : Bool) (A : Option Addr) (c n : Nat) (w : World) (h : Mg w A c (limbs n)) :
  Calls Tryz.prog 56 #[.bool neg, .slice A (limbs n).length c] w (RetZ w (sg neg n)) := by
 by_cases h0 : n = 0
 ·subst h0
  rw [sg_zero]
  have hl : (limbs 0).length = 0 := by simp [limbs_zero]
  rw [hl]
  clear h
  go_enter Tryz.func56, Tryz.ntmps56
  go_wp2
  exact bodyPost_ret (v := .agg #[.bool false, .slice none 0 0]) (by simp [results, Tryz.results56, go_sem]) rfl (retZ_zero ((Below.refl _ _).alloc (Nat.le_refl _) _))
 ·have hl : 0 < (limbs n).length := by rw [limbs_pos h0]; simp
  have hl1 : (((limbs n).length : Int) == 0) = false := by rw [beq_eq_false_iff_ne]; omega
  have hr : ∀ w', Below w.heap.size w w' → RetZ w (sg neg n) (.returned (.agg #[.bool neg, .slice A (limbs n).length c])) w' := fun w' hb =>
   ⟨A, c, by rw [sg_neg neg n h0, natAbs_sg], by rw [natAbs_sg]; exact h.below hb, hb⟩
  have HR := hid hr
  clear hr h h0
  go_enter Tryz.func56, Tryz.ntmps56
  go_wp2
  exact bodyPost_ret (v := .agg #[.bool neg, .slice A (limbs n).length c]) (by simp [results, Tryz.results56, go_sem]) rfl (HR.out _ ((Below.refl _ _).alloc (Nat.le_refl _) _))
/-- what fits -/
def fits (z : Int) : Prop := (limbs z.natAbs).length ≤ 512
instance (z : Int) : Decidable (fits z) := inferInstanceAs (Decidable (_ ≤ _))
def fitE (z : Int) : Int × Int := if fits z then (z, 0) else (0, 4)
theorem fitE_yes {z : Int} (h : fits z) : fitE z = (z, 0) := by unfold fitE; rw [if_pos h]
theorem fitE_no {z : Int} (h : ¬ fits z) : fitE z = (0, 4) := by unfold fitE; rw [if_neg h]
def RetF (w : World) (z : Int) (e : Ending) (w' : World) : Prop := RetZE w (fitE z).1 (fitE z).2 e w'
set_option maxHeartbeats 400000 in
theorem bounded_any (neg : Bool) (A : Option Addr) (c n : Nat) (w : World) (h : Mg w A c (limbs n)) :
  Calls Tryz.prog 54 #[.bool neg, .slice A (limbs n).length c] w (RetF w (sg neg n)) := by
 by_cases hf : fits (sg neg n)
 ·have hl : (limbs n).length ≤ 512 := by unfold fits at hf; rwa [natAbs_sg] at hf
  have hi := fun (w1 : World) (h1 : Below w.heap.size w w1) => integer_any neg A c n w1 (h.below h1)
  have HI := hid hi
  have hR : RetF w (sg neg n) = RetZE w (sg neg n) 0 := by unfold RetF; rw [fitE_yes hf]
  rw [hR]
  clear hi h hf hR
  go_enter Tryz.func54, Tryz.ntmps54
  go_wp2_with (go_at_call 56; refine (HI.out _ ((Below.refl _ _).alloc (Nat.le_refl _) _)).mono ?_; rintro e w1 ⟨R, cc, rfl, hr, hb1⟩; obtain ⟨hc1, hf1⟩ := bcell hb1; have hz1 := hb1.size; simp only [World.size_alloc] at hz1)
  have k0 := (hc1 w.heap.size 0 (by simp))
  have k1 := (hc1 w.heap.size 1 (by simp))
  simp at k0 k1
  exact bodyPost_ret (v := .tuple #[.agg #[.bool (decide ((sg neg n) < 0)), .slice R (limbs (Int.natAbs (sg neg n))).length cc], .int .i64 0]) (by simp [results, Tryz.results54, go_sem, k0, k1]) rfl (fin_ze hr (((Below.refl _ _).alloc (Nat.le_refl _) _).trans (hb1.mono (by simp))) (Nat.le_refl _) k0 k1 _ _)
 ·have hl : 512 < (limbs n).length := by unfold fits at hf; rw [natAbs_sg] at hf; omega
  have hR : RetF w (sg neg n) = RetZE w 0 4 := by unfold RetF; rw [fitE_no hf]
  rw [hR]
  clear hf hR h
  go_enter Tryz.func54, Tryz.ntmps54
  go_wp2
  exact bodyPost_ret (v := .tuple #[.agg #[.bool false, .slice none 0 0], .int .i64 4]) (by simp [results, Tryz.results54, go_sem]) rfl (retZE_zero 4 ((Below.refl _ _).alloc (Nat.le_refl _) _))
end Go.Proofs.YtglailcfgcdagaaGreat
/- Integers: the natural numbers' contracts at canonical limbs; Valid; sum, Add, Sub, Mul. Conditions: none. -/
namespace Go.Proofs.YtglailcfgcdagaaGreat
open Go.RowKit Big
section
variable (A B : Option Addr) (c d n m : Nat) (w : World) (ha : Mg w A c (limbs n)) (hb : Mg w B d (limbs m)) (hs : (limbs n).length ≤ 1048576) (ht : (limbs m).length ≤ 1048576)
include ha hb
theorem cmp_n : Calls Tryz.prog 71 #[.slice A (limbs n).length c, .slice B (limbs m).length d] w (RetI w (ord n m)) := by
 have := compare_any A B c d _ _ w ha hb (nrm_limbs _) (nrm_limbs _); rwa [val_limbs, val_limbs] at this
include hs ht
theorem add_n : Calls Tryz.prog 70 #[.slice A (limbs n).length c, .slice B (limbs m).length d] w (RetN w (n + m)) := by
 have _h1 := hs
 have _h2 := ht
 have := add_any A B c d _ _ w ha hb (by omega) (by omega); rwa [val_limbs, val_limbs] at this
theorem mul_n : Calls Tryz.prog 55 #[.slice A (limbs n).length c, .slice B (limbs m).length d] w (RetN w (n * m)) := by
 have _h1 := hs
 have _h2 := ht
 have := multiply_any A B c d _ _ w ha hb (by omega) (by omega); rwa [val_limbs, val_limbs] at this
theorem sub_n (hle : m ≤ n) : Calls Tryz.prog 72 #[.slice A (limbs n).length c, .slice B (limbs m).length d] w (RetN w (n - m)) := by
 have _h1 := hs
 have _h2 := ht
 have hl : (limbs m).length ≤ (limbs n).length := by
  rw [limbs_len_iff]; have := val_lt_pow (ok_limbs n); rw [val_limbs] at this; omega
 have := subtract_any A B c d _ _ w ha hb hl (by rw [val_limbs, val_limbs]; exact hle) (by omega); rwa [val_limbs, val_limbs] at this
end
def validB (neg : Bool) (xs : List Nat) : Bool := if xs = [] then !neg else decide (xs.length ≤ 512) && decide (xs.getLast? ≠ some 0)
theorem valid_z {neg : Bool} {xs : List Nat} (ho : Ok xs) (h : validB neg xs = true) : ∃ z : Int, neg = decide (z < 0) ∧ xs = limbs z.natAbs ∧ fits z := by
 unfold validB at h
 split at h
 ·rename_i h0
  subst h0
  refine ⟨0, by simpa using h, by simp [limbs_zero], by simp [fits, limbs_zero]⟩
 ·rename_i h0
  simp only [Bool.and_eq_true, decide_eq_true_eq] at h
  have hl := limbs_val ho (h.2 : Nrm xs)
  have hp := val_pos (h.2 : Nrm xs) h0
  refine ⟨sg neg (val xs), (sg_neg neg _ (by omega)).symm, by rw [natAbs_sg, hl], by unfold fits; rw [natAbs_sg, hl]; exact h.1⟩
theorem validB_z {z : Int} (h : fits z) : validB (decide (z < 0)) (limbs z.natAbs) = true := by
 unfold validB
 split
 ·rename_i h0
  have := limbs_eq_nil.1 h0
  simp; omega
 ·have h1 : (limbs z.natAbs).getLast? ≠ some 0 := nrm_limbs z.natAbs
  simp only [Bool.and_eq_true, decide_eq_true_eq]
  exact ⟨h, h1⟩
set_option maxHeartbeats 400000 in
theorem Valid_any (neg : Bool) (A : Option Addr) (c : Nat) (xs : List Nat) (w : World) (ha : Mg w A c xs) :
  Calls Tryz.prog 45 #[.agg #[.bool neg, .slice A xs.length c]] w fun e w' => e = .returned (.bool (validB neg xs)) ∧ Below w.heap.size w w' := by
 by_cases h0 : xs = []
 ·subst h0
  have hv : validB neg [] = !neg := by simp [validB]
  rw [hv]
  clear ha hv
  go_enter Tryz.func45, Tryz.ntmps45
  go_wp2
  go_ret
  exact ⟨by simp, (Below.refl _ _).alloc (Nat.le_refl _) _⟩
 ·have hl0 : 0 < xs.length := List.length_pos_iff.2 h0
  have hl1 : ((xs.length : Int) == 0) = false := by rw [beq_eq_false_iff_ne]; omega
  have hv : validB neg xs = (decide (xs.length ≤ 512) && decide (xs.getLast? ≠ some 0)) := by unfold validB; rw [if_neg h0]
  have hm := ha.max
  have hm2 := ha.cap
  by_cases h5 : xs.length ≤ 512
  ·obtain ⟨b, o, rfl, hB, hc⟩ := ha.rd.at_ (k := xs.length - 1) (by omega)
   have c1 := hc (xs.length - 1) (by omega)
   unfold lim at c1
   have hlast : xs.getLast? = some xs[xs.length - 1] := by rw [List.getLast?_eq_getElem?, List.getElem?_eq_getElem (by omega)]
   rw [hlast] at hv
   generalize xs[xs.length - 1] = t at *
   by_cases ht : t = 0
   ·have hv2 : validB neg xs = false := by rw [hv]; simp [ht]
    rw [hv2]
    subst ht
    clear hc hlast hv hv2 h0 ha
    go_enter Tryz.func45, Tryz.ntmps45
    go_wp2
    go_ret
    exact ⟨rfl, (Below.refl _ _).alloc (Nat.le_refl _) _⟩
   ·have hv2 : validB neg xs = true := by rw [hv]; simp [ht, h5]
    have ht1 : ((t : Int) != 0) = true := by rw [bne_iff_ne]; omega
    rw [hv2]
    clear hc hlast hv hv2 h0 ha ht
    go_enter Tryz.func45, Tryz.ntmps45
    go_wp2
    go_ret
    exact ⟨rfl, (Below.refl _ _).alloc (Nat.le_refl _) _⟩
  ·have hv2 : validB neg xs = false := by rw [hv]; simp [h5]
   rw [hv2]
   clear hv hv2 h0 ha
   go_enter Tryz.func45, Tryz.ntmps45
   go_wp2
   go_ret
   exact ⟨rfl, (Below.refl _ _).alloc (Nat.le_refl _) _⟩
theorem Valid_t {z : Int} {A : Option Addr} {c : Nat} {w : World} (ha : Mg w A c (limbs z.natAbs)) (h : fits z) :
  Calls Tryz.prog 45 #[.agg #[.bool (decide ((z) < 0)), .slice A (limbs (Int.natAbs (z))).length c]] w fun e w' => e = .returned (.bool true) ∧ Below w.heap.size w w' :=
 (Valid_any _ A c _ w ha).mono fun e w' ⟨h1, h2⟩ => ⟨by rw [h1, validB_z h], h2⟩
end Go.Proofs.YtglailcfgcdagaaGreat
/- Integers: walks of sum, Add, Sub, Mul. Conditions: none. -/
namespace Go.Proofs.YtglailcfgcdagaaGreat
open Go.RowKit Big
/-- a block that the call laid first keeps what it holds over what follows -/
theorem box_keep {w w1 : World} {X : Array Value} {t : TypeId} (hb : Below (w.alloc (.cells X t)).heap.size (w.alloc (.cells X t)) w1) :
  (∀ i, w1.cell? ⟨w.heap.size, i, none⟩ = X[i]?) ∧ (∀ i, w1.frozen? ⟨w.heap.size, i, none⟩ = false) ∧ w.heap.size < w1.heap.size :=
 ⟨fun i => (hb.cell (p := ⟨w.heap.size, i, none⟩) (by simp)).trans (World.cell?_alloc_at _ _ _ _ rfl), fun i => (hb.frozen (p := ⟨w.heap.size, i, none⟩) (by simp)).trans (World.frozen?_alloc_at _ _ _ _ rfl), by have := hb.size; simp at this; omega⟩
theorem sg_same (b : Bool) (n m : Nat) : sg b n + sg b m = sg b (n + m) := by unfold sg; split <;> omega
theorem sg_lt (a b : Bool) (n m : Nat) (h : a ≠ b) (hl : n < m) : sg a n + sg b m = sg b (m - n) := by
 unfold sg; cases a <;> cases b <;> simp_all <;> omega
theorem sg_ge (a b : Bool) (n m : Nat) (h : a ≠ b) (hl : m ≤ n) : sg a n + sg b m = sg a (n - m) := by
 unfold sg; cases a <;> cases b <;> simp_all <;> omega
theorem sg_not (z : Int) : sg (!decide (z < 0)) z.natAbs = -z := by unfold sg; split <;> simp_all <;> omega
theorem sg_cases (x : Int) : (∃ n : Nat, x = n ∧ decide (x < 0) = false ∧ x.natAbs = n) ∨ (∃ n : Nat, x = -(n : Int) ∧ decide (x < 0) = true ∧ x.natAbs = n) := by
 by_cases h : x < 0
 ·exact .inr ⟨x.natAbs, by omega, by simpa using h, rfl⟩
 ·exact .inl ⟨x.natAbs, by omega, by simpa using h, rfl⟩
theorem sg_mul (x y : Int) : sg (decide (x < 0) != decide (y < 0)) (x.natAbs * y.natAbs) = x * y := by
 rcases sg_cases x with ⟨n, e, h1, h2⟩ | ⟨n, e, h1, h2⟩ <;> rcases sg_cases y with ⟨m, f, h3, h4⟩ | ⟨m, f, h3, h4⟩ <;> rw [h1, h2, h3, h4] <;> subst e <;> subst f <;> simp [sg, Int.neg_mul, Int.mul_neg]
set_option maxHeartbeats 1000000 in
theorem sum_any (an bn : Bool) (A B : Option Addr) (c d n m : Nat) (w : World) (ha : Mg w A c (limbs n)) (hb : Mg w B d (limbs m)) (hs : (limbs n).length ≤ 512) (ht : (limbs m).length ≤ 512) :
  Calls Tryz.prog 58 #[.bool an, .slice A (limbs n).length c, .bool bn, .slice B (limbs m).length d] w (RetF w (sg an n + sg bn m)) := by
 by_cases h : an = bn
 ·subst h
  rw [sg_same]
  have hadd := fun (w1 : World) (h1 : Below w.heap.size w w1) => add_n A B c d n m w1 (ha.below h1) (hb.below h1) (by omega) (by omega)
  have H1 := hid hadd
  have H2 := hid fun (w1 : World) (A1 : Option Addr) (c1 : Nat) (h1 : Mg w1 A1 c1 (limbs (n + m))) => bounded_any an A1 c1 (n + m) w1 h1
  clear hadd ha hb hs ht
  go_enter Tryz.func58, Tryz.ntmps58
  go_wp2_with (first | (go_at_call 70; refine (H1.out _ (by exact (Below.refl _ _).alloc (Nat.le_refl _) _)).mono ?_; rintro e w1 ⟨R, cc, rfl, hr, hb1⟩; obtain ⟨hc1, hf1⟩ := bcell hb1; have hz1 := hb1.size; simp only [World.size_alloc] at hz1) | (go_at_call 54; refine (H2.out _ _ _ hr).mono ?_; rintro e w2 ⟨R2, cc2, rfl, hr2, hb2⟩; have hb12 := hb1.trans (hb2.mono hb1.size); obtain ⟨kc, kf, kz⟩ := box_keep hb12))
  have k0 := kc 0
  have k1 := kc 1
  simp at k0 k1
  refine bodyPost_ret (v := .tuple #[.agg #[.bool (decide (((fitE (sg an (n + m))).1) < 0)), .slice R2 (limbs (Int.natAbs ((fitE (sg an (n + m))).1))).length cc2], .int .i64 (fitE (sg an (n + m))).2]) ?_ rfl ?_
  ·simp [results, Tryz.results58, go_sem, k0, k1]
  ·exact fin_ze hr2 (((Below.refl _ _).alloc (Nat.le_refl _) _).trans (hb12.mono (by simp))) (Nat.le_refl _) k0 k1 _ _
 ·by_cases hl : n < m
  ·rw [sg_lt an bn n m h hl]
   have H1 := hid fun (w1 : World) (h1 : Below w.heap.size w w1) => sub_n B A d c m n w1 (hb.below h1) (ha.below h1) (by omega) (by omega) (by omega)
   have H2 := hid fun (w1 : World) (A1 : Option Addr) (c1 : Nat) (h1 : Mg w1 A1 c1 (limbs (m - n))) => bounded_any bn A1 c1 (m - n) w1 h1
   have H3 := hid fun (w1 : World) (h1 : Below w.heap.size w w1) => cmp_n A B c d n m w1 (ha.below h1) (hb.below h1)
   have ho := ord_lt hl
   rw [ho] at H3
   have hne : (an == bn) = false := by simp [h]
   clear ha hb hs ht ho hl h
   go_enter Tryz.func58, Tryz.ntmps58
   go_wp2_with (first | (go_at_call 71; refine (H3.out _ (by exact (Below.refl _ _).alloc (Nat.le_refl _) _)).mono ?_; rintro e w0 ⟨rfl, hb0⟩; obtain ⟨hc0, hf0⟩ := bcell hb0; have hz0 := hb0.size; simp only [World.size_alloc] at hz0) | (go_at_call 72; refine (H1.out _ (((Below.refl _ _).alloc (Nat.le_refl _) _).trans (hb0.mono (by simp)))).mono ?_; rintro e w1 ⟨R, cc, rfl, hr, hb1'⟩; have hb1 := hb0.trans (hb1'.mono hb0.size); obtain ⟨hc1, hf1⟩ := bcell hb1; have hz1 := hb1.size; simp only [World.size_alloc] at hz1) | (go_at_call 54; refine (H2.out _ _ _ hr).mono ?_; rintro e w2 ⟨R2, cc2, rfl, hr2, hb2⟩; have hb12 := hb1.trans (hb2.mono hb1.size); obtain ⟨kc, kf, kz⟩ := box_keep hb12))
   have k0 := kc 0
   have k1 := kc 1
   simp at k0 k1
   refine bodyPost_ret (v := .tuple #[.agg #[.bool (decide (((fitE (sg bn (m - n))).1) < 0)), .slice R2 (limbs (Int.natAbs ((fitE (sg bn (m - n))).1))).length cc2], .int .i64 (fitE (sg bn (m - n))).2]) ?_ rfl ?_
   ·simp [results, Tryz.results58, go_sem, k0, k1]
   ·exact fin_ze hr2 (((Below.refl _ _).alloc (Nat.le_refl _) _).trans (hb12.mono (by simp))) (Nat.le_refl _) k0 k1 _ _
  ·rw [sg_ge an bn n m h (by omega)]
   have H1 := hid fun (w1 : World) (h1 : Below w.heap.size w w1) => sub_n A B c d n m w1 (ha.below h1) (hb.below h1) (by omega) (by omega) (by omega)
   have H2 := hid fun (w1 : World) (A1 : Option Addr) (c1 : Nat) (h1 : Mg w1 A1 c1 (limbs (n - m))) => bounded_any an A1 c1 (n - m) w1 h1
   have H3 := hid fun (w1 : World) (h1 : Below w.heap.size w w1) => cmp_n A B c d n m w1 (ha.below h1) (hb.below h1)
   have ho : 0 ≤ ord n m := by unfold ord; rw [if_neg hl]; split <;> omega
   generalize ord n m = ov at *
   have hne : (an == bn) = false := by simp [h]
   clear ha hb hs ht hl h
   go_enter Tryz.func58, Tryz.ntmps58
   go_wp2_with (first | (go_at_call 71; refine (H3.out _ (by exact (Below.refl _ _).alloc (Nat.le_refl _) _)).mono ?_; rintro e w0 ⟨rfl, hb0⟩; obtain ⟨hc0, hf0⟩ := bcell hb0; have hz0 := hb0.size; simp only [World.size_alloc] at hz0) | (go_at_call 72; refine (H1.out _ (((Below.refl _ _).alloc (Nat.le_refl _) _).trans (hb0.mono (by simp)))).mono ?_; rintro e w1 ⟨R, cc, rfl, hr, hb1'⟩; have hb1 := hb0.trans (hb1'.mono hb0.size); obtain ⟨hc1, hf1⟩ := bcell hb1; have hz1 := hb1.size; simp only [World.size_alloc] at hz1) | (go_at_call 54; refine (H2.out _ _ _ hr).mono ?_; rintro e w2 ⟨R2, cc2, rfl, hr2, hb2⟩; have hb12 := hb1.trans (hb2.mono hb1.size); obtain ⟨kc, kf, kz⟩ := box_keep hb12))
   have k0 := kc 0
   have k1 := kc 1
   simp at k0 k1
   refine bodyPost_ret (v := .tuple #[.agg #[.bool (decide (((fitE (sg an (n - m))).1) < 0)), .slice R2 (limbs (Int.natAbs ((fitE (sg an (n - m))).1))).length cc2], .int .i64 (fitE (sg an (n - m))).2]) ?_ rfl ?_
   ·simp [results, Tryz.results58, go_sem, k0, k1]
   ·exact fin_ze hr2 (((Below.refl _ _).alloc (Nat.le_refl _) _).trans (hb12.mono (by simp))) (Nat.le_refl _) k0 k1 _ _
end Go.Proofs.YtglailcfgcdagaaGreat
