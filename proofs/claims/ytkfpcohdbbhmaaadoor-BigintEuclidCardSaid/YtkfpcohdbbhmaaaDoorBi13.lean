/- Integers: walks of integer, bounded, Valid. Conditions: none. -/
import Derived.Test.YtkfpcohdbbhmaaaDoorBi12
namespace Go.Proofs.YtkfpcohdbbhmaaaDoor
set_option linter.unusedVariables false
set_option linter.unusedSimpArgs false
open Go.RowKit Big

def sg (neg : Bool) (n : Nat) : Int := if neg then -(n : Int) else n
theorem natAbs_sg (neg : Bool) (n : Nat) : (sg neg n).natAbs = n := by unfold sg; split <;> omega
theorem sg_neg (neg : Bool) (n : Nat) (h : n ≠ 0) : decide (sg neg n < 0) = neg := by
  unfold sg; cases neg
  · simp
  · simp; omega
theorem sg_zero (neg : Bool) : sg neg 0 = 0 := by unfold sg; split <;> simp
theorem sg_self (z : Int) : sg (decide (z < 0)) z.natAbs = z := by unfold sg; split <;> simp_all <;> omega

/-- an integer handed back -/
def RetZ (w : World) (z : Int) (e : Ending) (w' : World) : Prop :=
  ∃ A c, e = .returned (.agg #[.bool (decide ((z) < 0)), .slice A (limbs (Int.natAbs (z))).length c]) ∧ Mg w' A c (limbs z.natAbs) ∧ Below w.heap.size w w'
/-- an integer and an error number handed back -/
def RetZE (w : World) (z : Int) (err : Int) (e : Ending) (w' : World) : Prop :=
  ∃ A c, e = .returned (.tuple #[.agg #[.bool (decide ((z) < 0)), .slice A (limbs (Int.natAbs (z))).length c], .int .i64 err]) ∧ Mg w' A c (limbs z.natAbs) ∧ Below w.heap.size w w'

theorem mg_nil (w : World) : Mg w none 0 (limbs 0) := ⟨by simp [limbs_zero], by omega, ok_limbs _, by rw [limbs_zero]; exact Rd.nil _ _⟩
theorem retZ_zero {w w' : World} (hb : Below w.heap.size w w') : RetZ w 0 (.returned (.agg #[.bool false, .slice none 0 0])) w' := ⟨none, 0, by simp [limbs_zero], mg_nil _, hb⟩
theorem retZE_zero {w w' : World} (err : Int) (hb : Below w.heap.size w w') : RetZE w 0 err (.returned (.tuple #[.agg #[.bool false, .slice none 0 0], .int .i64 err])) w' := ⟨none, 0, by simp [limbs_zero], mg_nil _, hb⟩

/-- a store over a cell that holds no limb leaves every slice of limbs alone -/
theorem Mg.set_ {w : World} {A : Option Addr} {c : Nat} {xs : List Nat} (h : Mg w A c xs) (g i : Nat) (v u : Value) (hv : w.cell? ⟨g, i, none⟩ = some v) (hn : ∀ n, v ≠ .int .u32 n) : Mg (w.setCell ⟨g, i, none⟩ u) A c xs :=
  ⟨h.cap, h.max, h.ok, fun hl => by
    obtain ⟨b, o, e, hB, hc⟩ := h.rd hl
    refine ⟨b, o, e, by simpa using hB, fun j hj => ?_⟩
    rw [World.cell?_setCell_other]
    · exact hc j hj
    · intro he
      have h1 := hc j hj
      first | rw [he] at h1 | rw [← he] at h1
      rw [hv] at h1
      injection h1 with h1
      exact hn _ h1⟩

theorem below_set {B : Nat} {a w : World} (h : Below B a w) {g : Nat} (hg : B ≤ g) (i : Nat) (u : Value) : Below B a (w.setCell ⟨g, i, none⟩ u) := h.setCell (p := ⟨g, i, none⟩) hg u

theorem cell_set_ne {w : World} {g i j : Nat} {u : Value} (h : i ≠ j) : (w.setCell ⟨g, i, none⟩ u).cell? ⟨g, j, none⟩ = w.cell? ⟨g, j, none⟩ := World.cell?_setCell_other _ _ _ _ (by first | (simp; done) | (simp; omega))

/-- the last stores of a function that hands an integer back -/
theorem fin_ze {w w1 : World} {g : Nat} {z err : Int} {A : Option Addr} {c : Nat} {b0 : Bool} {A1 : Option Addr} {n1 c1 : Nat} (hr : Mg w1 A c (limbs z.natAbs)) (hb : Below w.heap.size w w1) (hg : w.heap.size ≤ g)
    (h0 : w1.cell? ⟨g, 0, none⟩ = some (.bool b0)) (h1 : w1.cell? ⟨g, 1, none⟩ = some (.slice A1 n1 c1)) (u0 u1 : Value) :
    RetZE w z err (.returned (.tuple #[.agg #[.bool (decide ((z) < 0)), .slice A (limbs (Int.natAbs (z))).length c], .int .i64 err])) ((w1.setCell ⟨g, 0, none⟩ u0).setCell ⟨g, 1, none⟩ u1) :=
  ⟨A, c, rfl, (hr.set_ g 0 _ u0 h0 (by simp)).set_ g 1 _ u1 ((cell_set_ne (by omega)).trans h1) (by simp), below_set (below_set hb hg _ _) hg _ _⟩
theorem fin_z {w w1 : World} {g : Nat} {z : Int} {A : Option Addr} {c : Nat} {b0 : Bool} {A1 : Option Addr} {n1 c1 : Nat} (hr : Mg w1 A c (limbs z.natAbs)) (hb : Below w.heap.size w w1) (hg : w.heap.size ≤ g)
    (h0 : w1.cell? ⟨g, 0, none⟩ = some (.bool b0)) (h1 : w1.cell? ⟨g, 1, none⟩ = some (.slice A1 n1 c1)) (u0 u1 : Value) :
    RetZ w z (.returned (.agg #[.bool (decide ((z) < 0)), .slice A (limbs (Int.natAbs (z))).length c])) ((w1.setCell ⟨g, 0, none⟩ u0).setCell ⟨g, 1, none⟩ u1) :=
  ⟨A, c, rfl, (hr.set_ g 0 _ u0 h0 (by simp)).set_ g 1 _ u1 ((cell_set_ne (by omega)).trans h1) (by simp), below_set (below_set hb hg _ _) hg _ _⟩

set_option maxHeartbeats 400000 in
theorem integer_any (neg : Bool) (A : Option Addr) (c n : Nat) (w : World) (h : Mg w A c (limbs n)) :
    Calls Tryd.prog 54 #[.bool neg, .slice A (limbs n).length c] w (RetZ w (sg neg n)) := by
  by_cases h0 : n = 0
  · subst h0
    rw [sg_zero]
    have hl : (limbs 0).length = 0 := by simp [limbs_zero]
    rw [hl]
    clear h
    go_enter Tryd.func54, Tryd.ntmps54
    go_wp2
    exact bodyPost_ret (v := .agg #[.bool false, .slice none 0 0]) (by simp [results, Tryd.results54, go_sem]) rfl (retZ_zero ((Below.refl _ _).alloc (Nat.le_refl _) _))
  · have hl : 0 < (limbs n).length := by rw [limbs_pos h0]; simp
    have hl1 : (((limbs n).length : Int) == 0) = false := by rw [beq_eq_false_iff_ne]; omega
    have hr : ∀ w', Below w.heap.size w w' → RetZ w (sg neg n) (.returned (.agg #[.bool neg, .slice A (limbs n).length c])) w' := fun w' hb =>
      ⟨A, c, by rw [sg_neg neg n h0, natAbs_sg], by rw [natAbs_sg]; exact h.below hb, hb⟩
    have HR := hid hr
    clear hr h h0
    go_enter Tryd.func54, Tryd.ntmps54
    go_wp2
    exact bodyPost_ret (v := .agg #[.bool neg, .slice A (limbs n).length c]) (by simp [results, Tryd.results54, go_sem]) rfl (HR.out _ ((Below.refl _ _).alloc (Nat.le_refl _) _))

/-- what fits -/
def fits (z : Int) : Prop := (limbs z.natAbs).length ≤ 512
instance (z : Int) : Decidable (fits z) := inferInstanceAs (Decidable (_ ≤ _))
def fitE (z : Int) : Int × Int := if fits z then (z, 0) else (0, 4)
theorem fitE_yes {z : Int} (h : fits z) : fitE z = (z, 0) := by unfold fitE; rw [if_pos h]
theorem fitE_no {z : Int} (h : ¬ fits z) : fitE z = (0, 4) := by unfold fitE; rw [if_neg h]
def RetF (w : World) (z : Int) (e : Ending) (w' : World) : Prop := RetZE w (fitE z).1 (fitE z).2 e w'

set_option maxHeartbeats 400000 in
theorem bounded_any (neg : Bool) (A : Option Addr) (c n : Nat) (w : World) (h : Mg w A c (limbs n)) :
    Calls Tryd.prog 74 #[.bool neg, .slice A (limbs n).length c] w (RetF w (sg neg n)) := by
  by_cases hf : fits (sg neg n)
  · have hl : (limbs n).length ≤ 512 := by unfold fits at hf; rwa [natAbs_sg] at hf
    have hi := fun (w1 : World) (h1 : Below w.heap.size w w1) => integer_any neg A c n w1 (h.below h1)
    have HI := hid hi
    have hR : RetF w (sg neg n) = RetZE w (sg neg n) 0 := by unfold RetF; rw [fitE_yes hf]
    rw [hR]
    clear hi h hf hR
    go_enter Tryd.func74, Tryd.ntmps74
    go_wp2_with (go_at_call 54; refine (HI.out _ ((Below.refl _ _).alloc (Nat.le_refl _) _)).mono ?_; rintro e w1 ⟨R, cc, rfl, hr, hb1⟩; obtain ⟨hc1, hf1⟩ := bcell hb1; have hz1 := hb1.size; simp only [World.size_alloc] at hz1)
    have k0 := (hc1 w.heap.size 0 (by simp))
    have k1 := (hc1 w.heap.size 1 (by simp))
    simp at k0 k1
    exact bodyPost_ret (v := .tuple #[.agg #[.bool (decide ((sg neg n) < 0)), .slice R (limbs (Int.natAbs (sg neg n))).length cc], .int .i64 0]) (by simp [results, Tryd.results74, go_sem, k0, k1]) rfl (fin_ze hr (((Below.refl _ _).alloc (Nat.le_refl _) _).trans (hb1.mono (by simp))) (Nat.le_refl _) k0 k1 _ _)
  · have hl : 512 < (limbs n).length := by unfold fits at hf; rw [natAbs_sg] at hf; omega
    have hR : RetF w (sg neg n) = RetZE w 0 4 := by unfold RetF; rw [fitE_no hf]
    rw [hR]
    clear hf hR h
    go_enter Tryd.func74, Tryd.ntmps74
    go_wp2
    exact bodyPost_ret (v := .tuple #[.agg #[.bool false, .slice none 0 0], .int .i64 4]) (by simp [results, Tryd.results74, go_sem]) rfl (retZE_zero 4 ((Below.refl _ _).alloc (Nat.le_refl _) _))

end Go.Proofs.YtkfpcohdbbhmaaaDoor
