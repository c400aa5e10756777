/- Integers: the walk of ToInt. Conditions: none. -/
import Derived.Test.YtkfpcohdbbhmaaaDoorBi20
namespace Go.Proofs.YtkfpcohdbbhmaaaDoor
set_option linter.unusedVariables false
set_option linter.unusedSimpArgs false
open Go.RowKit Big

def RetIE (w : World) (n err : Int) (e : Ending) (w' : World) : Prop := e = .returned (.tuple #[.int .i64 n, .int .i64 err]) ∧ Below w.heap.size w w'
def toI (x : Int) : Int × Int := if -9223372036854775808 ≤ x ∧ x ≤ 9223372036854775807 then (x, 0) else (0, 13)
theorem toI_yes {x : Int} (h : -9223372036854775808 ≤ x ∧ x ≤ 9223372036854775807) : toI x = (x, 0) := by unfold toI; rw [if_pos h]
theorem toI_no {x : Int} (h : ¬ (-9223372036854775808 ≤ x ∧ x ≤ 9223372036854775807)) : toI x = (0, 13) := by unfold toI; rw [if_neg h]

theorem ToInt_bad (na : Bool) (xs : List Nat) (A : Option Addr) (c : Nat) (w : World) (ha : Mg w A c xs) (h : validB na xs = false) :
    Calls Tryd.prog 31 #[.agg #[.bool na, .slice A xs.length c]] w (RetIE w 0 1) := by
  have HX := hid fun (w1 : World) (h1 : Below w.heap.size w w1) => Valid_f (ha.below h1) h
  clear ha h
  generalize xs.length = lx at *
  go_enter Tryd.func31, Tryd.ntmps31
  go_wp2_with fail
  refine (HX.out _ (by repeat (first | assumption | exact Below.refl _ _ | refine Below.alloc ?_ (by simp; try omega) _ | refine Below.drew ?_ | refine below_drewN ?_ _))).mono ?_
  rintro e w1 ⟨rfl, h1⟩
  have b1 : Below w.heap.size w w1 := Below.trans (b := _) (by repeat (first | assumption | exact Below.refl _ _ | refine Below.alloc ?_ (by simp; try omega) _ | refine Below.drew ?_ | refine below_drewN ?_ _)) (h1.mono (by simp))
  go_wp2
  go_ret2
  exact ⟨rfl, b1⟩

theorem len2 {n : Nat} : (limbs n).length ≤ 2 ↔ n < 18446744073709551616 := by
  rw [limbs_len_iff]

set_option maxHeartbeats 1000000 in
theorem ToInt_ok (x : Int) (A : Option Addr) (c : Nat) (w : World) (ha : Mg w A c (limbs x.natAbs)) (fx : fits x) :
    Calls Tryd.prog 31 #[.agg #[.bool (decide ((x) < 0)), .slice A (limbs (Int.natAbs (x))).length c]] w (RetIE w (toI x).1 (toI x).2) := by
  have HX := hid fun (w1 : World) (h1 : Below w.heap.size w w1) => Valid_t (ha.below h1) fx
  by_cases hl : (limbs x.natAbs).length ≤ 2
  · have HW := hid fun (w1 : World) (h1 : Below w.heap.size w w1) => word_any A c _ w1 (ha.below h1) hl
    have hv := HW.out
    simp only [val_limbs] at hv
    clear HW
    have HW := hid hv
    clear hv
    have hx := len2.1 hl
    by_cases hn : x < 0
    · have ex : decide (x < 0) = true := by simpa using hn
      rw [ex] at HX ⊢
      by_cases hb : x.natAbs ≤ 9223372036854775808
      · rw [toI_yes (by omega)]
        have hz : wrap64 (IntKind.u64.wrap (-(x.natAbs : Int))) = x := by simp only [IntKind.wrap_u64, wrap64]; omega
        have hxx := hid hz
        have hbb : decide ((9223372036854775808 : Int) < (x.natAbs : Int)) = false := by simp; omega
        clear ha fx hn ex hx
        generalize hm : x.natAbs = m at *
        clear hm hz
        have hl2 : decide ((2 : Int) < ((limbs m).length : Int)) = false := by simp; omega
        go_enter Tryd.func31, Tryd.ntmps31
        go_wp2_with fail
        refine (HX.out _ (by repeat (first | assumption | exact Below.refl _ _ | refine Below.alloc ?_ (by simp; try omega) _ | refine Below.drew ?_ | refine below_drewN ?_ _))).mono ?_
        rintro e w1 ⟨rfl, h1⟩
        obtain ⟨p1, p2, p3⟩ := box_keep h1
        have b1 : Below w.heap.size w w1 := Below.trans (b := _) (by repeat (first | assumption | exact Below.refl _ _ | refine Below.alloc ?_ (by simp; try omega) _ | refine Below.drew ?_ | refine below_drewN ?_ _)) (h1.mono (by simp))
        go_wp2_with (go_at_call 78; refine (HW.out _ b1).mono ?_; rintro e w2 ⟨rfl, h2⟩; obtain ⟨q1, q2, q3⟩ := box_keep (h1.trans (h2.mono h1.size)))
        rw [hxx.out]
        go_ret2
        exact ⟨rfl, b1.trans (h2.mono b1.size)⟩
      · rw [toI_no (by omega)]
        clear ha fx hn ex hx
        generalize hm : x.natAbs = m at *
        clear hm
        have hl2 : decide ((2 : Int) < ((limbs m).length : Int)) = false := by simp; omega
        go_enter Tryd.func31, Tryd.ntmps31
        go_wp2_with fail
        refine (HX.out _ (by repeat (first | assumption | exact Below.refl _ _ | refine Below.alloc ?_ (by simp; try omega) _ | refine Below.drew ?_ | refine below_drewN ?_ _))).mono ?_
        rintro e w1 ⟨rfl, h1⟩
        obtain ⟨p1, p2, p3⟩ := box_keep h1
        have b1 : Below w.heap.size w w1 := Below.trans (b := _) (by repeat (first | assumption | exact Below.refl _ _ | refine Below.alloc ?_ (by simp; try omega) _ | refine Below.drew ?_ | refine below_drewN ?_ _)) (h1.mono (by simp))
        go_wp2_with (go_at_call 78; refine (HW.out _ b1).mono ?_; rintro e w2 ⟨rfl, h2⟩; obtain ⟨q1, q2, q3⟩ := box_keep (h1.trans (h2.mono h1.size)))
        go_ret2
        exact ⟨rfl, b1.trans (h2.mono b1.size)⟩
    · have ex : decide (x < 0) = false := by simpa using hn
      rw [ex] at HX ⊢
      by_cases hb : x.natAbs < 9223372036854775808
      · rw [toI_yes (by omega)]
        have hxx := hid (show wrap64 ((x.natAbs : Nat) : Int) = x by simp only [wrap64]; omega)
        clear ha fx hn ex hx
        generalize hm : x.natAbs = m at *
        clear hm
        have hbb : decide ((9223372036854775808 : Int) ≤ (m : Int)) = false := by simp; omega
        clear hb
        have hl2 : decide ((2 : Int) < ((limbs m).length : Int)) = false := by simp; omega
        go_enter Tryd.func31, Tryd.ntmps31
        go_wp2_with fail
        refine (HX.out _ (by repeat (first | assumption | exact Below.refl _ _ | refine Below.alloc ?_ (by simp; try omega) _ | refine Below.drew ?_ | refine below_drewN ?_ _))).mono ?_
        rintro e w1 ⟨rfl, h1⟩
        obtain ⟨p1, p2, p3⟩ := box_keep h1
        have b1 : Below w.heap.size w w1 := Below.trans (b := _) (by repeat (first | assumption | exact Below.refl _ _ | refine Below.alloc ?_ (by simp; try omega) _ | refine Below.drew ?_ | refine below_drewN ?_ _)) (h1.mono (by simp))
        go_wp2_with (go_at_call 78; refine (HW.out _ b1).mono ?_; rintro e w2 ⟨rfl, h2⟩; obtain ⟨q1, q2, q3⟩ := box_keep (h1.trans (h2.mono h1.size)))
        rw [hxx.out]
        go_ret2
        exact ⟨rfl, b1.trans (h2.mono b1.size)⟩
      · rw [toI_no (by omega)]
        clear ha fx hn ex hx
        generalize hm : x.natAbs = m at *
        clear hm
        have hbb : decide ((9223372036854775808 : Int) ≤ (m : Int)) = true := by simp; omega
        clear hb
        have hl2 : decide ((2 : Int) < ((limbs m).length : Int)) = false := by simp; omega
        go_enter Tryd.func31, Tryd.ntmps31
        go_wp2_with fail
        refine (HX.out _ (by repeat (first | assumption | exact Below.refl _ _ | refine Below.alloc ?_ (by simp; try omega) _ | refine Below.drew ?_ | refine below_drewN ?_ _))).mono ?_
        rintro e w1 ⟨rfl, h1⟩
        obtain ⟨p1, p2, p3⟩ := box_keep h1
        have b1 : Below w.heap.size w w1 := Below.trans (b := _) (by repeat (first | assumption | exact Below.refl _ _ | refine Below.alloc ?_ (by simp; try omega) _ | refine Below.drew ?_ | refine below_drewN ?_ _)) (h1.mono (by simp))
        go_wp2_with (go_at_call 78; refine (HW.out _ b1).mono ?_; rintro e w2 ⟨rfl, h2⟩; obtain ⟨q1, q2, q3⟩ := box_keep (h1.trans (h2.mono h1.size)))
        go_ret2
        exact ⟨rfl, b1.trans (h2.mono b1.size)⟩
  · have hx := mt len2.2 hl
    rw [toI_no (by omega)]
    clear ha fx hx
    generalize decide (x < 0) = bx at *
    generalize hm : x.natAbs = m at *
    clear hm
    have hl2 : decide ((2 : Int) < ((limbs m).length : Int)) = true := by simp; omega
    go_enter Tryd.func31, Tryd.ntmps31
    go_wp2_with fail
    refine (HX.out _ (by repeat (first | assumption | exact Below.refl _ _ | refine Below.alloc ?_ (by simp; try omega) _ | refine Below.drew ?_ | refine below_drewN ?_ _))).mono ?_
    rintro e w1 ⟨rfl, h1⟩
    obtain ⟨p1, p2, p3⟩ := box_keep h1
    have b1 : Below w.heap.size w w1 := Below.trans (b := _) (by repeat (first | assumption | exact Below.refl _ _ | refine Below.alloc ?_ (by simp; try omega) _ | refine Below.drew ?_ | refine below_drewN ?_ _)) (h1.mono (by simp))
    go_wp2
    go_ret2
    exact ⟨rfl, b1⟩

end Go.Proofs.YtkfpcohdbbhmaaaDoor
