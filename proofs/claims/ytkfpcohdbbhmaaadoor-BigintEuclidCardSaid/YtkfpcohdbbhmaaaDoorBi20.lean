/- Integers: DivMod at bad arguments. Conditions: none. -/
import Derived.Test.YtkfpcohdbbhmaaaDoorBi19
namespace Go.Proofs.YtkfpcohdbbhmaaaDoor
set_option linter.unusedVariables false
set_option linter.unusedSimpArgs false
open Go.RowKit Big

set_option maxHeartbeats 1000000 in
theorem DivMod_bad1 (na nb : Bool) (xs ys : List Nat) (A B : Option Addr) (c d : Nat) (w : World) (ha : Mg w A c xs) (h : validB na xs = false) :
    Calls Tryd.prog 15 #[.agg #[.bool na, .slice A xs.length c], .agg #[.bool nb, .slice B ys.length d]] w (RetDM w 0 0 1) := by
  have HX := hid fun (w1 : World) (h1 : Below w.heap.size w w1) => Valid_f (ha.below h1) h
  clear ha h
  generalize xs.length = lx at *
  generalize ys.length = ly at *
  go_enter Tryd.func15, Tryd.ntmps15
  go_wp2_with fail
  refine (HX.out _ (by repeat (first | assumption | exact Below.refl _ _ | refine Below.alloc ?_ (by simp; try omega) _ | refine Below.drew ?_ | refine below_drewN ?_ _))).mono ?_
  rintro e w1 ⟨rfl, h1⟩
  obtain ⟨q1, q2, q3, q4, q5, q6, q7, q8, q9⟩ := box4_keep h1
  have b2 : Below w.heap.size w w1 := Below.trans (b := _) (by repeat (first | assumption | exact Below.refl _ _ | refine Below.alloc ?_ (by simp; try omega) _ | refine Below.drew ?_ | refine below_drewN ?_ _)) (h1.mono (by simp; omega))
  have k0 := q5 0
  have k1 := q5 1
  have k2 := q7 0
  have k3 := q7 1
  simp at k0 k1 k2 k3
  go_wp2
  refine bodyPost_ret (v := .tuple #[.agg #[.bool false, .slice none 0 0], .agg #[.bool false, .slice none 0 0], .int .i64 1]) ?_ rfl ?_
  · simp [results, Tryd.results15, go_sem, k0, k1, k2, k3]
  · exact retDM_zero 1 (below_set (below_set (below_set (below_set b2 (by omega) _ _) (by omega) _ _) (by omega) _ _) (by omega) _ _)

set_option maxHeartbeats 1000000 in
theorem DivMod_bad2 (x : Int) (nb : Bool) (ys : List Nat) (A B : Option Addr) (c d : Nat) (w : World) (ha : Mg w A c (limbs x.natAbs)) (hb : Mg w B d ys) (fx : fits x) (h : validB nb ys = false) :
    Calls Tryd.prog 15 #[.agg #[.bool (decide ((x) < 0)), .slice A (limbs (Int.natAbs (x))).length c], .agg #[.bool nb, .slice B ys.length d]] w (RetDM w 0 0 1) := by
  have HX := hid fun (w1 : World) (h : Below w.heap.size w w1) => Valid_t (ha.below h) fx
  have HY := hid fun (w1 : World) (h1 : Below w.heap.size w w1) => Valid_f (hb.below h1) h
  clear ha hb fx h
  generalize decide (x < 0) = bx at *
  generalize (limbs x.natAbs).length = lx at *
  generalize ys.length = ly at *
  go_enter Tryd.func15, Tryd.ntmps15
  go_wp2_with fail
  refine (HX.out _ (by repeat (first | assumption | exact Below.refl _ _ | refine Below.alloc ?_ (by simp; try omega) _ | refine Below.drew ?_ | refine below_drewN ?_ _))).mono ?_
  rintro e w1 ⟨rfl, h1⟩
  obtain ⟨p1, p2, p3, p4, p5, p6, p7, p8, p9⟩ := box4_keep h1
  have b1 : Below w.heap.size w w1 := Below.trans (b := _) (by repeat (first | assumption | exact Below.refl _ _ | refine Below.alloc ?_ (by simp; try omega) _ | refine Below.drew ?_ | refine below_drewN ?_ _)) (h1.mono (by simp; omega))
  go_wp2_with fail
  refine (HY.out _ b1).mono ?_
  rintro e w2 ⟨rfl, h2⟩
  have h12 := h1.trans (h2.mono h1.size)
  obtain ⟨q1, q2, q3, q4, q5, q6, q7, q8, q9⟩ := box4_keep h12
  have b2 := b1.trans (h2.mono b1.size)
  clear p1 p2 p3 p4 p5 p6 p7 p8 p9
  have k0 := q5 0
  have k1 := q5 1
  have k2 := q7 0
  have k3 := q7 1
  simp at k0 k1 k2 k3
  go_wp2
  refine bodyPost_ret (v := .tuple #[.agg #[.bool false, .slice none 0 0], .agg #[.bool false, .slice none 0 0], .int .i64 1]) ?_ rfl ?_
  · simp [results, Tryd.results15, go_sem, k0, k1, k2, k3]
  · exact retDM_zero 1 (below_set (below_set (below_set (below_set b2 (by omega) _ _) (by omega) _ _) (by omega) _ _) (by omega) _ _)

set_option maxHeartbeats 1000000 in
theorem DivMod_zero (x : Int) (A B : Option Addr) (c d : Nat) (w : World) (ha : Mg w A c (limbs x.natAbs)) (hb : Mg w B d (limbs (0 : Int).natAbs)) (fx : fits x) :
    Calls Tryd.prog 15 #[.agg #[.bool (decide ((x) < 0)), .slice A (limbs (Int.natAbs (x))).length c], .agg #[.bool (decide (((0 : Int)) < 0)), .slice B (limbs (Int.natAbs ((0 : Int)))).length d]] w (RetDM w 0 0 12) := by
  have HX := hid fun (w1 : World) (h : Below w.heap.size w w1) => Valid_t (ha.below h) fx
  have HY := hid fun (w1 : World) (h : Below w.heap.size w w1) => Valid_t (z := 0) (hb.below h) (by simp [fits, limbs_zero])
  have e0 : (limbs (0 : Int).natAbs).length = 0 := by simp [limbs_zero]
  have e1 : decide ((0 : Int) < 0) = false := rfl
  rw [e0, e1] at HY ⊢
  clear ha hb fx e0 e1
  generalize decide (x < 0) = bx at *
  generalize (limbs x.natAbs).length = lx at *
  go_enter Tryd.func15, Tryd.ntmps15
  go_wp2_with fail
  refine (HX.out _ (by repeat (first | assumption | exact Below.refl _ _ | refine Below.alloc ?_ (by simp; try omega) _ | refine Below.drew ?_ | refine below_drewN ?_ _))).mono ?_
  rintro e w1 ⟨rfl, h1⟩
  obtain ⟨p1, p2, p3, p4, p5, p6, p7, p8, p9⟩ := box4_keep h1
  have b1 : Below w.heap.size w w1 := Below.trans (b := _) (by repeat (first | assumption | exact Below.refl _ _ | refine Below.alloc ?_ (by simp; try omega) _ | refine Below.drew ?_ | refine below_drewN ?_ _)) (h1.mono (by simp; omega))
  go_wp2_with fail
  refine (HY.out _ b1).mono ?_
  rintro e w2 ⟨rfl, h2⟩
  have h12 := h1.trans (h2.mono h1.size)
  obtain ⟨q1, q2, q3, q4, q5, q6, q7, q8, q9⟩ := box4_keep h12
  have b2 := b1.trans (h2.mono b1.size)
  clear p1 p2 p3 p4 p5 p6 p7 p8 p9
  have k0 := q5 0
  have k1 := q5 1
  have k2 := q7 0
  have k3 := q7 1
  simp at k0 k1 k2 k3
  go_wp2
  refine bodyPost_ret (v := .tuple #[.agg #[.bool false, .slice none 0 0], .agg #[.bool false, .slice none 0 0], .int .i64 12]) ?_ rfl ?_
  · simp [results, Tryd.results15, go_sem, k0, k1, k2, k3]
  · exact retDM_zero 12 (below_set (below_set (below_set (below_set b2 (by omega) _ _) (by omega) _ _) (by omega) _ _) (by omega) _ _)

end Go.Proofs.YtkfpcohdbbhmaaaDoor
