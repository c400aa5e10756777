/- The laws BigintMultiplies and BigintDivides: their walks. Conditions: none. -/
import Derived.Test.YtkfpcohdbbhmaaaDoorRb
import Derived.Test.YtkfpcohdbbhmaaaDoorEx
namespace Go.Proofs.YtkfpcohdbbhmaaaDoor
set_option linter.unusedVariables false
set_option linter.unusedSimpArgs false
open Go.RowKit Big

theorem exRunR {w w1 : World} (h : Hid (ExOk w)) (b : Below w.heap.size w w1) : Calls Tryd.prog 20 #[] w1 (RetB w1 true) := h.out w1 b

set_option maxHeartbeats 2000000 in
theorem mult_law {na nb : Bool} {xs ys : List Nat} {A B : Option Addr} {ca cb : Nat} {w : World} (ma : Mg w A ca xs) (mb : Mg w B cb ys) (htab : PowTab w) :
    Calls Tryd.prog 6 #[.agg #[.bool na, .slice A xs.length ca], .agg #[.bool nb, .slice B ys.length cb]] w (RetB w true) := by
  have HE : Hid (ExOk w) := fun w1 b => examples_ok w1 (htab.below b)
  obtain ⟨z, err, H1, H2⟩ := Mul_both (na := na) (nb := nb) ma mb
  obtain ⟨b1, n1, L1, I1⟩ := iz z
  replace H1 := allg H1 fun w1 e w' h => h.g I1.out
  replace H2 := allg H2 fun w1 e w' h => h.g I1.out
  have HS := hid fun (w1 : World) (R Q : Option Addr) (c d : Nat) (m : Mg w1 R c L1) (m' : Mg w1 Q d L1) => Same_g (w := w1) I1.out I1.out m m' true (by simp)
  have HB : Below w.heap.size w w := Below.refl _ _
  clear ma mb I1
  generalize xs.length = la at *
  generalize ys.length = lb_ at *
  go_enter Tryd.func6, Tryd.ntmps6
  go_wp2_with fail
  refine (H1.out _ (by repeat' (first | with_reducible assumption | exact Below.refl _ _ | (refine Below.alloc ?_ (by first | omega | (simp only [World.size_alloc, World.size_setCell, World.size_drew]; done) | (simp only [World.size_alloc, World.size_setCell, World.size_drew]; omega)) _) | (refine Below.drew ?_) | (refine below_drewN ?_ _) | (refine Below.setCell ?_ (by first | omega | (simp only [World.size_alloc, World.size_setCell, World.size_drew]; done) | (simp only [World.size_alloc, World.size_setCell, World.size_drew]; omega)) _)))).mono ?_
  rintro e w1 ⟨R1, c1, rfl, m1, h1⟩
  obtain ⟨f1, f2, f3, f4⟩ := new2 h1
  have hv_ : Below w.heap.size w w1 := Below.trans (b := _) (by repeat (first | assumption | exact Below.refl _ _ | refine Below.alloc ?_ (by simp; try omega) _ | refine Below.drew ?_ | refine below_drewN ?_ _)) (h1.mono (by simp; try omega))
  replace HB := HB.trans (hv_.mono HB.size)
  clear hv_
  have lt_f1 := cell_lt f1
  have lt_f2 := cell_lt f2
  have lt_f3 := cell_lt f3
  have lt_f4 := cell_lt f4
  go_wp2_with fail
  have g0 := at_alloc0 (W := w1) (a := .bool b1) (b := .slice R1 n1 c1) (t := 24) rfl
  have g1 := at_alloc1 (W := w1) (a := .bool b1) (b := .slice R1 n1 c1) (t := 24) rfl
  have hv_ : Below w1.heap.size w1 (w1.alloc (.cells #[.bool b1, .slice R1 n1 c1] 24)) := (Below.refl _ _).alloc (Nat.le_refl _) _
  generalize w1.alloc (.cells #[.bool b1, .slice R1 n1 c1] 24) = u1 at *
  replace m1 := m1.below hv_
  replace f1 := keep_cell hv_ f1
  replace f2 := keep_cell hv_ f2
  replace f3 := keep_cell hv_ f3
  replace f4 := keep_cell hv_ f4
  replace HB := HB.trans (hv_.mono HB.size)
  clear hv_
  refine (H2.out _ HB).mono ?_
  rintro e w2 ⟨R2, c2, rfl, m2, h2⟩
  have hv_ : Below u1.heap.size u1 w2 := Below.trans (b := _) (by repeat (first | assumption | exact Below.refl _ _ | refine Below.alloc ?_ (by simp; try omega) _ | refine Below.drew ?_ | refine below_drewN ?_ _)) (h2.mono (by simp; try omega))
  replace m1 := m1.below hv_
  replace g0 := keep_cell hv_ g0
  replace g1 := keep_cell hv_ g1
  have lt_g0 := cell_lt g0
  have lt_g1 := cell_lt g1
  replace HB := HB.trans (hv_.mono HB.size)
  clear hv_
  go_wp2_with fail
  have k0 := at_alloc0 (W := w2) (a := .bool b1) (b := .slice R2 n1 c2) (t := 24) rfl
  have k1 := at_alloc1 (W := w2) (a := .bool b1) (b := .slice R2 n1 c2) (t := 24) rfl
  have hv_ : Below w2.heap.size w2 (w2.alloc (.cells #[.bool b1, .slice R2 n1 c2] 24)) := (Below.refl _ _).alloc (Nat.le_refl _) _
  generalize w2.alloc (.cells #[.bool b1, .slice R2 n1 c2] 24) = u2 at *
  replace m1 := m1.below hv_
  replace m2 := m2.below hv_
  replace g0 := keep_cell hv_ g0
  replace g1 := keep_cell hv_ g1
  replace HB := HB.trans (hv_.mono HB.size)
  clear hv_
  refine (HS.out _ _ _ _ _ m1 m2).mono ?_
  rintro e w3 ⟨rfl, h3⟩
  have hv_ : Below u2.heap.size u2 w3 := Below.trans (b := _) (by repeat (first | assumption | exact Below.refl _ _ | refine Below.alloc ?_ (by simp; try omega) _ | refine Below.drew ?_ | refine below_drewN ?_ _)) (h3.mono (by simp; try omega))
  replace HB := HB.trans (hv_.mono HB.size)
  clear hv_
  go_wp2_with fail
  refine (exRunR HE HB).mono ?_
  rintro e w4 ⟨rfl, h4⟩
  go_wp2_with fail
  go_ret
  exact ⟨rfl, bel_step HB h4⟩

set_option maxHeartbeats 2000000 in
theorem div_law {na nb : Bool} {xs ys : List Nat} {A B : Option Addr} {ca cb : Nat} {w : World} (ma : Mg w A ca xs) (mb : Mg w B cb ys) (htab : PowTab w) :
    Calls Tryd.prog 3 #[.agg #[.bool na, .slice A xs.length ca], .agg #[.bool nb, .slice B ys.length cb]] w (RetB w true) := by
  have HE : Hid (ExOk w) := fun w1 b => examples_ok w1 (htab.below b)
  obtain ⟨z, r, err, H1, H2⟩ := DivMod_both (na := na) (nb := nb) ma mb
  obtain ⟨z3, err3, H3, H4⟩ := GCD_both (na := na) (nb := nb) ma mb
  obtain ⟨b1, n1, L1, I1⟩ := iz z
  obtain ⟨b2, n2, L2, I2⟩ := iz r
  obtain ⟨b3, n3, L3, I3⟩ := iz z3
  replace H1 := allg H1 fun w1 e w' h => h.g I1.out I2.out
  replace H2 := allg H2 fun w1 e w' h => h.g I1.out I2.out
  replace H3 := allg H3 fun w1 e w' h => h.g I3.out
  replace H4 := allg H4 fun w1 e w' h => h.g I3.out
  have HS1 := hid fun (w1 : World) (R Q : Option Addr) (c d : Nat) (m : Mg w1 R c L1) (m' : Mg w1 Q d L1) => Same_g (w := w1) I1.out I1.out m m' true (by simp)
  have HS2 := hid fun (w1 : World) (R Q : Option Addr) (c d : Nat) (m : Mg w1 R c L2) (m' : Mg w1 Q d L2) => Same_g (w := w1) I2.out I2.out m m' true (by simp)
  have HS3 := hid fun (w1 : World) (R Q : Option Addr) (c d : Nat) (m : Mg w1 R c L3) (m' : Mg w1 Q d L3) => Same_g (w := w1) I3.out I3.out m m' true (by simp)
  have HB : Below w.heap.size w w := Below.refl _ _
  clear ma mb I1 I2 I3
  generalize xs.length = la at *
  generalize ys.length = lb_ at *
  go_enter Tryd.func3, Tryd.ntmps3
  go_wp2_with fail
  refine (H1.out _ (by repeat' (first | with_reducible assumption | exact Below.refl _ _ | (refine Below.alloc ?_ (by first | omega | (simp only [World.size_alloc, World.size_setCell, World.size_drew]; done) | (simp only [World.size_alloc, World.size_setCell, World.size_drew]; omega)) _) | (refine Below.drew ?_) | (refine below_drewN ?_ _) | (refine Below.setCell ?_ (by first | omega | (simp only [World.size_alloc, World.size_setCell, World.size_drew]; done) | (simp only [World.size_alloc, World.size_setCell, World.size_drew]; omega)) _)))).mono ?_
  rintro e w1 ⟨R1, c1, Q1, d1, rfl, m1, p1, h1⟩
  obtain ⟨f1, f2, f3, f4⟩ := new2 h1
  have hv_ : Below w.heap.size w w1 := Below.trans (b := _) (by repeat (first | assumption | exact Below.refl _ _ | refine Below.alloc ?_ (by simp; try omega) _ | refine Below.drew ?_ | refine below_drewN ?_ _)) (h1.mono (by simp; try omega))
  replace HB := HB.trans (hv_.mono HB.size)
  clear hv_
  have lt_f1 := cell_lt f1
  have lt_f2 := cell_lt f2
  have lt_f3 := cell_lt f3
  have lt_f4 := cell_lt f4
  go_wp2_with fail
  have g0 := keep_alloc (b := .cells #[.bool b2, .slice Q1 n2 d1] 24) (at_alloc0 (W := w1) (a := .bool b1) (b := .slice R1 n1 c1) (t := 24) rfl)
  have g1 := keep_alloc (b := .cells #[.bool b2, .slice Q1 n2 d1] 24) (at_alloc1 (W := w1) (a := .bool b1) (b := .slice R1 n1 c1) (t := 24) rfl)
  have h0 := at_alloc0 (W := w1.alloc (.cells #[.bool b1, .slice R1 n1 c1] 24)) (a := .bool b2) (b := .slice Q1 n2 d1) (t := 24) rfl
  have h1 := at_alloc1 (W := w1.alloc (.cells #[.bool b1, .slice R1 n1 c1] 24)) (a := .bool b2) (b := .slice Q1 n2 d1) (t := 24) rfl
  have hv_ : Below w1.heap.size w1 ((w1.alloc (.cells #[.bool b1, .slice R1 n1 c1] 24)).alloc (.cells #[.bool b2, .slice Q1 n2 d1] 24)) := ((Below.refl _ _).alloc (Nat.le_refl _) _).alloc (by simp) _
  simp only [World.size_alloc] at h0 h1
  generalize (w1.alloc (.cells #[.bool b1, .slice R1 n1 c1] 24)).alloc (.cells #[.bool b2, .slice Q1 n2 d1] 24) = u1 at *
  replace m1 := m1.below hv_
  replace p1 := p1.below hv_
  replace f1 := keep_cell hv_ f1
  replace f2 := keep_cell hv_ f2
  replace f3 := keep_cell hv_ f3
  replace f4 := keep_cell hv_ f4
  replace HB := HB.trans (hv_.mono HB.size)
  clear hv_
  refine (H2.out _ HB).mono ?_
  rintro e w2 ⟨R2, c2, Q2, d2, rfl, m2, p2, h2⟩
  have hv_ : Below u1.heap.size u1 w2 := Below.trans (b := _) (by repeat (first | assumption | exact Below.refl _ _ | refine Below.alloc ?_ (by simp; try omega) _ | refine Below.drew ?_ | refine below_drewN ?_ _)) (h2.mono (by simp; try omega))
  replace m1 := m1.below hv_
  replace p1 := p1.below hv_
  replace f1 := keep_cell hv_ f1
  replace f2 := keep_cell hv_ f2
  replace f3 := keep_cell hv_ f3
  replace f4 := keep_cell hv_ f4
  replace g0 := keep_cell hv_ g0
  replace g1 := keep_cell hv_ g1
  replace h0 := keep_cell hv_ h0
  replace h1 := keep_cell hv_ h1
  have lt_f1 := cell_lt f1
  have lt_f2 := cell_lt f2
  have lt_f3 := cell_lt f3
  have lt_f4 := cell_lt f4
  have lt_g0 := cell_lt g0
  have lt_g1 := cell_lt g1
  have lt_h0 := cell_lt h0
  have lt_h1 := cell_lt h1
  replace HB := HB.trans (hv_.mono HB.size)
  clear hv_
  go_wp2_with fail
  have i0 := keep_alloc (b := .cells #[.bool b2, .slice Q2 n2 d2] 24) (at_alloc0 (W := w2) (a := .bool b1) (b := .slice R2 n1 c2) (t := 24) rfl)
  have i1 := keep_alloc (b := .cells #[.bool b2, .slice Q2 n2 d2] 24) (at_alloc1 (W := w2) (a := .bool b1) (b := .slice R2 n1 c2) (t := 24) rfl)
  have j0 := at_alloc0 (W := w2.alloc (.cells #[.bool b1, .slice R2 n1 c2] 24)) (a := .bool b2) (b := .slice Q2 n2 d2) (t := 24) rfl
  have j1 := at_alloc1 (W := w2.alloc (.cells #[.bool b1, .slice R2 n1 c2] 24)) (a := .bool b2) (b := .slice Q2 n2 d2) (t := 24) rfl
  have hv_ : Below w2.heap.size w2 ((w2.alloc (.cells #[.bool b1, .slice R2 n1 c2] 24)).alloc (.cells #[.bool b2, .slice Q2 n2 d2] 24)) := ((Below.refl _ _).alloc (Nat.le_refl _) _).alloc (by simp) _
  simp only [World.size_alloc] at j0 j1
  generalize (w2.alloc (.cells #[.bool b1, .slice R2 n1 c2] 24)).alloc (.cells #[.bool b2, .slice Q2 n2 d2] 24) = u2 at *
  replace m1 := m1.below hv_
  replace p1 := p1.below hv_
  replace m2 := m2.below hv_
  replace p2 := p2.below hv_
  replace f1 := keep_cell hv_ f1
  replace f2 := keep_cell hv_ f2
  replace f3 := keep_cell hv_ f3
  replace f4 := keep_cell hv_ f4
  replace g0 := keep_cell hv_ g0
  replace g1 := keep_cell hv_ g1
  replace h0 := keep_cell hv_ h0
  replace h1 := keep_cell hv_ h1
  replace HB := HB.trans (hv_.mono HB.size)
  clear hv_
  refine (H3.out _ HB).mono ?_
  rintro e w3 ⟨R3, c3, rfl, m3, h3⟩
  have hv_ : Below u2.heap.size u2 w3 := Below.trans (b := _) (by repeat (first | assumption | exact Below.refl _ _ | refine Below.alloc ?_ (by simp; try omega) _ | refine Below.drew ?_ | refine below_drewN ?_ _)) (h3.mono (by simp; try omega))
  replace m1 := m1.below hv_
  replace p1 := p1.below hv_
  replace m2 := m2.below hv_
  replace p2 := p2.below hv_
  replace f1 := keep_cell hv_ f1
  replace f2 := keep_cell hv_ f2
  replace f3 := keep_cell hv_ f3
  replace f4 := keep_cell hv_ f4
  replace g0 := keep_cell hv_ g0
  replace g1 := keep_cell hv_ g1
  replace h0 := keep_cell hv_ h0
  replace h1 := keep_cell hv_ h1
  replace i0 := keep_cell hv_ i0
  replace i1 := keep_cell hv_ i1
  replace j0 := keep_cell hv_ j0
  replace j1 := keep_cell hv_ j1
  have lt_f1 := cell_lt f1
  have lt_f2 := cell_lt f2
  have lt_f3 := cell_lt f3
  have lt_f4 := cell_lt f4
  have lt_g0 := cell_lt g0
  have lt_g1 := cell_lt g1
  have lt_h0 := cell_lt h0
  have lt_h1 := cell_lt h1
  have lt_i0 := cell_lt i0
  have lt_i1 := cell_lt i1
  have lt_j0 := cell_lt j0
  have lt_j1 := cell_lt j1
  replace HB := HB.trans (hv_.mono HB.size)
  clear hv_
  go_wp2_with fail
  have k0 := at_alloc0 (W := w3) (a := .bool b3) (b := .slice R3 n3 c3) (t := 24) rfl
  have k1 := at_alloc1 (W := w3) (a := .bool b3) (b := .slice R3 n3 c3) (t := 24) rfl
  have hv_ : Below w3.heap.size w3 (w3.alloc (.cells #[.bool b3, .slice R3 n3 c3] 24)) := (Below.refl _ _).alloc (Nat.le_refl _) _
  generalize w3.alloc (.cells #[.bool b3, .slice R3 n3 c3] 24) = u3 at *
  replace m1 := m1.below hv_
  replace p1 := p1.below hv_
  replace m2 := m2.below hv_
  replace p2 := p2.below hv_
  replace m3 := m3.below hv_
  replace f1 := keep_cell hv_ f1
  replace f2 := keep_cell hv_ f2
  replace f3 := keep_cell hv_ f3
  replace f4 := keep_cell hv_ f4
  replace g0 := keep_cell hv_ g0
  replace g1 := keep_cell hv_ g1
  replace h0 := keep_cell hv_ h0
  replace h1 := keep_cell hv_ h1
  replace i0 := keep_cell hv_ i0
  replace i1 := keep_cell hv_ i1
  replace j0 := keep_cell hv_ j0
  replace j1 := keep_cell hv_ j1
  replace HB := HB.trans (hv_.mono HB.size)
  clear hv_
  refine (H4.out _ HB).mono ?_
  rintro e w4 ⟨R4, c4, rfl, m4, h4⟩
  have hv_ : Below u3.heap.size u3 w4 := Below.trans (b := _) (by repeat (first | assumption | exact Below.refl _ _ | refine Below.alloc ?_ (by simp; try omega) _ | refine Below.drew ?_ | refine below_drewN ?_ _)) (h4.mono (by simp; try omega))
  replace m1 := m1.below hv_
  replace p1 := p1.below hv_
  replace m2 := m2.below hv_
  replace p2 := p2.below hv_
  replace m3 := m3.below hv_
  replace g0 := keep_cell hv_ g0
  replace g1 := keep_cell hv_ g1
  replace h0 := keep_cell hv_ h0
  replace h1 := keep_cell hv_ h1
  replace i0 := keep_cell hv_ i0
  replace i1 := keep_cell hv_ i1
  replace j0 := keep_cell hv_ j0
  replace j1 := keep_cell hv_ j1
  replace k0 := keep_cell hv_ k0
  replace k1 := keep_cell hv_ k1
  have lt_g0 := cell_lt g0
  have lt_g1 := cell_lt g1
  have lt_h0 := cell_lt h0
  have lt_h1 := cell_lt h1
  have lt_i0 := cell_lt i0
  have lt_i1 := cell_lt i1
  have lt_j0 := cell_lt j0
  have lt_j1 := cell_lt j1
  have lt_k0 := cell_lt k0
  have lt_k1 := cell_lt k1
  replace HB := HB.trans (hv_.mono HB.size)
  clear hv_
  go_wp2_with fail
  have l0 := at_alloc0 (W := w4) (a := .bool b3) (b := .slice R4 n3 c4) (t := 24) rfl
  have l1 := at_alloc1 (W := w4) (a := .bool b3) (b := .slice R4 n3 c4) (t := 24) rfl
  have hv_ : Below w4.heap.size w4 (w4.alloc (.cells #[.bool b3, .slice R4 n3 c4] 24)) := (Below.refl _ _).alloc (Nat.le_refl _) _
  generalize w4.alloc (.cells #[.bool b3, .slice R4 n3 c4] 24) = u4 at *
  replace m1 := m1.below hv_
  replace p1 := p1.below hv_
  replace m2 := m2.below hv_
  replace p2 := p2.below hv_
  replace m3 := m3.below hv_
  replace m4 := m4.below hv_
  replace g0 := keep_cell hv_ g0
  replace g1 := keep_cell hv_ g1
  replace h0 := keep_cell hv_ h0
  replace h1 := keep_cell hv_ h1
  replace i0 := keep_cell hv_ i0
  replace i1 := keep_cell hv_ i1
  replace j0 := keep_cell hv_ j0
  replace j1 := keep_cell hv_ j1
  replace k0 := keep_cell hv_ k0
  replace k1 := keep_cell hv_ k1
  replace HB := HB.trans (hv_.mono HB.size)
  clear hv_
  refine (HS1.out _ _ _ _ _ m1 m2).mono ?_
  rintro e w5 ⟨rfl, h5⟩
  have hv_ : Below u4.heap.size u4 w5 := Below.trans (b := _) (by repeat (first | assumption | exact Below.refl _ _ | refine Below.alloc ?_ (by simp; try omega) _ | refine Below.drew ?_ | refine below_drewN ?_ _)) (h5.mono (by simp; try omega))
  replace p1 := p1.below hv_
  replace p2 := p2.below hv_
  replace m3 := m3.below hv_
  replace m4 := m4.below hv_
  replace h0 := keep_cell hv_ h0
  replace h1 := keep_cell hv_ h1
  replace j0 := keep_cell hv_ j0
  replace j1 := keep_cell hv_ j1
  replace k0 := keep_cell hv_ k0
  replace k1 := keep_cell hv_ k1
  replace l0 := keep_cell hv_ l0
  replace l1 := keep_cell hv_ l1
  have lt_h0 := cell_lt h0
  have lt_h1 := cell_lt h1
  have lt_j0 := cell_lt j0
  have lt_j1 := cell_lt j1
  have lt_k0 := cell_lt k0
  have lt_k1 := cell_lt k1
  have lt_l0 := cell_lt l0
  have lt_l1 := cell_lt l1
  replace HB := HB.trans (hv_.mono HB.size)
  clear hv_
  go_wp2_with fail
  refine (HS2.out _ _ _ _ _ p1 p2).mono ?_
  rintro e w6 ⟨rfl, h6⟩
  have hv_ : Below w5.heap.size w5 w6 := Below.trans (b := _) (by repeat (first | assumption | exact Below.refl _ _ | refine Below.alloc ?_ (by simp; try omega) _ | refine Below.drew ?_ | refine below_drewN ?_ _)) (h6.mono (by simp; try omega))
  replace m3 := m3.below hv_
  replace m4 := m4.below hv_
  replace k0 := keep_cell hv_ k0
  replace k1 := keep_cell hv_ k1
  replace l0 := keep_cell hv_ l0
  replace l1 := keep_cell hv_ l1
  have lt_k0 := cell_lt k0
  have lt_k1 := cell_lt k1
  have lt_l0 := cell_lt l0
  have lt_l1 := cell_lt l1
  replace HB := HB.trans (hv_.mono HB.size)
  clear hv_
  go_wp2_with fail
  refine (HS3.out _ _ _ _ _ m3 m4).mono ?_
  rintro e w7 ⟨rfl, h7⟩
  have hv_ : Below w6.heap.size w6 w7 := Below.trans (b := _) (by repeat (first | assumption | exact Below.refl _ _ | refine Below.alloc ?_ (by simp; try omega) _ | refine Below.drew ?_ | refine below_drewN ?_ _)) (h7.mono (by simp; try omega))
  replace HB := HB.trans (hv_.mono HB.size)
  clear hv_
  go_wp2_with fail
  refine (exRunR HE HB).mono ?_
  rintro e w8 ⟨rfl, h8⟩
  go_wp2_with fail
  go_ret
  exact ⟨rfl, bel_step HB h8⟩
end Go.Proofs.YtkfpcohdbbhmaaaDoor
