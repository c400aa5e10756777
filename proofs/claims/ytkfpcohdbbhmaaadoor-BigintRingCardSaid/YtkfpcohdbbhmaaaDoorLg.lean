/- The law BigintRing: its walk. Conditions: none. -/
import Derived.Test.YtkfpcohdbbhmaaaDoorLe
import Derived.Test.YtkfpcohdbbhmaaaDoorExP
import Derived.Deep.Light
set_option linter.unusedVariables false
set_option linter.unusedSimpArgs false
namespace Go.Proofs.YtkfpcohdbbhmaaaDoor
open Go.RowKit Big

theorem fitE_zero {x z err : Int} (h : fitE x = (z, err)) (he : err = 0) : z = x ∧ fits x := by
  rcases fitE_cases x with ⟨hf, h1⟩ | ⟨_, h1⟩
  · rw [h, Prod.mk.injEq] at h1
    exact ⟨h1.1, hf⟩
  · rw [h, Prod.mk.injEq] at h1
    omega

set_option maxHeartbeats 16000000 in
set_option maxRecDepth 100000 in
theorem ring_ok {x y z : Int} {bx by_ bz : Bool} {nx ny nz : Nat} {X Y Z : List Nat} {A B C : Option Addr} {ca cb cc : Nat} {w : World} (HE : Hid (ExOk w)) (Ix : Iz x bx nx X) (Iy : Iz y by_ ny Y) (Iz_ : Iz z bz nz Z) (ma : Mg w A ca X) (mb : Mg w B cb Y) (mc : Mg w C cc Z) (fx : fits x) (fy : fits y) (fz : fits z) :
    Calls Tryd.prog 10 #[.agg #[.bool bx, .slice A nx ca], .agg #[.bool by_, .slice B ny cb], .agg #[.bool bz, .slice C nz cc]] w (RetB w true) := by
  obtain ⟨v1, e1, hv1⟩ : ∃ v e, fitE (x + y) = (v, e) := ⟨_, _, rfl⟩
  obtain ⟨v2, e2, hv2⟩ : ∃ v e, fitE (y + z) = (v, e) := ⟨_, _, rfl⟩
  obtain ⟨v3, e3, hv3⟩ : ∃ v e, fitE (x * y) = (v, e) := ⟨_, _, rfl⟩
  obtain ⟨v4, e4, hv4⟩ : ∃ v e, fitE (y * z) = (v, e) := ⟨_, _, rfl⟩
  obtain ⟨v5, e5, hv5⟩ : ∃ v e, fitE (x * z) = (v, e) := ⟨_, _, rfl⟩
  obtain ⟨v6, e6, hv6⟩ : ∃ v e, fitE (x - y) = (v, e) := ⟨_, _, rfl⟩
  obtain ⟨b1, n1, L1, I1⟩ := iz v1
  obtain ⟨b2, n2, L2, I2⟩ := iz v2
  obtain ⟨b3, n3, L3, I3⟩ := iz v3
  obtain ⟨b4, n4, L4, I4⟩ := iz v4
  obtain ⟨b5, n5, L5, I5⟩ := iz v5
  obtain ⟨b6, n6, L6, I6⟩ := iz v6
  obtain ⟨bX, nX, LX, IX⟩ := iz (-x)
  obtain ⟨bY, nY, LY, IY⟩ := iz (-y)
  obtain ⟨bO, nO, LO, IO⟩ := iz 0
  obtain ⟨bI, nI, LI, II⟩ := iz 1
  have hnO : nO = 0 := IO.out.zero.2 rfl
  subst hnO
  have HVa := hid fun (w1 : World) (m : Mg w1 A ca X) => Valid_g (w := w1) Ix m fx
  have HVb := hid fun (w1 : World) (m : Mg w1 B cb Y) => Valid_g (w := w1) Iy m fy
  have HVc := hid fun (w1 : World) (m : Mg w1 C cc Z) => Valid_g (w := w1) Iz_ m fz
  have HA1 := hid fun (w1 : World) (m : Mg w1 A ca X) (m' : Mg w1 B cb Y) => Add_g (w := w1) Ix Iy I1.out hv1 m m' fx fy rfl
  have HA2 := hid fun (w1 : World) (m : Mg w1 B cb Y) (m' : Mg w1 A ca X) => Add_g (w := w1) Iy Ix I1.out hv1 m m' fy fx (Int.add_comm y x)
  have HA3 := hid fun (w1 : World) (m : Mg w1 B cb Y) (m' : Mg w1 C cc Z) => Add_g (w := w1) Iy Iz_ I2.out hv2 m m' fy fz rfl
  have HM1 := hid fun (w1 : World) (m : Mg w1 A ca X) (m' : Mg w1 B cb Y) => Mul_g (w := w1) Ix Iy I3.out hv3 m m' fx fy rfl
  have HM2 := hid fun (w1 : World) (m : Mg w1 B cb Y) (m' : Mg w1 A ca X) => Mul_g (w := w1) Iy Ix I3.out hv3 m m' fy fx (Int.mul_comm y x)
  have HM3 := hid fun (w1 : World) (m : Mg w1 B cb Y) (m' : Mg w1 C cc Z) => Mul_g (w := w1) Iy Iz_ I4.out hv4 m m' fy fz rfl
  have HM4 := hid fun (w1 : World) (m : Mg w1 A ca X) (m' : Mg w1 C cc Z) => Mul_g (w := w1) Ix Iz_ I5.out hv5 m m' fx fz rfl
  have HSu := hid fun (w1 : World) (m : Mg w1 A ca X) (m' : Mg w1 B cb Y) => Sub_g (w := w1) Ix Iy I6.out hv6 m m' fx fy rfl
  have HNb := hid fun (w1 : World) (m : Mg w1 B cb Y) => Neg_g (w := w1) Iy IY.out m fy rfl
  have HNa := hid fun (w1 : World) (m : Mg w1 A ca X) => Neg_g (w := w1) Ix IX.out m fx rfl
  have HS2 := hid fun (w1 : World) (R : Option Addr) (c : Nat) (m : Mg w1 A ca X) (m' : Mg w1 R c LY) => Add_g (w := w1) Ix IY.out I6.out hv6 m m' fx (fits_neg fy) (Int.sub_eq_add_neg).symm
  have HZ0 := hid fun (w1 : World) (R : Option Addr) (c : Nat) (m : Mg w1 A ca X) (m' : Mg w1 R c LX) => Add_g (w := w1) Ix IX.out IO.out (fitE_yes (fits_word 0 (by decide))) m m' fx (fits_neg fx) (Int.add_right_neg x)
  have HF1 := hid fun (w1 : World) => FromInt_g (w := w1) II.out (by omega) (by omega)
  have HF0 := hid fun (w1 : World) => FromInt_g (w := w1) IO.out (by omega) (by omega)
  have HU := hid fun (w1 : World) (R : Option Addr) (c : Nat) (m : Mg w1 A ca X) (m' : Mg w1 R c LI) => Mul_g (w := w1) Ix II.out Ix (fitE_yes fx) m m' fx (fits_word 1 (by decide)) (Int.mul_one x)
  have HW := hid fun (w1 : World) (R : Option Addr) (c : Nat) (m : Mg w1 A ca X) (m' : Mg w1 R c LO) => Add_g (w := w1) Ix IO.out Ix (fitE_yes fx) m m' fx (fits_word 0 (by decide)) (Int.add_zero x)
  have HSa := hid fun (w1 : World) (R Q : Option Addr) (c d : Nat) (m : Mg w1 R c L1) (m' : Mg w1 Q d L1) => Same_g (w := w1) I1.out I1.out m m' true (by simp)
  have HSb := hid fun (w1 : World) (R Q : Option Addr) (c d : Nat) (m : Mg w1 R c L3) (m' : Mg w1 Q d L3) => Same_g (w := w1) I3.out I3.out m m' true (by simp)
  have HSc := hid fun (w1 : World) (R Q : Option Addr) (c d : Nat) (m : Mg w1 R c L6) (m' : Mg w1 Q d L6) => Same_g (w := w1) I6.out I6.out m m' true (by simp)
  have HSd := hid fun (w1 : World) (R Q : Option Addr) (c d : Nat) (m : Mg w1 R c X) (m' : Mg w1 Q d X) => Same_g (w := w1) Ix Ix m m' true (by simp)
  obtain ⟨B118, HT118⟩ : ∃ b : Bool, Hid (b = ((e1 == 0) && (e2 == 0))) := ⟨_, rfl⟩
  obtain ⟨B142, HT142⟩ : ∃ b : Bool, Hid (b = ((e3 == 0) && (e4 == 0))) := ⟨_, rfl⟩
  obtain ⟨B176, HT176⟩ : ∃ b : Bool, Hid (b = ((e3 == 0) && (e2 == 0) && (e5 == 0))) := ⟨_, rfl⟩
  have HP1 := hid (And.intro hv1 hv2)
  have HP2 := hid (And.intro hv3 (And.intro hv4 hv5))
  clear hv1 hv2 hv3 hv4 hv5 hv6
  have HB : Below w.heap.size w w := Below.refl _ _
  go_enter Tryd.func10, Tryd.ntmps10
  go_wp2_with fail
  refine (HVa.out _ (ma.below (by repeat' (first | with_reducible assumption | exact Below.refl _ _ | (refine Below.alloc ?_ (by first | omega | (simp only [World.size_alloc, World.size_setCell, World.size_drew]; done) | (simp only [World.size_alloc, World.size_setCell, World.size_drew]; omega)) _) | (refine Below.drew ?_) | (refine below_drewN ?_ _) | (refine Below.setCell ?_ (by first | omega | (simp only [World.size_alloc, World.size_setCell, World.size_drew]; done) | (simp only [World.size_alloc, World.size_setCell, World.size_drew]; omega)) _))))).mono ?_
  rintro e w1 ⟨rfl, h1⟩
  have hv_ : Below w.heap.size w w1 := Below.trans (b := _) (by repeat (first | assumption | exact Below.refl _ _ | refine Below.alloc ?_ (by simp; try omega) _ | refine Below.drew ?_ | refine below_drewN ?_ _)) (h1.mono (by simp; try omega))
  replace ma := ma.below hv_
  replace mb := mb.below hv_
  replace mc := mc.below hv_
  replace HB := HB.trans (hv_.mono HB.size)
  clear hv_
  obtain ⟨f1, f2, f3, f4, f5, f6⟩ := new3 h1
  go_wp2_with fail
  refine (HVb.out _ mb).mono ?_
  rintro e w2 ⟨rfl, h2⟩
  have hv_ : Below w1.heap.size w1 w2 := Below.trans (b := _) (by repeat (first | assumption | exact Below.refl _ _ | refine Below.alloc ?_ (by simp; try omega) _ | refine Below.drew ?_ | refine below_drewN ?_ _)) (h2.mono (by simp; try omega))
  replace ma := ma.below hv_
  replace mb := mb.below hv_
  replace mc := mc.below hv_
  replace f1 := keep_cell hv_ f1
  replace f2 := keep_cell hv_ f2
  replace f3 := keep_cell hv_ f3
  replace f4 := keep_cell hv_ f4
  replace f5 := keep_cell hv_ f5
  replace f6 := keep_cell hv_ f6
  have lt_f1 := cell_lt f1
  have lt_f2 := cell_lt f2
  have lt_f3 := cell_lt f3
  have lt_f4 := cell_lt f4
  have lt_f5 := cell_lt f5
  have lt_f6 := cell_lt f6
  replace HB := HB.trans (hv_.mono HB.size)
  clear hv_
  go_wp2_with fail
  refine (HVc.out _ mc).mono ?_
  rintro e w3 ⟨rfl, h3⟩
  have hv_ : Below w2.heap.size w2 w3 := Below.trans (b := _) (by repeat (first | assumption | exact Below.refl _ _ | refine Below.alloc ?_ (by simp; try omega) _ | refine Below.drew ?_ | refine below_drewN ?_ _)) (h3.mono (by simp; try omega))
  replace ma := ma.below hv_
  replace mb := mb.below hv_
  replace mc := mc.below hv_
  replace f1 := keep_cell hv_ f1
  replace f2 := keep_cell hv_ f2
  replace f3 := keep_cell hv_ f3
  replace f4 := keep_cell hv_ f4
  replace f5 := keep_cell hv_ f5
  replace f6 := keep_cell hv_ f6
  have lt_f1 := cell_lt f1
  have lt_f2 := cell_lt f2
  have lt_f3 := cell_lt f3
  have lt_f4 := cell_lt f4
  have lt_f5 := cell_lt f5
  have lt_f6 := cell_lt f6
  replace HB := HB.trans (hv_.mono HB.size)
  clear hv_
  go_wp2_with fail
  refine (HA1.out _ ma mb).mono ?_
  rintro e w4 ⟨R1, c1, rfl, m1, h4⟩
  have hv_ : Below w3.heap.size w3 w4 := Below.trans (b := _) (by repeat (first | assumption | exact Below.refl _ _ | refine Below.alloc ?_ (by simp; try omega) _ | refine Below.drew ?_ | refine below_drewN ?_ _)) (h4.mono (by simp; try omega))
  replace ma := ma.below hv_
  replace mb := mb.below hv_
  replace mc := mc.below hv_
  replace f1 := keep_cell hv_ f1
  replace f2 := keep_cell hv_ f2
  replace f3 := keep_cell hv_ f3
  replace f4 := keep_cell hv_ f4
  replace f5 := keep_cell hv_ f5
  replace f6 := keep_cell hv_ f6
  have lt_f1 := cell_lt f1
  have lt_f2 := cell_lt f2
  have lt_f3 := cell_lt f3
  have lt_f4 := cell_lt f4
  have lt_f5 := cell_lt f5
  have lt_f6 := cell_lt f6
  replace HB := HB.trans (hv_.mono HB.size)
  clear hv_
  go_wp2_with fail
  have g0 := at_alloc0 (W := w4) (a := .bool b1) (b := .slice R1 n1 c1) (t := 24) rfl
  have g1 := at_alloc1 (W := w4) (a := .bool b1) (b := .slice R1 n1 c1) (t := 24) rfl
  have hv_ : Below w4.heap.size w4 (w4.alloc (.cells #[.bool b1, .slice R1 n1 c1] 24)) := (Below.refl _ _).alloc (Nat.le_refl _) _
  generalize w4.alloc (.cells #[.bool b1, .slice R1 n1 c1] 24) = u4 at *
  replace ma := ma.below hv_
  replace mb := mb.below hv_
  replace mc := mc.below hv_
  replace m1 := m1.below hv_
  replace f1 := keep_cell hv_ f1
  replace f2 := keep_cell hv_ f2
  replace f3 := keep_cell hv_ f3
  replace f4 := keep_cell hv_ f4
  replace f5 := keep_cell hv_ f5
  replace f6 := keep_cell hv_ f6
  replace HB := HB.trans (hv_.mono HB.size)
  clear hv_
  refine (HA2.out _ mb ma).mono ?_
  rintro e w5 ⟨R2, c2, rfl, m2, h5⟩
  have hv_ : Below u4.heap.size u4 w5 := Below.trans (b := _) (by repeat (first | assumption | exact Below.refl _ _ | refine Below.alloc ?_ (by simp; try omega) _ | refine Below.drew ?_ | refine below_drewN ?_ _)) (h5.mono (by simp; try omega))
  replace ma := ma.below hv_
  replace mb := mb.below hv_
  replace mc := mc.below hv_
  replace m1 := m1.below hv_
  replace f1 := keep_cell hv_ f1
  replace f2 := keep_cell hv_ f2
  replace f3 := keep_cell hv_ f3
  replace f4 := keep_cell hv_ f4
  replace f5 := keep_cell hv_ f5
  replace f6 := keep_cell hv_ f6
  replace g0 := keep_cell hv_ g0
  replace g1 := keep_cell hv_ g1
  have lt_f1 := cell_lt f1
  have lt_f2 := cell_lt f2
  have lt_f3 := cell_lt f3
  have lt_f4 := cell_lt f4
  have lt_f5 := cell_lt f5
  have lt_f6 := cell_lt f6
  have lt_g0 := cell_lt g0
  have lt_g1 := cell_lt g1
  replace HB := HB.trans (hv_.mono HB.size)
  clear hv_
  go_wp2_with fail
  have h0 := at_alloc0 (W := w5) (a := .bool b1) (b := .slice R2 n1 c2) (t := 24) rfl
  have h1 := at_alloc1 (W := w5) (a := .bool b1) (b := .slice R2 n1 c2) (t := 24) rfl
  have hv_ : Below w5.heap.size w5 (w5.alloc (.cells #[.bool b1, .slice R2 n1 c2] 24)) := (Below.refl _ _).alloc (Nat.le_refl _) _
  generalize w5.alloc (.cells #[.bool b1, .slice R2 n1 c2] 24) = u5 at *
  replace ma := ma.below hv_
  replace mb := mb.below hv_
  replace mc := mc.below hv_
  replace m1 := m1.below hv_
  replace m2 := m2.below hv_
  replace f1 := keep_cell hv_ f1
  replace f2 := keep_cell hv_ f2
  replace f3 := keep_cell hv_ f3
  replace f4 := keep_cell hv_ f4
  replace f5 := keep_cell hv_ f5
  replace f6 := keep_cell hv_ f6
  replace g0 := keep_cell hv_ g0
  replace g1 := keep_cell hv_ g1
  replace HB := HB.trans (hv_.mono HB.size)
  clear hv_
  refine (HA3.out _ mb mc).mono ?_
  rintro e w6 ⟨R3, c3, rfl, m3, h6⟩
  have hv_ : Below u5.heap.size u5 w6 := Below.trans (b := _) (by repeat (first | assumption | exact Below.refl _ _ | refine Below.alloc ?_ (by simp; try omega) _ | refine Below.drew ?_ | refine below_drewN ?_ _)) (h6.mono (by simp; try omega))
  replace ma := ma.below hv_
  replace mb := mb.below hv_
  replace mc := mc.below hv_
  replace m1 := m1.below hv_
  replace m2 := m2.below hv_
  replace f1 := keep_cell hv_ f1
  replace f2 := keep_cell hv_ f2
  replace f3 := keep_cell hv_ f3
  replace f4 := keep_cell hv_ f4
  replace f5 := keep_cell hv_ f5
  replace f6 := keep_cell hv_ f6
  replace g0 := keep_cell hv_ g0
  replace g1 := keep_cell hv_ g1
  replace h0 := keep_cell hv_ h0
  replace h1 := keep_cell hv_ h1
  have lt_f1 := cell_lt f1
  have lt_f2 := cell_lt f2
  have lt_f3 := cell_lt f3
  have lt_f4 := cell_lt f4
  have lt_f5 := cell_lt f5
  have lt_f6 := cell_lt f6
  have lt_g0 := cell_lt g0
  have lt_g1 := cell_lt g1
  have lt_h0 := cell_lt h0
  have lt_h1 := cell_lt h1
  replace HB := HB.trans (hv_.mono HB.size)
  clear hv_
  go_wp2_with fail
  have i0 := at_alloc0 (W := w6) (a := .bool b2) (b := .slice R3 n2 c3) (t := 24) rfl
  have i1 := at_alloc1 (W := w6) (a := .bool b2) (b := .slice R3 n2 c3) (t := 24) rfl
  have hv_ : Below w6.heap.size w6 (w6.alloc (.cells #[.bool b2, .slice R3 n2 c3] 24)) := (Below.refl _ _).alloc (Nat.le_refl _) _
  generalize w6.alloc (.cells #[.bool b2, .slice R3 n2 c3] 24) = u6 at *
  replace ma := ma.below hv_
  replace mb := mb.below hv_
  replace mc := mc.below hv_
  replace m1 := m1.below hv_
  replace m2 := m2.below hv_
  replace m3 := m3.below hv_
  replace f1 := keep_cell hv_ f1
  replace f2 := keep_cell hv_ f2
  replace f3 := keep_cell hv_ f3
  replace f4 := keep_cell hv_ f4
  replace f5 := keep_cell hv_ f5
  replace f6 := keep_cell hv_ f6
  replace g0 := keep_cell hv_ g0
  replace g1 := keep_cell hv_ g1
  replace h0 := keep_cell hv_ h0
  replace h1 := keep_cell hv_ h1
  replace HB := HB.trans (hv_.mono HB.size)
  clear hv_
  refine (HM1.out _ ma mb).mono ?_
  rintro e w7 ⟨R4, c4, rfl, m4, h7⟩
  have hv_ : Below u6.heap.size u6 w7 := Below.trans (b := _) (by repeat (first | assumption | exact Below.refl _ _ | refine Below.alloc ?_ (by simp; try omega) _ | refine Below.drew ?_ | refine below_drewN ?_ _)) (h7.mono (by simp; try omega))
  replace ma := ma.below hv_
  replace mb := mb.below hv_
  replace mc := mc.below hv_
  replace m1 := m1.below hv_
  replace m2 := m2.below hv_
  replace m3 := m3.below hv_
  replace f1 := keep_cell hv_ f1
  replace f2 := keep_cell hv_ f2
  replace f3 := keep_cell hv_ f3
  replace f4 := keep_cell hv_ f4
  replace f5 := keep_cell hv_ f5
  replace f6 := keep_cell hv_ f6
  replace g0 := keep_cell hv_ g0
  replace g1 := keep_cell hv_ g1
  replace h0 := keep_cell hv_ h0
  replace h1 := keep_cell hv_ h1
  replace i0 := keep_cell hv_ i0
  replace i1 := keep_cell hv_ i1
  have lt_f1 := cell_lt f1
  have lt_f2 := cell_lt f2
  have lt_f3 := cell_lt f3
  have lt_f4 := cell_lt f4
  have lt_f5 := cell_lt f5
  have lt_f6 := cell_lt f6
  have lt_g0 := cell_lt g0
  have lt_g1 := cell_lt g1
  have lt_h0 := cell_lt h0
  have lt_h1 := cell_lt h1
  have lt_i0 := cell_lt i0
  have lt_i1 := cell_lt i1
  replace HB := HB.trans (hv_.mono HB.size)
  clear hv_
  go_wp2_with fail
  have j0 := at_alloc0 (W := w7) (a := .bool b3) (b := .slice R4 n3 c4) (t := 24) rfl
  have j1 := at_alloc1 (W := w7) (a := .bool b3) (b := .slice R4 n3 c4) (t := 24) rfl
  have hv_ : Below w7.heap.size w7 (w7.alloc (.cells #[.bool b3, .slice R4 n3 c4] 24)) := (Below.refl _ _).alloc (Nat.le_refl _) _
  generalize w7.alloc (.cells #[.bool b3, .slice R4 n3 c4] 24) = u7 at *
  replace ma := ma.below hv_
  replace mb := mb.below hv_
  replace mc := mc.below hv_
  replace m1 := m1.below hv_
  replace m2 := m2.below hv_
  replace m3 := m3.below hv_
  replace m4 := m4.below hv_
  replace f1 := keep_cell hv_ f1
  replace f2 := keep_cell hv_ f2
  replace f3 := keep_cell hv_ f3
  replace f4 := keep_cell hv_ f4
  replace f5 := keep_cell hv_ f5
  replace f6 := keep_cell hv_ f6
  replace g0 := keep_cell hv_ g0
  replace g1 := keep_cell hv_ g1
  replace h0 := keep_cell hv_ h0
  replace h1 := keep_cell hv_ h1
  replace i0 := keep_cell hv_ i0
  replace i1 := keep_cell hv_ i1
  replace HB := HB.trans (hv_.mono HB.size)
  clear hv_
  refine (HM2.out _ mb ma).mono ?_
  rintro e w8 ⟨R5, c5, rfl, m5, h8⟩
  have hv_ : Below u7.heap.size u7 w8 := Below.trans (b := _) (by repeat (first | assumption | exact Below.refl _ _ | refine Below.alloc ?_ (by simp; try omega) _ | refine Below.drew ?_ | refine below_drewN ?_ _)) (h8.mono (by simp; try omega))
  replace ma := ma.below hv_
  replace mb := mb.below hv_
  replace mc := mc.below hv_
  replace m1 := m1.below hv_
  replace m2 := m2.below hv_
  replace m3 := m3.below hv_
  replace m4 := m4.below hv_
  replace f1 := keep_cell hv_ f1
  replace f2 := keep_cell hv_ f2
  replace f3 := keep_cell hv_ f3
  replace f4 := keep_cell hv_ f4
  replace f5 := keep_cell hv_ f5
  replace f6 := keep_cell hv_ f6
  replace g0 := keep_cell hv_ g0
  replace g1 := keep_cell hv_ g1
  replace h0 := keep_cell hv_ h0
  replace h1 := keep_cell hv_ h1
  replace i0 := keep_cell hv_ i0
  replace i1 := keep_cell hv_ i1
  replace j0 := keep_cell hv_ j0
  replace j1 := keep_cell hv_ j1
  have lt_f1 := cell_lt f1
  have lt_f2 := cell_lt f2
  have lt_f3 := cell_lt f3
  have lt_f4 := cell_lt f4
  have lt_f5 := cell_lt f5
  have lt_f6 := cell_lt f6
  have lt_g0 := cell_lt g0
  have lt_g1 := cell_lt g1
  have lt_h0 := cell_lt h0
  have lt_h1 := cell_lt h1
  have lt_i0 := cell_lt i0
  have lt_i1 := cell_lt i1
  have lt_j0 := cell_lt j0
  have lt_j1 := cell_lt j1
  replace HB := HB.trans (hv_.mono HB.size)
  clear hv_
  go_wp2_with fail
  have k0 := at_alloc0 (W := w8) (a := .bool b3) (b := .slice R5 n3 c5) (t := 24) rfl
  have k1 := at_alloc1 (W := w8) (a := .bool b3) (b := .slice R5 n3 c5) (t := 24) rfl
  have hv_ : Below w8.heap.size w8 (w8.alloc (.cells #[.bool b3, .slice R5 n3 c5] 24)) := (Below.refl _ _).alloc (Nat.le_refl _) _
  generalize w8.alloc (.cells #[.bool b3, .slice R5 n3 c5] 24) = u8 at *
  replace ma := ma.below hv_
  replace mb := mb.below hv_
  replace mc := mc.below hv_
  replace m1 := m1.below hv_
  replace m2 := m2.below hv_
  replace m3 := m3.below hv_
  replace m4 := m4.below hv_
  replace m5 := m5.below hv_
  replace f1 := keep_cell hv_ f1
  replace f2 := keep_cell hv_ f2
  replace f3 := keep_cell hv_ f3
  replace f4 := keep_cell hv_ f4
  replace f5 := keep_cell hv_ f5
  replace f6 := keep_cell hv_ f6
  replace g0 := keep_cell hv_ g0
  replace g1 := keep_cell hv_ g1
  replace h0 := keep_cell hv_ h0
  replace h1 := keep_cell hv_ h1
  replace i0 := keep_cell hv_ i0
  replace i1 := keep_cell hv_ i1
  replace j0 := keep_cell hv_ j0
  replace j1 := keep_cell hv_ j1
  replace HB := HB.trans (hv_.mono HB.size)
  clear hv_
  refine (HM3.out _ mb mc).mono ?_
  rintro e w9 ⟨R6, c6, rfl, m6, h9⟩
  have hv_ : Below u8.heap.size u8 w9 := Below.trans (b := _) (by repeat (first | assumption | exact Below.refl _ _ | refine Below.alloc ?_ (by simp; try omega) _ | refine Below.drew ?_ | refine below_drewN ?_ _)) (h9.mono (by simp; try omega))
  replace ma := ma.below hv_
  replace mb := mb.below hv_
  replace mc := mc.below hv_
  replace m1 := m1.below hv_
  replace m2 := m2.below hv_
  replace m3 := m3.below hv_
  replace m4 := m4.below hv_
  replace m5 := m5.below hv_
  replace f1 := keep_cell hv_ f1
  replace f2 := keep_cell hv_ f2
  replace f3 := keep_cell hv_ f3
  replace f4 := keep_cell hv_ f4
  replace f5 := keep_cell hv_ f5
  replace f6 := keep_cell hv_ f6
  replace g0 := keep_cell hv_ g0
  replace g1 := keep_cell hv_ g1
  replace h0 := keep_cell hv_ h0
  replace h1 := keep_cell hv_ h1
  replace i0 := keep_cell hv_ i0
  replace i1 := keep_cell hv_ i1
  replace j0 := keep_cell hv_ j0
  replace j1 := keep_cell hv_ j1
  replace k0 := keep_cell hv_ k0
  replace k1 := keep_cell hv_ k1
  have lt_f1 := cell_lt f1
  have lt_f2 := cell_lt f2
  have lt_f3 := cell_lt f3
  have lt_f4 := cell_lt f4
  have lt_f5 := cell_lt f5
  have lt_f6 := cell_lt f6
  have lt_g0 := cell_lt g0
  have lt_g1 := cell_lt g1
  have lt_h0 := cell_lt h0
  have lt_h1 := cell_lt h1
  have lt_i0 := cell_lt i0
  have lt_i1 := cell_lt i1
  have lt_j0 := cell_lt j0
  have lt_j1 := cell_lt j1
  have lt_k0 := cell_lt k0
  have lt_k1 := cell_lt k1
  replace HB := HB.trans (hv_.mono HB.size)
  clear hv_
  go_wp2_with fail
  have l0 := at_alloc0 (W := w9) (a := .bool b4) (b := .slice R6 n4 c6) (t := 24) rfl
  have l1 := at_alloc1 (W := w9) (a := .bool b4) (b := .slice R6 n4 c6) (t := 24) rfl
  have hv_ : Below w9.heap.size w9 (w9.alloc (.cells #[.bool b4, .slice R6 n4 c6] 24)) := (Below.refl _ _).alloc (Nat.le_refl _) _
  generalize w9.alloc (.cells #[.bool b4, .slice R6 n4 c6] 24) = u9 at *
  replace ma := ma.below hv_
  replace mb := mb.below hv_
  replace mc := mc.below hv_
  replace m1 := m1.below hv_
  replace m2 := m2.below hv_
  replace m3 := m3.below hv_
  replace m4 := m4.below hv_
  replace m5 := m5.below hv_
  replace m6 := m6.below hv_
  replace f1 := keep_cell hv_ f1
  replace f2 := keep_cell hv_ f2
  replace f3 := keep_cell hv_ f3
  replace f4 := keep_cell hv_ f4
  replace f5 := keep_cell hv_ f5
  replace f6 := keep_cell hv_ f6
  replace g0 := keep_cell hv_ g0
  replace g1 := keep_cell hv_ g1
  replace h0 := keep_cell hv_ h0
  replace h1 := keep_cell hv_ h1
  replace i0 := keep_cell hv_ i0
  replace i1 := keep_cell hv_ i1
  replace j0 := keep_cell hv_ j0
  replace j1 := keep_cell hv_ j1
  replace k0 := keep_cell hv_ k0
  replace k1 := keep_cell hv_ k1
  replace HB := HB.trans (hv_.mono HB.size)
  clear hv_
  refine (HSa.out _ _ _ _ _ m1 m2).mono ?_
  rintro e w10 ⟨rfl, h10⟩
  have hv_ : Below u9.heap.size u9 w10 := Below.trans (b := _) (by repeat (first | assumption | exact Below.refl _ _ | refine Below.alloc ?_ (by simp; try omega) _ | refine Below.drew ?_ | refine below_drewN ?_ _)) (h10.mono (by simp; try omega))
  replace ma := ma.below hv_
  replace mb := mb.below hv_
  replace mc := mc.below hv_
  replace m1 := m1.below hv_
  replace m3 := m3.below hv_
  replace m4 := m4.below hv_
  replace m5 := m5.below hv_
  replace m6 := m6.below hv_
  replace f1 := keep_cell hv_ f1
  replace f2 := keep_cell hv_ f2
  replace f3 := keep_cell hv_ f3
  replace f4 := keep_cell hv_ f4
  replace f5 := keep_cell hv_ f5
  replace f6 := keep_cell hv_ f6
  replace g0 := keep_cell hv_ g0
  replace g1 := keep_cell hv_ g1
  replace i0 := keep_cell hv_ i0
  replace i1 := keep_cell hv_ i1
  replace j0 := keep_cell hv_ j0
  replace j1 := keep_cell hv_ j1
  replace k0 := keep_cell hv_ k0
  replace k1 := keep_cell hv_ k1
  replace l0 := keep_cell hv_ l0
  replace l1 := keep_cell hv_ l1
  have lt_f1 := cell_lt f1
  have lt_f2 := cell_lt f2
  have lt_f3 := cell_lt f3
  have lt_f4 := cell_lt f4
  have lt_f5 := cell_lt f5
  have lt_f6 := cell_lt f6
  have lt_g0 := cell_lt g0
  have lt_g1 := cell_lt g1
  have lt_i0 := cell_lt i0
  have lt_i1 := cell_lt i1
  have lt_j0 := cell_lt j0
  have lt_j1 := cell_lt j1
  have lt_k0 := cell_lt k0
  have lt_k1 := cell_lt k1
  have lt_l0 := cell_lt l0
  have lt_l1 := cell_lt l1
  replace HB := HB.trans (hv_.mono HB.size)
  clear hv_
  go_wp2_with fail
  refine (HSb.out _ _ _ _ _ m4 m5).mono ?_
  rintro e w11 ⟨rfl, h11⟩
  have hv_ : Below w10.heap.size w10 w11 := Below.trans (b := _) (by repeat (first | assumption | exact Below.refl _ _ | refine Below.alloc ?_ (by simp; try omega) _ | refine Below.drew ?_ | refine below_drewN ?_ _)) (h11.mono (by simp; try omega))
  replace ma := ma.below hv_
  replace mb := mb.below hv_
  replace mc := mc.below hv_
  replace m1 := m1.below hv_
  replace m3 := m3.below hv_
  replace m4 := m4.below hv_
  replace m6 := m6.below hv_
  replace f1 := keep_cell hv_ f1
  replace f2 := keep_cell hv_ f2
  replace f3 := keep_cell hv_ f3
  replace f4 := keep_cell hv_ f4
  replace f5 := keep_cell hv_ f5
  replace f6 := keep_cell hv_ f6
  replace g0 := keep_cell hv_ g0
  replace g1 := keep_cell hv_ g1
  replace i0 := keep_cell hv_ i0
  replace i1 := keep_cell hv_ i1
  replace j0 := keep_cell hv_ j0
  replace j1 := keep_cell hv_ j1
  replace l0 := keep_cell hv_ l0
  replace l1 := keep_cell hv_ l1
  have lt_f1 := cell_lt f1
  have lt_f2 := cell_lt f2
  have lt_f3 := cell_lt f3
  have lt_f4 := cell_lt f4
  have lt_f5 := cell_lt f5
  have lt_f6 := cell_lt f6
  have lt_g0 := cell_lt g0
  have lt_g1 := cell_lt g1
  have lt_i0 := cell_lt i0
  have lt_i1 := cell_lt i1
  have lt_j0 := cell_lt j0
  have lt_j1 := cell_lt j1
  have lt_l0 := cell_lt l0
  have lt_l1 := cell_lt l1
  replace HB := HB.trans (hv_.mono HB.size)
  clear hv_
  go_upto_region 11 with fail
  go_cut [118] (fun s wx => s = .bool B118 ∧ Below w11.heap.size w11 wx)
  case first =>
    as_aux_lemma =>
      by_cases p1 : e1 = 0
      · by_cases p2 : e2 = 0
        · have hb := HT118.out
          rw [p1, p2] at hb
          subst p1
          subst p2
          go_wp2_with fail
          go_meet
          exact ⟨by rw [hb]; rfl, Below.refl _ _⟩
        · have hb := HT118.out
          have g2 : (e2 == 0) = false := by rw [beq_eq_false_iff_ne]; exact p2
          rw [p1, g2] at hb
          subst p1
          go_wp2_with fail
          go_meet
          exact ⟨by rw [hb]; rfl, Below.refl _ _⟩
      · have hb := HT118.out
        have g1 : (e1 == 0) = false := by rw [beq_eq_false_iff_ne]; exact p1
        rw [g1] at hb
        go_wp2_with fail
        go_meet
        exact ⟨by rw [hb]; rfl, Below.refl _ _⟩
  obtain ⟨rfl, hx⟩ := hcut
  obtain ⟨ma, mb, mc, m1, m3, m4, m6, f1, f2, f3, f4, f5, f6, g0, g1, i0, i1, j0, j1, l0, l1, HB⟩ := And.intro (ma.below hx) (And.intro (mb.below hx) (And.intro (mc.below hx) (And.intro (m1.below hx) (And.intro (m3.below hx) (And.intro (m4.below hx) (And.intro (m6.below hx) (And.intro (keep_cell hx f1) (And.intro (keep_cell hx f2) (And.intro (keep_cell hx f3) (And.intro (keep_cell hx f4) (And.intro (keep_cell hx f5) (And.intro (keep_cell hx f6) (And.intro (keep_cell hx g0) (And.intro (keep_cell hx g1) (And.intro (keep_cell hx i0) (And.intro (keep_cell hx i1) (And.intro (keep_cell hx j0) (And.intro (keep_cell hx j1) (And.intro (keep_cell hx l0) (And.intro (keep_cell hx l1) (HB.trans (hx.mono HB.size))))))))))))))))))))))
  go_upto_if 118 with fail
  go_cut [] (fun wx => Below wc.heap.size wc wx)
  case first =>
    as_aux_lemma =>
      cases hb : B118
      · go_wp2_with fail
        go_meet
        exact Below.refl _ _
      · have hh := HT118.out
        rw [hb] at hh
        simp only [Bool.true_eq, Bool.and_eq_true, beq_iff_eq] at hh
        obtain ⟨q1, q2⟩ := hh
        obtain ⟨hv1, fv1⟩ := fitE_zero HP1.out.1 q1
        obtain ⟨hv2, fv2⟩ := fitE_zero HP1.out.2 q2
        obtain ⟨v7, e7, hv7⟩ : ∃ v e, fitE (x + y + z) = (v, e) := ⟨_, _, rfl⟩
        obtain ⟨b7, n7, L7, I7⟩ := iz v7
        have HX1 := hid fun (w1 : World) (m : Mg w1 R1 c1 L1) (m' : Mg w1 C cc Z) => Add_g (w := w1) I1.out Iz_ I7.out hv7 m m' (by rw [hv1]; exact fv1) fz (by rw [hv1])
        have HX2 := hid fun (w1 : World) (m : Mg w1 A ca X) (m' : Mg w1 R3 c3 L2) => Add_g (w := w1) Ix I2.out I7.out hv7 m m' fx (by rw [hv2]; exact fv2) (by rw [hv2, Int.add_assoc])
        have HEq := hid fun (w1 : World) (R Q : Option Addr) (c d : Nat) (m : Mg w1 R c L7) (m' : Mg w1 Q d L7) => equal_g (w := w1) I7.out I7.out hv7 hv7 rfl m m'
        subst q1
        subst q2
        clear hv1 hv2 fv1 fv2 hv7 hb
        have HB : Below wc.heap.size wc wc := Below.refl _ _
        go_wp2_with fail
        refine (HX1.out _ m1 mc).mono ?_
        rintro e y1 ⟨R7, c7, rfl, m7, h12⟩
        have hv_ : Below wc.heap.size wc y1 := Below.trans (b := _) (by repeat (first | assumption | exact Below.refl _ _ | refine Below.alloc ?_ (by simp; try omega) _ | refine Below.drew ?_ | refine below_drewN ?_ _)) (h12.mono (by simp; try omega))
        replace ma := ma.below hv_
        replace m3 := m3.below hv_
        replace f1 := keep_cell hv_ f1
        replace f2 := keep_cell hv_ f2
        replace i0 := keep_cell hv_ i0
        replace i1 := keep_cell hv_ i1
        have lt_f1 := cell_lt f1
        have lt_f2 := cell_lt f2
        have lt_i0 := cell_lt i0
        have lt_i1 := cell_lt i1
        replace HB := HB.trans (hv_.mono HB.size)
        clear hv_
        go_wp2_with fail
        have q0 := at_alloc0 (W := y1) (a := .bool b7) (b := .slice R7 n7 c7) (t := 24) rfl
        have q1 := at_alloc1 (W := y1) (a := .bool b7) (b := .slice R7 n7 c7) (t := 24) rfl
        have hv_ : Below y1.heap.size y1 (y1.alloc (.cells #[.bool b7, .slice R7 n7 c7] 24)) := (Below.refl _ _).alloc (Nat.le_refl _) _
        generalize y1.alloc (.cells #[.bool b7, .slice R7 n7 c7] 24) = y2 at *
        replace ma := ma.below hv_
        replace m3 := m3.below hv_
        replace m7 := m7.below hv_
        replace f1 := keep_cell hv_ f1
        replace f2 := keep_cell hv_ f2
        replace i0 := keep_cell hv_ i0
        replace i1 := keep_cell hv_ i1
        replace HB := HB.trans (hv_.mono HB.size)
        clear hv_
        refine (HX2.out _ ma m3).mono ?_
        rintro e y3 ⟨R8, c8, rfl, m8, h13⟩
        have hv_ : Below y2.heap.size y2 y3 := Below.trans (b := _) (by repeat (first | assumption | exact Below.refl _ _ | refine Below.alloc ?_ (by simp; try omega) _ | refine Below.drew ?_ | refine below_drewN ?_ _)) (h13.mono (by simp; try omega))
        replace m7 := m7.below hv_
        replace q0 := keep_cell hv_ q0
        replace q1 := keep_cell hv_ q1
        have lt_q0 := cell_lt q0
        have lt_q1 := cell_lt q1
        replace HB := HB.trans (hv_.mono HB.size)
        clear hv_
        go_wp2_with fail
        have r0 := at_alloc0 (W := y3) (a := .bool b7) (b := .slice R8 n7 c8) (t := 24) rfl
        have r1 := at_alloc1 (W := y3) (a := .bool b7) (b := .slice R8 n7 c8) (t := 24) rfl
        have hv_ : Below y3.heap.size y3 (y3.alloc (.cells #[.bool b7, .slice R8 n7 c8] 24)) := (Below.refl _ _).alloc (Nat.le_refl _) _
        generalize y3.alloc (.cells #[.bool b7, .slice R8 n7 c8] 24) = y4 at *
        replace m7 := m7.below hv_
        replace m8 := m8.below hv_
        replace q0 := keep_cell hv_ q0
        replace q1 := keep_cell hv_ q1
        replace HB := HB.trans (hv_.mono HB.size)
        clear hv_
        refine (HEq.out _ _ _ _ _ m7 m8).mono ?_
        rintro e y5 ⟨rfl, h14⟩
        go_wp2_with fail
        go_meet
        exact bel_step HB h14
  case rest =>
    as_aux_lemma =>
      have hx := hcut
      obtain ⟨ma, mb, mc, m3, m4, m6, f1, f2, f3, f4, f5, f6, i0, i1, j0, j1, l0, l1, HB⟩ := And.intro (ma.below hx) (And.intro (mb.below hx) (And.intro (mc.below hx) (And.intro (m3.below hx) (And.intro (m4.below hx) (And.intro (m6.below hx) (And.intro (keep_cell hx f1) (And.intro (keep_cell hx f2) (And.intro (keep_cell hx f3) (And.intro (keep_cell hx f4) (And.intro (keep_cell hx f5) (And.intro (keep_cell hx f6) (And.intro (keep_cell hx i0) (And.intro (keep_cell hx i1) (And.intro (keep_cell hx j0) (And.intro (keep_cell hx j1) (And.intro (keep_cell hx l0) (And.intro (keep_cell hx l1) (HB.trans (hx.mono HB.size)))))))))))))))))))
      clear m1 g0 g1
      go_upto_region 16 with fail
      go_cut [142] (fun s wx => s = .bool B142 ∧ Below wc.heap.size wc wx)
      case first =>
        as_aux_lemma =>
          by_cases p1 : e3 = 0
          · by_cases p2 : e4 = 0
            · have hb := HT142.out
              rw [p1, p2] at hb
              subst p1
              subst p2
              go_wp2_with fail
              go_meet
              exact ⟨by rw [hb]; rfl, Below.refl _ _⟩
            · have hb := HT142.out
              have g2 : (e4 == 0) = false := by rw [beq_eq_false_iff_ne]; exact p2
              rw [p1, g2] at hb
              subst p1
              go_wp2_with fail
              go_meet
              exact ⟨by rw [hb]; rfl, Below.refl _ _⟩
          · have hb := HT142.out
            have g1 : (e3 == 0) = false := by rw [beq_eq_false_iff_ne]; exact p1
            rw [g1] at hb
            go_wp2_with fail
            go_meet
            exact ⟨by rw [hb]; rfl, Below.refl _ _⟩
      obtain ⟨rfl, hx⟩ := hcut
      obtain ⟨ma, mb, mc, m3, m4, m6, f1, f2, f3, f4, f5, f6, i0, i1, j0, j1, l0, l1, HB⟩ := And.intro (ma.below hx) (And.intro (mb.below hx) (And.intro (mc.below hx) (And.intro (m3.below hx) (And.intro (m4.below hx) (And.intro (m6.below hx) (And.intro (keep_cell hx f1) (And.intro (keep_cell hx f2) (And.intro (keep_cell hx f3) (And.intro (keep_cell hx f4) (And.intro (keep_cell hx f5) (And.intro (keep_cell hx f6) (And.intro (keep_cell hx i0) (And.intro (keep_cell hx i1) (And.intro (keep_cell hx j0) (And.intro (keep_cell hx j1) (And.intro (keep_cell hx l0) (And.intro (keep_cell hx l1) (HB.trans (hx.mono HB.size)))))))))))))))))))
      go_upto_if 142 with fail
      go_cut [] (fun wx => Below wc.heap.size wc wx)
      case first =>
        as_aux_lemma =>
          cases hb : B142
          · go_wp2_with fail
            go_meet
            exact Below.refl _ _
          · have hh := HT142.out
            rw [hb] at hh
            simp only [Bool.true_eq, Bool.and_eq_true, beq_iff_eq] at hh
            obtain ⟨q1, q2⟩ := hh
            obtain ⟨hv1, fv1⟩ := fitE_zero HP2.out.1 q1
            obtain ⟨hv2, fv2⟩ := fitE_zero HP2.out.2.1 q2
            obtain ⟨v7, e7, hv7⟩ : ∃ v e, fitE (x * y * z) = (v, e) := ⟨_, _, rfl⟩
            obtain ⟨b7, n7, L7, I7⟩ := iz v7
            have HX1 := hid fun (w1 : World) (m : Mg w1 R4 c4 L3) (m' : Mg w1 C cc Z) => Mul_g (w := w1) I3.out Iz_ I7.out hv7 m m' (by rw [hv1]; exact fv1) fz (by rw [hv1])
            have HX2 := hid fun (w1 : World) (m : Mg w1 A ca X) (m' : Mg w1 R6 c6 L4) => Mul_g (w := w1) Ix I4.out I7.out hv7 m m' fx (by rw [hv2]; exact fv2) (by rw [hv2, Int.mul_assoc])
            have HEq := hid fun (w1 : World) (R Q : Option Addr) (c d : Nat) (m : Mg w1 R c L7) (m' : Mg w1 Q d L7) => equal_g (w := w1) I7.out I7.out hv7 hv7 rfl m m'
            subst q1
            subst q2
            clear hv1 hv2 fv1 fv2 hv7 hb
            have HB : Below wc.heap.size wc wc := Below.refl _ _
            go_wp2_with fail
            refine (HX1.out _ m4 mc).mono ?_
            rintro e y1 ⟨R7, c7, rfl, m7, h12⟩
            have hv_ : Below wc.heap.size wc y1 := Below.trans (b := _) (by repeat (first | assumption | exact Below.refl _ _ | refine Below.alloc ?_ (by simp; try omega) _ | refine Below.drew ?_ | refine below_drewN ?_ _)) (h12.mono (by simp; try omega))
            replace ma := ma.below hv_
            replace m6 := m6.below hv_
            replace f1 := keep_cell hv_ f1
            replace f2 := keep_cell hv_ f2
            replace l0 := keep_cell hv_ l0
            replace l1 := keep_cell hv_ l1
            have lt_f1 := cell_lt f1
            have lt_f2 := cell_lt f2
            have lt_l0 := cell_lt l0
            have lt_l1 := cell_lt l1
            replace HB := HB.trans (hv_.mono HB.size)
            clear hv_
            go_wp2_with fail
            have q0 := at_alloc0 (W := y1) (a := .bool b7) (b := .slice R7 n7 c7) (t := 24) rfl
            have q1 := at_alloc1 (W := y1) (a := .bool b7) (b := .slice R7 n7 c7) (t := 24) rfl
            have hv_ : Below y1.heap.size y1 (y1.alloc (.cells #[.bool b7, .slice R7 n7 c7] 24)) := (Below.refl _ _).alloc (Nat.le_refl _) _
            generalize y1.alloc (.cells #[.bool b7, .slice R7 n7 c7] 24) = y2 at *
            replace ma := ma.below hv_
            replace m6 := m6.below hv_
            replace m7 := m7.below hv_
            replace f1 := keep_cell hv_ f1
            replace f2 := keep_cell hv_ f2
            replace l0 := keep_cell hv_ l0
            replace l1 := keep_cell hv_ l1
            replace HB := HB.trans (hv_.mono HB.size)
            clear hv_
            refine (HX2.out _ ma m6).mono ?_
            rintro e y3 ⟨R8, c8, rfl, m8, h13⟩
            have hv_ : Below y2.heap.size y2 y3 := Below.trans (b := _) (by repeat (first | assumption | exact Below.refl _ _ | refine Below.alloc ?_ (by simp; try omega) _ | refine Below.drew ?_ | refine below_drewN ?_ _)) (h13.mono (by simp; try omega))
            replace m7 := m7.below hv_
            replace q0 := keep_cell hv_ q0
            replace q1 := keep_cell hv_ q1
            have lt_q0 := cell_lt q0
            have lt_q1 := cell_lt q1
            replace HB := HB.trans (hv_.mono HB.size)
            clear hv_
            go_wp2_with fail
            have r0 := at_alloc0 (W := y3) (a := .bool b7) (b := .slice R8 n7 c8) (t := 24) rfl
            have r1 := at_alloc1 (W := y3) (a := .bool b7) (b := .slice R8 n7 c8) (t := 24) rfl
            have hv_ : Below y3.heap.size y3 (y3.alloc (.cells #[.bool b7, .slice R8 n7 c8] 24)) := (Below.refl _ _).alloc (Nat.le_refl _) _
            generalize y3.alloc (.cells #[.bool b7, .slice R8 n7 c8] 24) = y4 at *
            replace m7 := m7.below hv_
            replace m8 := m8.below hv_
            replace q0 := keep_cell hv_ q0
            replace q1 := keep_cell hv_ q1
            replace HB := HB.trans (hv_.mono HB.size)
            clear hv_
            refine (HEq.out _ _ _ _ _ m7 m8).mono ?_
            rintro e y5 ⟨rfl, h14⟩
            go_wp2_with fail
            go_meet
            exact bel_step HB h14
      case rest =>
        as_aux_lemma =>
          have hx := hcut
          obtain ⟨ma, mb, mc, m3, m4, f1, f2, f3, f4, f5, f6, i0, i1, j0, j1, HB⟩ := And.intro (ma.below hx) (And.intro (mb.below hx) (And.intro (mc.below hx) (And.intro (m3.below hx) (And.intro (m4.below hx) (And.intro (keep_cell hx f1) (And.intro (keep_cell hx f2) (And.intro (keep_cell hx f3) (And.intro (keep_cell hx f4) (And.intro (keep_cell hx f5) (And.intro (keep_cell hx f6) (And.intro (keep_cell hx i0) (And.intro (keep_cell hx i1) (And.intro (keep_cell hx j0) (And.intro (keep_cell hx j1) (HB.trans (hx.mono HB.size))))))))))))))))
          clear m6 l0 l1
          go_wp2_with fail
          refine (HM4.out _ ma mc).mono ?_
          rintro e w12 ⟨Rc, cx, rfl, mx, h12⟩
          have hv_ : Below wc.heap.size wc w12 := Below.trans (b := _) (by repeat (first | assumption | exact Below.refl _ _ | refine Below.alloc ?_ (by simp; try omega) _ | refine Below.drew ?_ | refine below_drewN ?_ _)) (h12.mono (by simp; try omega))
          replace ma := ma.below hv_
          replace mb := mb.below hv_
          replace mc := mc.below hv_
          replace m3 := m3.below hv_
          replace m4 := m4.below hv_
          replace f1 := keep_cell hv_ f1
          replace f2 := keep_cell hv_ f2
          replace f3 := keep_cell hv_ f3
          replace f4 := keep_cell hv_ f4
          replace f5 := keep_cell hv_ f5
          replace f6 := keep_cell hv_ f6
          replace i0 := keep_cell hv_ i0
          replace i1 := keep_cell hv_ i1
          replace j0 := keep_cell hv_ j0
          replace j1 := keep_cell hv_ j1
          have lt_f1 := cell_lt f1
          have lt_f2 := cell_lt f2
          have lt_f3 := cell_lt f3
          have lt_f4 := cell_lt f4
          have lt_f5 := cell_lt f5
          have lt_f6 := cell_lt f6
          have lt_i0 := cell_lt i0
          have lt_i1 := cell_lt i1
          have lt_j0 := cell_lt j0
          have lt_j1 := cell_lt j1
          replace HB := HB.trans (hv_.mono HB.size)
          clear hv_
          go_upto_region 22 with fail
          have l0 := at_alloc0 (W := w12) (a := .bool b5) (b := .slice Rc n5 cx) (t := 24) rfl
          have l1 := at_alloc1 (W := w12) (a := .bool b5) (b := .slice Rc n5 cx) (t := 24) rfl
          have hv_ : Below w12.heap.size w12 (w12.alloc (.cells #[.bool b5, .slice Rc n5 cx] 24)) := (Below.refl _ _).alloc (Nat.le_refl _) _
          generalize w12.alloc (.cells #[.bool b5, .slice Rc n5 cx] 24) = u12 at *
          replace ma := ma.below hv_
          replace mb := mb.below hv_
          replace m3 := m3.below hv_
          replace m4 := m4.below hv_
          replace mx := mx.below hv_
          replace f1 := keep_cell hv_ f1
          replace f2 := keep_cell hv_ f2
          replace f3 := keep_cell hv_ f3
          replace f4 := keep_cell hv_ f4
          replace i0 := keep_cell hv_ i0
          replace i1 := keep_cell hv_ i1
          replace j0 := keep_cell hv_ j0
          replace j1 := keep_cell hv_ j1
          replace HB := HB.trans (hv_.mono HB.size)
          clear hv_
          go_upto_region 22 with fail
          go_cut [176] (fun s wx => s = .bool B176 ∧ Below u12.heap.size u12 wx)
          case first =>
            as_aux_lemma =>
              by_cases p1 : e3 = 0
              · by_cases p2 : e2 = 0
                · by_cases p3 : e5 = 0
                  · have hb := HT176.out
                    rw [p1, p2, p3] at hb
                    subst p1
                    subst p2
                    subst p3
                    go_wp2_with fail
                    go_meet
                    exact ⟨by rw [hb]; rfl, Below.refl _ _⟩
                  · have hb := HT176.out
                    have g2 : (e5 == 0) = false := by rw [beq_eq_false_iff_ne]; exact p3
                    rw [p1, p2, g2] at hb
                    subst p1
                    subst p2
                    go_wp2_with fail
                    go_meet
                    exact ⟨by rw [hb]; rfl, Below.refl _ _⟩
                · have hb := HT176.out
                  have g2 : (e2 == 0) = false := by rw [beq_eq_false_iff_ne]; exact p2
                  rw [p1, g2] at hb
                  subst p1
                  go_wp2_with fail
                  go_meet
                  exact ⟨by rw [hb]; rfl, Below.refl _ _⟩
              · have hb := HT176.out
                have g1 : (e3 == 0) = false := by rw [beq_eq_false_iff_ne]; exact p1
                rw [g1] at hb
                go_wp2_with fail
                go_meet
                exact ⟨by rw [hb]; rfl, Below.refl _ _⟩
          obtain ⟨rfl, hx⟩ := hcut
          obtain ⟨ma, mb, m3, m4, mx, f1, f2, f3, f4, i0, i1, j0, j1, l0, l1, HB⟩ := And.intro (ma.below hx) (And.intro (mb.below hx) (And.intro (m3.below hx) (And.intro (m4.below hx) (And.intro (mx.below hx) (And.intro (keep_cell hx f1) (And.intro (keep_cell hx f2) (And.intro (keep_cell hx f3) (And.intro (keep_cell hx f4) (And.intro (keep_cell hx i0) (And.intro (keep_cell hx i1) (And.intro (keep_cell hx j0) (And.intro (keep_cell hx j1) (And.intro (keep_cell hx l0) (And.intro (keep_cell hx l1) (HB.trans (hx.mono HB.size))))))))))))))))
          go_upto_if 176 with fail
          go_cut [] (fun wx => Below wc.heap.size wc wx)
          case first =>
            as_aux_lemma =>
              cases hb : B176
              · go_wp2_with fail
                go_meet
                exact Below.refl _ _
              · have hh := HT176.out
                rw [hb] at hh
                simp only [Bool.true_eq, Bool.and_eq_true, beq_iff_eq] at hh
                obtain ⟨⟨q1, q2⟩, q3⟩ := hh
                obtain ⟨hv1, fv1⟩ := fitE_zero HP2.out.1 q1
                obtain ⟨hv2, fv2⟩ := fitE_zero HP1.out.2 q2
                obtain ⟨hv3, fv3⟩ := fitE_zero HP2.out.2.2 q3
                obtain ⟨v7, e7, hv7⟩ : ∃ v e, fitE (x * (y + z)) = (v, e) := ⟨_, _, rfl⟩
                obtain ⟨b7, n7, L7, I7⟩ := iz v7
                have HX1 := hid fun (w1 : World) (m : Mg w1 A ca X) (m' : Mg w1 R3 c3 L2) => Mul_g (w := w1) Ix I2.out I7.out hv7 m m' fx (by rw [hv2]; exact fv2) (by rw [hv2])
                have HX2 := hid fun (w1 : World) (m : Mg w1 R4 c4 L3) (m' : Mg w1 Rc cx L5) => Add_g (w := w1) I3.out I5.out I7.out hv7 m m' (by rw [hv1]; exact fv1) (by rw [hv3]; exact fv3) (by rw [hv1, hv3, Int.mul_add])
                have HEq := hid fun (w1 : World) (R Q : Option Addr) (c d : Nat) (m : Mg w1 R c L7) (m' : Mg w1 Q d L7) => equal_g (w := w1) I7.out I7.out hv7 hv7 rfl m m'
                subst q1
                subst q2
                subst q3
                clear hv1 hv2 hv3 fv1 fv2 fv3 hv7 hb
                have HB : Below wc.heap.size wc wc := Below.refl _ _
                go_wp2_with fail
                refine (HX1.out _ ma m3).mono ?_
                rintro e y1 ⟨R7, c7, rfl, m7, h12⟩
                have hv_ : Below wc.heap.size wc y1 := Below.trans (b := _) (by repeat (first | assumption | exact Below.refl _ _ | refine Below.alloc ?_ (by simp; try omega) _ | refine Below.drew ?_ | refine below_drewN ?_ _)) (h12.mono (by simp; try omega))
                replace m4 := m4.below hv_
                replace mx := mx.below hv_
                replace j0 := keep_cell hv_ j0
                replace j1 := keep_cell hv_ j1
                replace l0 := keep_cell hv_ l0
                replace l1 := keep_cell hv_ l1
                have lt_j0 := cell_lt j0
                have lt_j1 := cell_lt j1
                have lt_l0 := cell_lt l0
                have lt_l1 := cell_lt l1
                replace HB := HB.trans (hv_.mono HB.size)
                clear hv_
                go_wp2_with fail
                have q0 := at_alloc0 (W := y1) (a := .bool b7) (b := .slice R7 n7 c7) (t := 24) rfl
                have q1 := at_alloc1 (W := y1) (a := .bool b7) (b := .slice R7 n7 c7) (t := 24) rfl
                have hv_ : Below y1.heap.size y1 (y1.alloc (.cells #[.bool b7, .slice R7 n7 c7] 24)) := (Below.refl _ _).alloc (Nat.le_refl _) _
                generalize y1.alloc (.cells #[.bool b7, .slice R7 n7 c7] 24) = y2 at *
                replace m4 := m4.below hv_
                replace mx := mx.below hv_
                replace m7 := m7.below hv_
                replace j0 := keep_cell hv_ j0
                replace j1 := keep_cell hv_ j1
                replace l0 := keep_cell hv_ l0
                replace l1 := keep_cell hv_ l1
                replace HB := HB.trans (hv_.mono HB.size)
                clear hv_
                refine (HX2.out _ m4 mx).mono ?_
                rintro e y3 ⟨R8, c8, rfl, m8, h13⟩
                have hv_ : Below y2.heap.size y2 y3 := Below.trans (b := _) (by repeat (first | assumption | exact Below.refl _ _ | refine Below.alloc ?_ (by simp; try omega) _ | refine Below.drew ?_ | refine below_drewN ?_ _)) (h13.mono (by simp; try omega))
                replace m7 := m7.below hv_
                replace q0 := keep_cell hv_ q0
                replace q1 := keep_cell hv_ q1
                have lt_q0 := cell_lt q0
                have lt_q1 := cell_lt q1
                replace HB := HB.trans (hv_.mono HB.size)
                clear hv_
                go_wp2_with fail
                have r0 := at_alloc0 (W := y3) (a := .bool b7) (b := .slice R8 n7 c8) (t := 24) rfl
                have r1 := at_alloc1 (W := y3) (a := .bool b7) (b := .slice R8 n7 c8) (t := 24) rfl
                have hv_ : Below y3.heap.size y3 (y3.alloc (.cells #[.bool b7, .slice R8 n7 c8] 24)) := (Below.refl _ _).alloc (Nat.le_refl _) _
                generalize y3.alloc (.cells #[.bool b7, .slice R8 n7 c8] 24) = y4 at *
                replace m7 := m7.below hv_
                replace m8 := m8.below hv_
                replace q0 := keep_cell hv_ q0
                replace q1 := keep_cell hv_ q1
                replace HB := HB.trans (hv_.mono HB.size)
                clear hv_
                refine (HEq.out _ _ _ _ _ m7 m8).mono ?_
                rintro e y5 ⟨rfl, h14⟩
                go_wp2_with fail
                go_meet
                exact bel_step HB h14
          case rest =>
            as_aux_lemma =>
              have hx := hcut
              obtain ⟨ma, mb, f1, f2, f3, f4, HB⟩ := And.intro (ma.below hx) (And.intro (mb.below hx) (And.intro (keep_cell hx f1) (And.intro (keep_cell hx f2) (And.intro (keep_cell hx f3) (And.intro (keep_cell hx f4) (HB.trans (hx.mono HB.size)))))))
              clear m3 m4 mx i0 i1 j0 j1 l0 l1
              go_wp2_with fail
              refine (HSu.out _ ma mb).mono ?_
              rintro e w13 ⟨Rd, cd, rfl, md, h13⟩
              have hv_ : Below wc.heap.size wc w13 := Below.trans (b := _) (by repeat (first | assumption | exact Below.refl _ _ | refine Below.alloc ?_ (by simp; try omega) _ | refine Below.drew ?_ | refine below_drewN ?_ _)) (h13.mono (by simp; try omega))
              replace ma := ma.below hv_
              replace mb := mb.below hv_
              replace f1 := keep_cell hv_ f1
              replace f2 := keep_cell hv_ f2
              replace f3 := keep_cell hv_ f3
              replace f4 := keep_cell hv_ f4
              have lt_f1 := cell_lt f1
              have lt_f2 := cell_lt f2
              have lt_f3 := cell_lt f3
              have lt_f4 := cell_lt f4
              replace HB := HB.trans (hv_.mono HB.size)
              clear hv_
              go_wp2_with fail
              have g0 := at_alloc0 (W := w13) (a := .bool b6) (b := .slice Rd n6 cd) (t := 24) rfl
              have g1 := at_alloc1 (W := w13) (a := .bool b6) (b := .slice Rd n6 cd) (t := 24) rfl
              have hv_ : Below w13.heap.size w13 (w13.alloc (.cells #[.bool b6, .slice Rd n6 cd] 24)) := (Below.refl _ _).alloc (Nat.le_refl _) _
              generalize w13.alloc (.cells #[.bool b6, .slice Rd n6 cd] 24) = u13 at *
              replace ma := ma.below hv_
              replace mb := mb.below hv_
              replace md := md.below hv_
              replace f1 := keep_cell hv_ f1
              replace f2 := keep_cell hv_ f2
              replace f3 := keep_cell hv_ f3
              replace f4 := keep_cell hv_ f4
              replace HB := HB.trans (hv_.mono HB.size)
              clear hv_
              have lt_f1 := cell_lt f1
              have lt_f2 := cell_lt f2
              have lt_f3 := cell_lt f3
              have lt_f4 := cell_lt f4
              go_cut [35, 36] (fun s1 s2 wx => s2 = .int .i64 (e6) ∧ ∃ (g : Nat) (R : Option Addr) (c : Nat), s1 = .pointer (some ⟨g, 0, none⟩) ∧ Below u13.heap.size u13 wx ∧ Mg wx R c L6 ∧ wx.cell? ⟨g, 0, none⟩ = some (.bool b6) ∧ wx.cell? ⟨g, 1, none⟩ = some (.slice R n6 c))
              case first =>
                as_aux_lemma =>
                  go_region_held3 (fun w' => (w'.cell? ⟨w.heap.size, 0, none⟩ = some (.bool bx) ∧ w'.cell? ⟨w.heap.size, 1, none⟩ = some (.slice A nx ca)) ∧ (w'.cell? ⟨w.heap.size + 1, 0, none⟩ = some (.bool by_) ∧ w'.cell? ⟨w.heap.size + 1, 1, none⟩ = some (.slice B ny cb))) (first | ((try dsimp only); repeat' (first | with_reducible assumption | apply And.intro | (with_reducible refine keep_alloc ?_) | (with_reducible refine keep_drew ?_) | (with_reducible refine keep_set (by first | omega | (simp only [World.size_alloc, World.size_setCell, World.size_drew]; done) | (simp only [World.size_alloc, World.size_setCell, World.size_drew]; omega)) ?_) | (with_reducible refine keep_cell (W := u13) ?_ ?_) | fail))) (first | (go_at_call 43; (with_reducible refine (HNb.out _ (mb.below (by repeat' (first | with_reducible assumption | exact Below.refl _ _ | (refine Below.alloc ?_ (by first | omega | (simp only [World.size_alloc, World.size_setCell, World.size_drew]; done) | (simp only [World.size_alloc, World.size_setCell, World.size_drew]; omega)) _) | (refine Below.drew ?_) | (refine below_drewN ?_ _) | (refine Below.setCell ?_ (by first | omega | (simp only [World.size_alloc, World.size_setCell, World.size_drew]; done) | (simp only [World.size_alloc, World.size_setCell, World.size_drew]; omega)) _))))).mono ?_); rintro e y1 ⟨Rn, cn, rfl, mn, hq_⟩; have qy1 : Below u13.heap.size u13 y1 := bel_step (by repeat' (first | with_reducible assumption | exact Below.refl _ _ | (refine Below.alloc ?_ (by first | omega | (simp only [World.size_alloc, World.size_setCell, World.size_drew]; done) | (simp only [World.size_alloc, World.size_setCell, World.size_drew]; omega)) _) | (refine Below.drew ?_) | (refine below_drewN ?_ _) | (refine Below.setCell ?_ (by first | omega | (simp only [World.size_alloc, World.size_setCell, World.size_drew]; done) | (simp only [World.size_alloc, World.size_setCell, World.size_drew]; omega)) _))) hq_; obtain ⟨hc10, hf10⟩ := bcell hq_; have hz10 := hq_.size; (try simp only [World.size_alloc, World.size_drew] at hz10); have hs10 := qy1.size; (try have hx1 : u13.heap.size < y1.heap.size := by omega)) | (go_at_call 40; (with_reducible refine (HS2.out _ _ _ (ma.below (by repeat' (first | with_reducible assumption | exact Below.refl _ _ | (refine Below.alloc ?_ (by first | omega | (simp only [World.size_alloc, World.size_setCell, World.size_drew]; done) | (simp only [World.size_alloc, World.size_setCell, World.size_drew]; omega)) _) | (refine Below.drew ?_) | (refine below_drewN ?_ _) | (refine Below.setCell ?_ (by first | omega | (simp only [World.size_alloc, World.size_setCell, World.size_drew]; done) | (simp only [World.size_alloc, World.size_setCell, World.size_drew]; omega)) _)))) (mn.below (by repeat' (first | with_reducible assumption | exact Below.refl _ _ | (refine Below.alloc ?_ (by first | omega | (simp only [World.size_alloc, World.size_setCell, World.size_drew]; done) | (simp only [World.size_alloc, World.size_setCell, World.size_drew]; omega)) _) | (refine Below.drew ?_) | (refine below_drewN ?_ _) | (refine Below.setCell ?_ (by first | omega | (simp only [World.size_alloc, World.size_setCell, World.size_drew]; done) | (simp only [World.size_alloc, World.size_setCell, World.size_drew]; omega)) _))))).mono ?_); rintro e y2 ⟨R2, c2, rfl, m2, hq_⟩; have qy2 : Below u13.heap.size u13 y2 := bel_step (by repeat' (first | with_reducible assumption | exact Below.refl _ _ | (refine Below.alloc ?_ (by first | omega | (simp only [World.size_alloc, World.size_setCell, World.size_drew]; done) | (simp only [World.size_alloc, World.size_setCell, World.size_drew]; omega)) _) | (refine Below.drew ?_) | (refine below_drewN ?_ _) | (refine Below.setCell ?_ (by first | omega | (simp only [World.size_alloc, World.size_setCell, World.size_drew]; done) | (simp only [World.size_alloc, World.size_setCell, World.size_drew]; omega)) _))) hq_; obtain ⟨hc11, hf11⟩ := bcell hq_; have hz11 := hq_.size; (try simp only [World.size_alloc, World.size_drew] at hz11); have hs11 := qy2.size; (try have hy1 : u13.heap.size < y2.heap.size := by omega); (try have hy3 : y1.heap.size < y2.heap.size := by omega)))
                  all_goals
                    go_wp2_with fail
                    go_meet
                  all_goals
                    go_light
                    refine ⟨rfl, _, R2, c2, rfl, (by repeat' (first | with_reducible assumption | exact Below.refl _ _ | (refine Below.alloc ?_ (by first | omega | (simp only [World.size_alloc, World.size_setCell, World.size_drew]; done) | (simp only [World.size_alloc, World.size_setCell, World.size_drew]; omega)) _) | (refine Below.drew ?_) | (refine below_drewN ?_ _) | (refine Below.setCell ?_ (by first | omega | (simp only [World.size_alloc, World.size_setCell, World.size_drew]; done) | (simp only [World.size_alloc, World.size_setCell, World.size_drew]; omega)) _))), ?_, ?_, ?_⟩
                  any_goals ((repeat' (first | with_reducible assumption | (with_reducible refine Mg.alloc ?_) | (with_reducible refine Mg.setB ?_ ?_) | (with_reducible refine Mg.setS ?_ ?_) | (with_reducible refine at_alloc0 (by first | omega | (simp only [World.size_alloc, World.size_setCell, World.size_drew]; done) | (simp only [World.size_alloc, World.size_setCell, World.size_drew]; omega))) | (with_reducible refine at_alloc1 (by first | omega | (simp only [World.size_alloc, World.size_setCell, World.size_drew]; done) | (simp only [World.size_alloc, World.size_setCell, World.size_drew]; omega))) | (with_reducible refine keep_alloc ?_) | (with_reducible refine keep_off (by omega) ?_) | (with_reducible refine keep_set (by first | omega | (simp only [World.size_alloc, World.size_setCell, World.size_drew]; done) | (simp only [World.size_alloc, World.size_setCell, World.size_drew]; omega)) ?_) | (with_reducible refine at_setB ?_) | (with_reducible refine at_setS ?_) | (with_reducible refine keep_drew ?_) | (with_reducible refine (hc11 _ _ (by first | omega | (simp only [World.size_alloc, World.size_setCell, World.size_drew]; done) | (simp only [World.size_alloc, World.size_setCell, World.size_drew]; omega))).trans ?_) | (with_reducible refine (hc10 _ _ (by first | omega | (simp only [World.size_alloc, World.size_setCell, World.size_drew]; done) | (simp only [World.size_alloc, World.size_setCell, World.size_drew]; omega))).trans ?_) | fail)); done)
              case rest =>
                as_aux_lemma =>
                  obtain ⟨rfl, g_s, R14, c14, rfl, hx, m14, s0, s1⟩ := hcut
                  obtain ⟨ma, md, f1, f2, f3, f4, g0, g1, HB⟩ := And.intro (ma.below hx) (And.intro (md.below hx) (And.intro (keep_cell hx f1) (And.intro (keep_cell hx f2) (And.intro (keep_cell hx f3) (And.intro (keep_cell hx f4) (And.intro (keep_cell hx g0) (And.intro (keep_cell hx g1) (HB.trans (hx.mono HB.size)))))))))
                  have lt_f1 := cell_lt f1
                  have lt_f2 := cell_lt f2
                  have lt_g0 := cell_lt g0
                  have lt_g1 := cell_lt g1
                  have lt_s0 := cell_lt s0
                  have lt_s1 := cell_lt s1
                  clear f3 f4 mb
                  go_upto_region 29 with fail
                  go_cut [37, 38] (fun s1 s2 wx => s2 = .int .i64 (0) ∧ ∃ (g : Nat) (R : Option Addr) (c : Nat), s1 = .pointer (some ⟨g, 0, none⟩) ∧ Below wc.heap.size wc wx ∧ Mg wx R c LO ∧ wx.cell? ⟨g, 0, none⟩ = some (.bool bO) ∧ wx.cell? ⟨g, 1, none⟩ = some (.slice R 0 c))
                  case first =>
                    as_aux_lemma =>
                      go_region_held3 (fun w' => w'.cell? ⟨w.heap.size, 0, none⟩ = some (.bool bx) ∧ w'.cell? ⟨w.heap.size, 1, none⟩ = some (.slice A nx ca)) (first | ((try dsimp only); repeat' (first | with_reducible assumption | apply And.intro | (with_reducible refine keep_alloc ?_) | (with_reducible refine keep_drew ?_) | (with_reducible refine keep_set (by first | omega | (simp only [World.size_alloc, World.size_setCell, World.size_drew]; done) | (simp only [World.size_alloc, World.size_setCell, World.size_drew]; omega)) ?_) | (with_reducible refine keep_cell (W := wc) ?_ ?_) | fail))) (first | (go_at_call 43; (with_reducible refine (HNa.out _ (ma.below (by repeat' (first | with_reducible assumption | exact Below.refl _ _ | (refine Below.alloc ?_ (by first | omega | (simp only [World.size_alloc, World.size_setCell, World.size_drew]; done) | (simp only [World.size_alloc, World.size_setCell, World.size_drew]; omega)) _) | (refine Below.drew ?_) | (refine below_drewN ?_ _) | (refine Below.setCell ?_ (by first | omega | (simp only [World.size_alloc, World.size_setCell, World.size_drew]; done) | (simp only [World.size_alloc, World.size_setCell, World.size_drew]; omega)) _))))).mono ?_); rintro e y1 ⟨Rn, cn, rfl, mn, hq_⟩; have qy1 : Below wc.heap.size wc y1 := bel_step (by repeat' (first | with_reducible assumption | exact Below.refl _ _ | (refine Below.alloc ?_ (by first | omega | (simp only [World.size_alloc, World.size_setCell, World.size_drew]; done) | (simp only [World.size_alloc, World.size_setCell, World.size_drew]; omega)) _) | (refine Below.drew ?_) | (refine below_drewN ?_ _) | (refine Below.setCell ?_ (by first | omega | (simp only [World.size_alloc, World.size_setCell, World.size_drew]; done) | (simp only [World.size_alloc, World.size_setCell, World.size_drew]; omega)) _))) hq_; obtain ⟨hc10, hf10⟩ := bcell hq_; have hz10 := hq_.size; (try simp only [World.size_alloc, World.size_drew] at hz10); have hs10 := qy1.size; (try have hx1 : wc.heap.size < y1.heap.size := by omega)) | (go_at_call 40; (with_reducible refine (HZ0.out _ _ _ (ma.below (by repeat' (first | with_reducible assumption | exact Below.refl _ _ | (refine Below.alloc ?_ (by first | omega | (simp only [World.size_alloc, World.size_setCell, World.size_drew]; done) | (simp only [World.size_alloc, World.size_setCell, World.size_drew]; omega)) _) | (refine Below.drew ?_) | (refine below_drewN ?_ _) | (refine Below.setCell ?_ (by first | omega | (simp only [World.size_alloc, World.size_setCell, World.size_drew]; done) | (simp only [World.size_alloc, World.size_setCell, World.size_drew]; omega)) _)))) (mn.below (by repeat' (first | with_reducible assumption | exact Below.refl _ _ | (refine Below.alloc ?_ (by first | omega | (simp only [World.size_alloc, World.size_setCell, World.size_drew]; done) | (simp only [World.size_alloc, World.size_setCell, World.size_drew]; omega)) _) | (refine Below.drew ?_) | (refine below_drewN ?_ _) | (refine Below.setCell ?_ (by first | omega | (simp only [World.size_alloc, World.size_setCell, World.size_drew]; done) | (simp only [World.size_alloc, World.size_setCell, World.size_drew]; omega)) _))))).mono ?_); rintro e y2 ⟨R2, c2, rfl, m2, hq_⟩; have qy2 : Below wc.heap.size wc y2 := bel_step (by repeat' (first | with_reducible assumption | exact Below.refl _ _ | (refine Below.alloc ?_ (by first | omega | (simp only [World.size_alloc, World.size_setCell, World.size_drew]; done) | (simp only [World.size_alloc, World.size_setCell, World.size_drew]; omega)) _) | (refine Below.drew ?_) | (refine below_drewN ?_ _) | (refine Below.setCell ?_ (by first | omega | (simp only [World.size_alloc, World.size_setCell, World.size_drew]; done) | (simp only [World.size_alloc, World.size_setCell, World.size_drew]; omega)) _))) hq_; obtain ⟨hc11, hf11⟩ := bcell hq_; have hz11 := hq_.size; (try simp only [World.size_alloc, World.size_drew] at hz11); have hs11 := qy2.size; (try have hy1 : wc.heap.size < y2.heap.size := by omega); (try have hy3 : y1.heap.size < y2.heap.size := by omega)))
                      all_goals
                        go_wp2_with fail
                        go_meet
                      all_goals
                        go_light
                        refine ⟨rfl, _, R2, c2, rfl, (by repeat' (first | with_reducible assumption | exact Below.refl _ _ | (refine Below.alloc ?_ (by first | omega | (simp only [World.size_alloc, World.size_setCell, World.size_drew]; done) | (simp only [World.size_alloc, World.size_setCell, World.size_drew]; omega)) _) | (refine Below.drew ?_) | (refine below_drewN ?_ _) | (refine Below.setCell ?_ (by first | omega | (simp only [World.size_alloc, World.size_setCell, World.size_drew]; done) | (simp only [World.size_alloc, World.size_setCell, World.size_drew]; omega)) _))), ?_, ?_, ?_⟩
                      any_goals ((repeat' (first | with_reducible assumption | (with_reducible refine Mg.alloc ?_) | (with_reducible refine Mg.setB ?_ ?_) | (with_reducible refine Mg.setS ?_ ?_) | (with_reducible refine at_alloc0 (by first | omega | (simp only [World.size_alloc, World.size_setCell, World.size_drew]; done) | (simp only [World.size_alloc, World.size_setCell, World.size_drew]; omega))) | (with_reducible refine at_alloc1 (by first | omega | (simp only [World.size_alloc, World.size_setCell, World.size_drew]; done) | (simp only [World.size_alloc, World.size_setCell, World.size_drew]; omega))) | (with_reducible refine keep_alloc ?_) | (with_reducible refine keep_off (by omega) ?_) | (with_reducible refine keep_set (by first | omega | (simp only [World.size_alloc, World.size_setCell, World.size_drew]; done) | (simp only [World.size_alloc, World.size_setCell, World.size_drew]; omega)) ?_) | (with_reducible refine at_setB ?_) | (with_reducible refine at_setS ?_) | (with_reducible refine keep_drew ?_) | (with_reducible refine (hc11 _ _ (by first | omega | (simp only [World.size_alloc, World.size_setCell, World.size_drew]; done) | (simp only [World.size_alloc, World.size_setCell, World.size_drew]; omega))).trans ?_) | (with_reducible refine (hc10 _ _ (by first | omega | (simp only [World.size_alloc, World.size_setCell, World.size_drew]; done) | (simp only [World.size_alloc, World.size_setCell, World.size_drew]; omega))).trans ?_) | fail)); done)
                  case rest =>
                    as_aux_lemma =>
                      obtain ⟨rfl, g_t, R15, c15, rfl, hx, m15, t0, t1⟩ := hcut
                      obtain ⟨ma, md, m14, f1, f2, g0, g1, s0, s1, HB⟩ := And.intro (ma.below hx) (And.intro (md.below hx) (And.intro (m14.below hx) (And.intro (keep_cell hx f1) (And.intro (keep_cell hx f2) (And.intro (keep_cell hx g0) (And.intro (keep_cell hx g1) (And.intro (keep_cell hx s0) (And.intro (keep_cell hx s1) (HB.trans (hx.mono HB.size))))))))))
                      have lt_f1 := cell_lt f1
                      have lt_f2 := cell_lt f2
                      have lt_g0 := cell_lt g0
                      have lt_g1 := cell_lt g1
                      have lt_s0 := cell_lt s0
                      have lt_s1 := cell_lt s1
                      have lt_t0 := cell_lt t0
                      have lt_t1 := cell_lt t1
                      go_upto_region 30 with fail
                      go_cut [39, 40] (fun s1 s2 wx => s2 = .int .i64 (0) ∧ ∃ (g : Nat) (R : Option Addr) (c : Nat), s1 = .pointer (some ⟨g, 0, none⟩) ∧ Below wc.heap.size wc wx ∧ Mg wx R c X ∧ wx.cell? ⟨g, 0, none⟩ = some (.bool bx) ∧ wx.cell? ⟨g, 1, none⟩ = some (.slice R nx c))
                      case first =>
                        as_aux_lemma =>
                          go_region_held3 (fun w' => w'.cell? ⟨w.heap.size, 0, none⟩ = some (.bool bx) ∧ w'.cell? ⟨w.heap.size, 1, none⟩ = some (.slice A nx ca)) (first | ((try dsimp only); repeat' (first | with_reducible assumption | apply And.intro | (with_reducible refine keep_alloc ?_) | (with_reducible refine keep_drew ?_) | (with_reducible refine keep_set (by first | omega | (simp only [World.size_alloc, World.size_setCell, World.size_drew]; done) | (simp only [World.size_alloc, World.size_setCell, World.size_drew]; omega)) ?_) | (with_reducible refine keep_cell (W := wc) ?_ ?_) | fail))) (first | (go_at_call 30; (with_reducible refine (HF1.out _).mono ?_); rintro e y1 ⟨Rn, cn, rfl, mn, hq_⟩; have qy1 : Below wc.heap.size wc y1 := bel_step (by repeat' (first | with_reducible assumption | exact Below.refl _ _ | (refine Below.alloc ?_ (by first | omega | (simp only [World.size_alloc, World.size_setCell, World.size_drew]; done) | (simp only [World.size_alloc, World.size_setCell, World.size_drew]; omega)) _) | (refine Below.drew ?_) | (refine below_drewN ?_ _) | (refine Below.setCell ?_ (by first | omega | (simp only [World.size_alloc, World.size_setCell, World.size_drew]; done) | (simp only [World.size_alloc, World.size_setCell, World.size_drew]; omega)) _))) hq_; obtain ⟨hc10, hf10⟩ := bcell hq_; have hz10 := hq_.size; (try simp only [World.size_alloc, World.size_drew] at hz10); have hs10 := qy1.size; (try have hx1 : wc.heap.size < y1.heap.size := by omega)) | (go_at_call 27; (with_reducible refine (HU.out _ _ _ (ma.below (by repeat' (first | with_reducible assumption | exact Below.refl _ _ | (refine Below.alloc ?_ (by first | omega | (simp only [World.size_alloc, World.size_setCell, World.size_drew]; done) | (simp only [World.size_alloc, World.size_setCell, World.size_drew]; omega)) _) | (refine Below.drew ?_) | (refine below_drewN ?_ _) | (refine Below.setCell ?_ (by first | omega | (simp only [World.size_alloc, World.size_setCell, World.size_drew]; done) | (simp only [World.size_alloc, World.size_setCell, World.size_drew]; omega)) _)))) (mn.below (by repeat' (first | with_reducible assumption | exact Below.refl _ _ | (refine Below.alloc ?_ (by first | omega | (simp only [World.size_alloc, World.size_setCell, World.size_drew]; done) | (simp only [World.size_alloc, World.size_setCell, World.size_drew]; omega)) _) | (refine Below.drew ?_) | (refine below_drewN ?_ _) | (refine Below.setCell ?_ (by first | omega | (simp only [World.size_alloc, World.size_setCell, World.size_drew]; done) | (simp only [World.size_alloc, World.size_setCell, World.size_drew]; omega)) _))))).mono ?_); rintro e y2 ⟨R2, c2, rfl, m2, hq_⟩; have qy2 : Below wc.heap.size wc y2 := bel_step (by repeat' (first | with_reducible assumption | exact Below.refl _ _ | (refine Below.alloc ?_ (by first | omega | (simp only [World.size_alloc, World.size_setCell, World.size_drew]; done) | (simp only [World.size_alloc, World.size_setCell, World.size_drew]; omega)) _) | (refine Below.drew ?_) | (refine below_drewN ?_ _) | (refine Below.setCell ?_ (by first | omega | (simp only [World.size_alloc, World.size_setCell, World.size_drew]; done) | (simp only [World.size_alloc, World.size_setCell, World.size_drew]; omega)) _))) hq_; obtain ⟨hc11, hf11⟩ := bcell hq_; have hz11 := hq_.size; (try simp only [World.size_alloc, World.size_drew] at hz11); have hs11 := qy2.size; (try have hy1 : wc.heap.size < y2.heap.size := by omega); (try have hy3 : y1.heap.size < y2.heap.size := by omega)))
                          all_goals
                            go_wp2_with fail
                            go_meet
                          all_goals
                            go_light
                            refine ⟨rfl, _, R2, c2, rfl, (by repeat' (first | with_reducible assumption | exact Below.refl _ _ | (refine Below.alloc ?_ (by first | omega | (simp only [World.size_alloc, World.size_setCell, World.size_drew]; done) | (simp only [World.size_alloc, World.size_setCell, World.size_drew]; omega)) _) | (refine Below.drew ?_) | (refine below_drewN ?_ _) | (refine Below.setCell ?_ (by first | omega | (simp only [World.size_alloc, World.size_setCell, World.size_drew]; done) | (simp only [World.size_alloc, World.size_setCell, World.size_drew]; omega)) _))), ?_, ?_, ?_⟩
                          any_goals ((repeat' (first | with_reducible assumption | (with_reducible refine Mg.alloc ?_) | (with_reducible refine Mg.setB ?_ ?_) | (with_reducible refine Mg.setS ?_ ?_) | (with_reducible refine at_alloc0 (by first | omega | (simp only [World.size_alloc, World.size_setCell, World.size_drew]; done) | (simp only [World.size_alloc, World.size_setCell, World.size_drew]; omega))) | (with_reducible refine at_alloc1 (by first | omega | (simp only [World.size_alloc, World.size_setCell, World.size_drew]; done) | (simp only [World.size_alloc, World.size_setCell, World.size_drew]; omega))) | (with_reducible refine keep_alloc ?_) | (with_reducible refine keep_off (by omega) ?_) | (with_reducible refine keep_set (by first | omega | (simp only [World.size_alloc, World.size_setCell, World.size_drew]; done) | (simp only [World.size_alloc, World.size_setCell, World.size_drew]; omega)) ?_) | (with_reducible refine at_setB ?_) | (with_reducible refine at_setS ?_) | (with_reducible refine keep_drew ?_) | (with_reducible refine (hc11 _ _ (by first | omega | (simp only [World.size_alloc, World.size_setCell, World.size_drew]; done) | (simp only [World.size_alloc, World.size_setCell, World.size_drew]; omega))).trans ?_) | (with_reducible refine (hc10 _ _ (by first | omega | (simp only [World.size_alloc, World.size_setCell, World.size_drew]; done) | (simp only [World.size_alloc, World.size_setCell, World.size_drew]; omega))).trans ?_) | fail)); done)
                      case rest =>
                        as_aux_lemma =>
                          obtain ⟨rfl, g_p, R16, c16, rfl, hx, m16, p0, p1⟩ := hcut
                          obtain ⟨ma, md, m14, f1, f2, g0, g1, s0, s1, t0, t1, HB⟩ := And.intro (ma.below hx) (And.intro (md.below hx) (And.intro (m14.below hx) (And.intro (keep_cell hx f1) (And.intro (keep_cell hx f2) (And.intro (keep_cell hx g0) (And.intro (keep_cell hx g1) (And.intro (keep_cell hx s0) (And.intro (keep_cell hx s1) (And.intro (keep_cell hx t0) (And.intro (keep_cell hx t1) (HB.trans (hx.mono HB.size))))))))))))
                          have lt_f1 := cell_lt f1
                          have lt_f2 := cell_lt f2
                          have lt_g0 := cell_lt g0
                          have lt_g1 := cell_lt g1
                          have lt_s0 := cell_lt s0
                          have lt_s1 := cell_lt s1
                          have lt_t0 := cell_lt t0
                          have lt_t1 := cell_lt t1
                          have lt_p0 := cell_lt p0
                          have lt_p1 := cell_lt p1
                          go_upto_region 31 with fail
                          go_cut [41, 42] (fun s1 s2 wx => s2 = .int .i64 (0) ∧ ∃ (g : Nat) (R : Option Addr) (c : Nat), s1 = .pointer (some ⟨g, 0, none⟩) ∧ Below wc.heap.size wc wx ∧ Mg wx R c X ∧ wx.cell? ⟨g, 0, none⟩ = some (.bool bx) ∧ wx.cell? ⟨g, 1, none⟩ = some (.slice R nx c))
                          case first =>
                            as_aux_lemma =>
                              go_region_held3 (fun w' => w'.cell? ⟨w.heap.size, 0, none⟩ = some (.bool bx) ∧ w'.cell? ⟨w.heap.size, 1, none⟩ = some (.slice A nx ca)) (first | ((try dsimp only); repeat' (first | with_reducible assumption | apply And.intro | (with_reducible refine keep_alloc ?_) | (with_reducible refine keep_drew ?_) | (with_reducible refine keep_set (by first | omega | (simp only [World.size_alloc, World.size_setCell, World.size_drew]; done) | (simp only [World.size_alloc, World.size_setCell, World.size_drew]; omega)) ?_) | (with_reducible refine keep_cell (W := wc) ?_ ?_) | fail))) (first | (go_at_call 30; (with_reducible refine (HF0.out _).mono ?_); rintro e y1 ⟨Rn, cn, rfl, mn, hq_⟩; have qy1 : Below wc.heap.size wc y1 := bel_step (by repeat' (first | with_reducible assumption | exact Below.refl _ _ | (refine Below.alloc ?_ (by first | omega | (simp only [World.size_alloc, World.size_setCell, World.size_drew]; done) | (simp only [World.size_alloc, World.size_setCell, World.size_drew]; omega)) _) | (refine Below.drew ?_) | (refine below_drewN ?_ _) | (refine Below.setCell ?_ (by first | omega | (simp only [World.size_alloc, World.size_setCell, World.size_drew]; done) | (simp only [World.size_alloc, World.size_setCell, World.size_drew]; omega)) _))) hq_; obtain ⟨hc10, hf10⟩ := bcell hq_; have hz10 := hq_.size; (try simp only [World.size_alloc, World.size_drew] at hz10); have hs10 := qy1.size; (try have hx1 : wc.heap.size < y1.heap.size := by omega)) | (go_at_call 40; (with_reducible refine (HW.out _ _ _ (ma.below (by repeat' (first | with_reducible assumption | exact Below.refl _ _ | (refine Below.alloc ?_ (by first | omega | (simp only [World.size_alloc, World.size_setCell, World.size_drew]; done) | (simp only [World.size_alloc, World.size_setCell, World.size_drew]; omega)) _) | (refine Below.drew ?_) | (refine below_drewN ?_ _) | (refine Below.setCell ?_ (by first | omega | (simp only [World.size_alloc, World.size_setCell, World.size_drew]; done) | (simp only [World.size_alloc, World.size_setCell, World.size_drew]; omega)) _)))) (mn.below (by repeat' (first | with_reducible assumption | exact Below.refl _ _ | (refine Below.alloc ?_ (by first | omega | (simp only [World.size_alloc, World.size_setCell, World.size_drew]; done) | (simp only [World.size_alloc, World.size_setCell, World.size_drew]; omega)) _) | (refine Below.drew ?_) | (refine below_drewN ?_ _) | (refine Below.setCell ?_ (by first | omega | (simp only [World.size_alloc, World.size_setCell, World.size_drew]; done) | (simp only [World.size_alloc, World.size_setCell, World.size_drew]; omega)) _))))).mono ?_); rintro e y2 ⟨R2, c2, rfl, m2, hq_⟩; have qy2 : Below wc.heap.size wc y2 := bel_step (by repeat' (first | with_reducible assumption | exact Below.refl _ _ | (refine Below.alloc ?_ (by first | omega | (simp only [World.size_alloc, World.size_setCell, World.size_drew]; done) | (simp only [World.size_alloc, World.size_setCell, World.size_drew]; omega)) _) | (refine Below.drew ?_) | (refine below_drewN ?_ _) | (refine Below.setCell ?_ (by first | omega | (simp only [World.size_alloc, World.size_setCell, World.size_drew]; done) | (simp only [World.size_alloc, World.size_setCell, World.size_drew]; omega)) _))) hq_; obtain ⟨hc11, hf11⟩ := bcell hq_; have hz11 := hq_.size; (try simp only [World.size_alloc, World.size_drew] at hz11); have hs11 := qy2.size; (try have hy1 : wc.heap.size < y2.heap.size := by omega); (try have hy3 : y1.heap.size < y2.heap.size := by omega)))
                              all_goals
                                go_wp2_with fail
                                go_meet
                              all_goals
                                go_light
                                refine ⟨rfl, _, R2, c2, rfl, (by repeat' (first | with_reducible assumption | exact Below.refl _ _ | (refine Below.alloc ?_ (by first | omega | (simp only [World.size_alloc, World.size_setCell, World.size_drew]; done) | (simp only [World.size_alloc, World.size_setCell, World.size_drew]; omega)) _) | (refine Below.drew ?_) | (refine below_drewN ?_ _) | (refine Below.setCell ?_ (by first | omega | (simp only [World.size_alloc, World.size_setCell, World.size_drew]; done) | (simp only [World.size_alloc, World.size_setCell, World.size_drew]; omega)) _))), ?_, ?_, ?_⟩
                              any_goals ((repeat' (first | with_reducible assumption | (with_reducible refine Mg.alloc ?_) | (with_reducible refine Mg.setB ?_ ?_) | (with_reducible refine Mg.setS ?_ ?_) | (with_reducible refine at_alloc0 (by first | omega | (simp only [World.size_alloc, World.size_setCell, World.size_drew]; done) | (simp only [World.size_alloc, World.size_setCell, World.size_drew]; omega))) | (with_reducible refine at_alloc1 (by first | omega | (simp only [World.size_alloc, World.size_setCell, World.size_drew]; done) | (simp only [World.size_alloc, World.size_setCell, World.size_drew]; omega))) | (with_reducible refine keep_alloc ?_) | (with_reducible refine keep_off (by omega) ?_) | (with_reducible refine keep_set (by first | omega | (simp only [World.size_alloc, World.size_setCell, World.size_drew]; done) | (simp only [World.size_alloc, World.size_setCell, World.size_drew]; omega)) ?_) | (with_reducible refine at_setB ?_) | (with_reducible refine at_setS ?_) | (with_reducible refine keep_drew ?_) | (with_reducible refine (hc11 _ _ (by first | omega | (simp only [World.size_alloc, World.size_setCell, World.size_drew]; done) | (simp only [World.size_alloc, World.size_setCell, World.size_drew]; omega))).trans ?_) | (with_reducible refine (hc10 _ _ (by first | omega | (simp only [World.size_alloc, World.size_setCell, World.size_drew]; done) | (simp only [World.size_alloc, World.size_setCell, World.size_drew]; omega))).trans ?_) | fail)); done)
                          case rest =>
                            as_aux_lemma =>
                              obtain ⟨rfl, g_q, R17, c17, rfl, hx, m17, q0, q1⟩ := hcut
                              obtain ⟨ma, md, m14, m16, f1, f2, g0, g1, s0, s1, t0, t1, p0, p1, HB⟩ := And.intro (ma.below hx) (And.intro (md.below hx) (And.intro (m14.below hx) (And.intro (m16.below hx) (And.intro (keep_cell hx f1) (And.intro (keep_cell hx f2) (And.intro (keep_cell hx g0) (And.intro (keep_cell hx g1) (And.intro (keep_cell hx s0) (And.intro (keep_cell hx s1) (And.intro (keep_cell hx t0) (And.intro (keep_cell hx t1) (And.intro (keep_cell hx p0) (And.intro (keep_cell hx p1) (HB.trans (hx.mono HB.size)))))))))))))))
                              have lt_f1 := cell_lt f1
                              have lt_f2 := cell_lt f2
                              have lt_g0 := cell_lt g0
                              have lt_g1 := cell_lt g1
                              have lt_s0 := cell_lt s0
                              have lt_s1 := cell_lt s1
                              have lt_t0 := cell_lt t0
                              have lt_t1 := cell_lt t1
                              have lt_p0 := cell_lt p0
                              have lt_p1 := cell_lt p1
                              have lt_q0 := cell_lt q0
                              have lt_q1 := cell_lt q1
                              go_wp2_with fail
                              refine (HSc.out _ _ _ _ _ md m14).mono ?_
                              rintro e x1 ⟨rfl, k1⟩
                              have hv_ : Below wc.heap.size wc x1 := Below.trans (b := _) (by repeat (first | assumption | exact Below.refl _ _ | refine Below.alloc ?_ (by simp; try omega) _ | refine Below.drew ?_ | refine below_drewN ?_ _)) (k1.mono (by simp; try omega))
                              replace ma := ma.below hv_
                              replace m16 := m16.below hv_
                              replace m17 := m17.below hv_
                              replace f1 := keep_cell hv_ f1
                              replace f2 := keep_cell hv_ f2
                              replace t0 := keep_cell hv_ t0
                              replace t1 := keep_cell hv_ t1
                              replace p0 := keep_cell hv_ p0
                              replace p1 := keep_cell hv_ p1
                              replace q0 := keep_cell hv_ q0
                              replace q1 := keep_cell hv_ q1
                              have lt_f1 := cell_lt f1
                              have lt_f2 := cell_lt f2
                              have lt_t0 := cell_lt t0
                              have lt_t1 := cell_lt t1
                              have lt_p0 := cell_lt p0
                              have lt_p1 := cell_lt p1
                              have lt_q0 := cell_lt q0
                              have lt_q1 := cell_lt q1
                              replace HB := HB.trans (hv_.mono HB.size)
                              clear hv_
                              go_wp2_with fail
                              refine (HSd.out _ _ _ _ _ m16 ma).mono ?_
                              rintro e x2 ⟨rfl, k2⟩
                              have hv_ : Below x1.heap.size x1 x2 := Below.trans (b := _) (by repeat (first | assumption | exact Below.refl _ _ | refine Below.alloc ?_ (by simp; try omega) _ | refine Below.drew ?_ | refine below_drewN ?_ _)) (k2.mono (by simp; try omega))
                              replace ma := ma.below hv_
                              replace m17 := m17.below hv_
                              replace f1 := keep_cell hv_ f1
                              replace f2 := keep_cell hv_ f2
                              replace q0 := keep_cell hv_ q0
                              replace q1 := keep_cell hv_ q1
                              have lt_f1 := cell_lt f1
                              have lt_f2 := cell_lt f2
                              have lt_q0 := cell_lt q0
                              have lt_q1 := cell_lt q1
                              replace HB := HB.trans (hv_.mono HB.size)
                              clear hv_
                              go_wp2_with fail
                              refine (HSd.out _ _ _ _ _ m17 ma).mono ?_
                              rintro e x3 ⟨rfl, k3⟩
                              have hv_ : Below x2.heap.size x2 x3 := Below.trans (b := _) (by repeat (first | assumption | exact Below.refl _ _ | refine Below.alloc ?_ (by simp; try omega) _ | refine Below.drew ?_ | refine below_drewN ?_ _)) (k3.mono (by simp; try omega))
                              replace HB := HB.trans (hv_.mono HB.size)
                              clear hv_
                              go_wp2_with fail
                              refine (exRun HE HB).mono ?_
                              rintro e x4 ⟨rfl, k4⟩
                              go_wp2_with fail
                              go_ret
                              exact ⟨rfl, bel_step HB k4⟩
end Go.Proofs.YtkfpcohdbbhmaaaDoor
