/- The laws FractionSums, FractionProducts, FractionSimplest: their walks. Conditions: none. -/
import Derived.Test.YtfhbigfbeppinaaGreatDoorZYS
import Derived.Test.YtfhbigfbeppinaaGreatDoorZQ3J
import Derived.Test.YtfhbigfbeppinaaGreatDoorZQ3H
set_option linter.unusedVariables false
set_option linter.unusedSimpArgs false
namespace Go.Proofs.YtfhbigfbeppinaaGreatDoor
open Go.RowKit Big

set_option maxRecDepth 100000 in
set_option maxHeartbeats 4000000 in
theorem FractionSums_law {na nb nc nd : Bool} {xs ys us vs : List Nat} {A B C D : Option Addr} {ca cb cc cd : Nat} {w : World} (ma : Mg w A ca xs) (mb : Mg w B cb ys) (mc : Mg w C cc us) (md : Mg w D cd vs) (htab : PowTab w) (hlen : LenAt w) :
    Calls Tryz.prog 8 #[.agg #[.bool na, .slice A xs.length ca, .bool nb, .slice B ys.length cb], .agg #[.bool nc, .slice C us.length cc, .bool nd, .slice D vs.length cd]] w (RetB w true) := by
  have HE := hid fun (w1 : World) (h : Below w.heap.size w w1) => Lex_ok w1 (htab.below h) (hlen.below h)
  obtain ⟨t1, ht1⟩ : ∃ t, (decide (xs.length ≤ 8) && decide (ys.length ≤ 8)) = t := ⟨_, rfl⟩
  obtain ⟨t2, ht2⟩ : ∃ t, (decide (us.length ≤ 8) && decide (vs.length ≤ 8)) = t := ⟨_, rfl⟩
  have HS1 := hid fun (w1 : World) => Lsmall_g (na := na) (nb := nb) (A := A) (B := B) (ca := ca) (cb := cb) (w := w1) t1 ht1
  have HS2 := hid fun (w1 : World) => Lsmall_g (na := nc) (nb := nd) (A := C) (B := D) (ca := cc) (cb := cd) (w := w1) t2 ht2
  cases t1
  · clear ma mb mc md ht1 ht2 HS2
    generalize xs.length = ka at *
    generalize ys.length = la at *
    generalize us.length = kb at *
    generalize vs.length = lb at *
    go_enter Tryz.func8, Tryz.ntmps8
    go_wp2_with fail
    refine enterFF (P := fun u => Calls _ _ _ u _) ?_
    intro u HB q0 q1 q2 q3 r0 r1 r2 r3 z1 z2 hsz
    clear hsz
    have f_z1 := z1.fr
    have f_z2 := z2.fr
    have lt_q0 := cell_lt q0
    have lt_r0 := cell_lt r0
    refine (HS1.out _).mono ?_
    rintro e w1 ⟨rfl, h1⟩
    have hv_ : Below u.heap.size u w1 := Below.trans (b := _) (by repeat (first | assumption | exact Below.refl _ _ | refine Below.alloc ?_ (by simp; try omega) _ | refine Below.drew ?_ | refine below_drewN ?_ _)) (h1.mono (by simp; try omega))
    replace HB := HB.trans (hv_.mono HB.size)
    clear hv_
    go_wp2_with fail
    refine (HE.out _ HB).mono ?_
    rintro e we ⟨rfl, hwe⟩
    go_wp2
    go_ret
    exact ⟨rfl, bel_step HB hwe⟩
  cases t2
  · clear ma mb mc md ht1 ht2
    generalize xs.length = ka at *
    generalize ys.length = la at *
    generalize us.length = kb at *
    generalize vs.length = lb at *
    go_enter Tryz.func8, Tryz.ntmps8
    go_wp2_with fail
    refine enterFF (P := fun u => Calls _ _ _ u _) ?_
    intro u HB q0 q1 q2 q3 r0 r1 r2 r3 z1 z2 hsz
    clear hsz
    have f_z1 := z1.fr
    have f_z2 := z2.fr
    have lt_q0 := cell_lt q0
    have lt_r0 := cell_lt r0
    refine (HS1.out _).mono ?_
    rintro e w1 ⟨rfl, h1⟩
    have hv_ : Below u.heap.size u w1 := Below.trans (b := _) (by repeat (first | assumption | exact Below.refl _ _ | refine Below.alloc ?_ (by simp; try omega) _ | refine Below.drew ?_ | refine below_drewN ?_ _)) (h1.mono (by simp; try omega))
    replace r0 := keep_cell hv_ r0
    replace r1 := keep_cell hv_ r1
    replace r2 := keep_cell hv_ r2
    replace r3 := keep_cell hv_ r3
    have lt_r0 := cell_lt r0
    have lt_r1 := cell_lt r1
    have lt_r2 := cell_lt r2
    have lt_r3 := cell_lt r3
    replace HB := HB.trans (hv_.mono HB.size)
    clear hv_
    go_wp2_with fail
    refine (HS2.out _).mono ?_
    rintro e w2 ⟨rfl, h2⟩
    have hv_ : Below w1.heap.size w1 w2 := Below.trans (b := _) (by repeat (first | assumption | exact Below.refl _ _ | refine Below.alloc ?_ (by simp; try omega) _ | refine Below.drew ?_ | refine below_drewN ?_ _)) (h2.mono (by simp; try omega))
    replace HB := HB.trans (hv_.mono HB.size)
    clear hv_
    go_wp2_with fail
    refine (HE.out _ HB).mono ?_
    rintro e we ⟨rfl, hwe⟩
    go_wp2
    go_ret
    exact ⟨rfl, bel_step HB hwe⟩
  obtain ⟨⟨p1, err1⟩, hq1⟩ : ∃ q, opR addE na xs nb ys nc us nd vs = q := ⟨_, rfl⟩
  obtain ⟨b1, k1, X1, l1, Y1, I1⟩ := fz p1
  have H1a := hid fun (w1 : World) (h : Below w.heap.size w w1) => (FrAdd_any (na := na) (nb := nb) (nc := nc) (nd := nd) (w := w1) (ma.below h) (mb.below h) (mc.below h) (md.below h)).mono fun e w' h => by
    rw [hq1] at h; exact RetFE.g h I1.out
  have H1b := hid fun (w1 : World) (h : Below w.heap.size w w1) => (QAdd_any (na := na) (nb := nb) (nc := nc) (nd := nd) (w := w1) (ma.below h) (mb.below h) (mc.below h) (md.below h)).mono fun e w' h => by
    rw [hq1] at h; exact RetFE.g h I1.out
  have HL1 := hid fun (w1 : World) (R Q R' Q' : Option Addr) (c d c' d' : Nat) (m1 : Mg w1 R c X1) (m2 : Mg w1 Q d Y1) (m3 : Mg w1 R' c' X1) (m4 : Mg w1 Q' d' Y1) => Llike_g (w := w1) (err := err1) I1.out m1 m2 m3 m4
  clear hq1 I1
  obtain ⟨⟨p2, err2⟩, hq2⟩ : ∃ q, opR subE na xs nb ys nc us nd vs = q := ⟨_, rfl⟩
  obtain ⟨b2, k2, X2, l2, Y2, I2⟩ := fz p2
  have H2a := hid fun (w1 : World) (h : Below w.heap.size w w1) => (FrSub_any (na := na) (nb := nb) (nc := nc) (nd := nd) (w := w1) (ma.below h) (mb.below h) (mc.below h) (md.below h)).mono fun e w' h => by
    rw [hq2] at h; exact RetFE.g h I2.out
  have H2b := hid fun (w1 : World) (h : Below w.heap.size w w1) => (QSub_any (na := na) (nb := nb) (nc := nc) (nd := nd) (w := w1) (ma.below h) (mb.below h) (mc.below h) (md.below h)).mono fun e w' h => by
    rw [hq2] at h; exact RetFE.g h I2.out
  have HL2 := hid fun (w1 : World) (R Q R' Q' : Option Addr) (c d c' d' : Nat) (m1 : Mg w1 R c X2) (m2 : Mg w1 Q d Y2) (m3 : Mg w1 R' c' X2) (m4 : Mg w1 Q' d' Y2) => Llike_g (w := w1) (err := err2) I2.out m1 m2 m3 m4
  clear hq2 I2
  clear ma mb mc md ht1 ht2
  generalize xs.length = ka at *
  generalize ys.length = la at *
  generalize us.length = kb at *
  generalize vs.length = lb at *
  go_enter Tryz.func8, Tryz.ntmps8
  go_wp2_with fail
  refine enterFF (P := fun u => Calls _ _ _ u _) ?_
  intro u HB q0 q1 q2 q3 r0 r1 r2 r3 z1 z2 hsz
  clear hsz
  have f_z1 := z1.fr
  have f_z2 := z2.fr
  have lt_q0 := cell_lt q0
  have lt_r0 := cell_lt r0
  refine (HS1.out _).mono ?_
  rintro e w1 ⟨rfl, h1⟩
  have hv_ : Below u.heap.size u w1 := Below.trans (b := _) (by repeat (first | assumption | exact Below.refl _ _ | refine Below.alloc ?_ (by simp; try omega) _ | refine Below.drew ?_ | refine below_drewN ?_ _)) (h1.mono (by simp; try omega))
  replace q0 := keep_cell hv_ q0
  replace q1 := keep_cell hv_ q1
  replace q2 := keep_cell hv_ q2
  replace q3 := keep_cell hv_ q3
  replace r0 := keep_cell hv_ r0
  replace r1 := keep_cell hv_ r1
  replace r2 := keep_cell hv_ r2
  replace r3 := keep_cell hv_ r3
  have lt_q0 := cell_lt q0
  have lt_q1 := cell_lt q1
  have lt_q2 := cell_lt q2
  have lt_q3 := cell_lt q3
  have lt_r0 := cell_lt r0
  have lt_r1 := cell_lt r1
  have lt_r2 := cell_lt r2
  have lt_r3 := cell_lt r3
  replace HB := HB.trans (hv_.mono HB.size)
  clear hv_
  go_wp2_with fail
  refine (HS2.out _).mono ?_
  rintro e w2 ⟨rfl, h2⟩
  have hv_ : Below w1.heap.size w1 w2 := Below.trans (b := _) (by repeat (first | assumption | exact Below.refl _ _ | refine Below.alloc ?_ (by simp; try omega) _ | refine Below.drew ?_ | refine below_drewN ?_ _)) (h2.mono (by simp; try omega))
  replace q0 := keep_cell hv_ q0
  replace q1 := keep_cell hv_ q1
  replace q2 := keep_cell hv_ q2
  replace q3 := keep_cell hv_ q3
  replace r0 := keep_cell hv_ r0
  replace r1 := keep_cell hv_ r1
  replace r2 := keep_cell hv_ r2
  replace r3 := keep_cell hv_ r3
  have lt_q0 := cell_lt q0
  have lt_q1 := cell_lt q1
  have lt_q2 := cell_lt q2
  have lt_q3 := cell_lt q3
  have lt_r0 := cell_lt r0
  have lt_r1 := cell_lt r1
  have lt_r2 := cell_lt r2
  have lt_r3 := cell_lt r3
  replace HB := HB.trans (hv_.mono HB.size)
  clear hv_
  go_wp2_with fail
  refine (H1a.out _ HB).mono ?_
  rintro e w3 ⟨Ra, ca_, Qa, da_, rfl, am, an_, ha⟩
  have hv_ : Below w2.heap.size w2 w3 := Below.trans (b := _) (by repeat (first | assumption | exact Below.refl _ _ | refine Below.alloc ?_ (by simp; try omega) _ | refine Below.drew ?_ | refine below_drewN ?_ _)) (ha.mono (by simp; try omega))
  replace q0 := keep_cell hv_ q0
  replace q1 := keep_cell hv_ q1
  replace q2 := keep_cell hv_ q2
  replace q3 := keep_cell hv_ q3
  replace r0 := keep_cell hv_ r0
  replace r1 := keep_cell hv_ r1
  replace r2 := keep_cell hv_ r2
  replace r3 := keep_cell hv_ r3
  have lt_q0 := cell_lt q0
  have lt_q1 := cell_lt q1
  have lt_q2 := cell_lt q2
  have lt_q3 := cell_lt q3
  have lt_r0 := cell_lt r0
  have lt_r1 := cell_lt r1
  have lt_r2 := cell_lt r2
  have lt_r3 := cell_lt r3
  replace HB := HB.trans (hv_.mono HB.size)
  clear hv_
  go_upto_region 4 with fail
  have a0 := at_allocF0 (W := w3) (a := .bool b1) (b := .slice Ra k1 ca_) (c := .bool false) (d := .slice Qa l1 da_) (t := 26) rfl
  have a1 := at_allocF1 (W := w3) (a := .bool b1) (b := .slice Ra k1 ca_) (c := .bool false) (d := .slice Qa l1 da_) (t := 26) rfl
  have a2 := at_allocF2 (W := w3) (a := .bool b1) (b := .slice Ra k1 ca_) (c := .bool false) (d := .slice Qa l1 da_) (t := 26) rfl
  have a3 := at_allocF3 (W := w3) (a := .bool b1) (b := .slice Ra k1 ca_) (c := .bool false) (d := .slice Qa l1 da_) (t := 26) rfl
  have hv_ : Below w3.heap.size w3 (w3.alloc (.cells #[.bool b1, .slice Ra k1 ca_, .bool false, .slice Qa l1 da_] 26)) := (Below.refl _ _).alloc (Nat.le_refl _) _
  generalize w3.alloc (.cells #[.bool b1, .slice Ra k1 ca_, .bool false, .slice Qa l1 da_] 26) = u3 at *
  replace am := am.below hv_
  replace an_ := an_.below hv_
  replace q0 := keep_cell hv_ q0
  replace q1 := keep_cell hv_ q1
  replace q2 := keep_cell hv_ q2
  replace q3 := keep_cell hv_ q3
  replace r0 := keep_cell hv_ r0
  replace r1 := keep_cell hv_ r1
  replace r2 := keep_cell hv_ r2
  replace r3 := keep_cell hv_ r3
  replace HB := HB.trans (hv_.mono HB.size)
  clear hv_
  have lt_a0 := cell_lt a0
  go_wp2_with fail
  refine (H1b.out _ HB).mono ?_
  rintro e w4 ⟨Rg, cg_, Qg, dg_, rfl, gm, gn_, hg⟩
  have hv_ : Below u3.heap.size u3 w4 := Below.trans (b := _) (by repeat (first | assumption | exact Below.refl _ _ | refine Below.alloc ?_ (by simp; try omega) _ | refine Below.drew ?_ | refine below_drewN ?_ _)) (hg.mono (by simp; try omega))
  replace am := am.below hv_
  replace an_ := an_.below hv_
  replace q0 := keep_cell hv_ q0
  replace q1 := keep_cell hv_ q1
  replace q2 := keep_cell hv_ q2
  replace q3 := keep_cell hv_ q3
  replace r0 := keep_cell hv_ r0
  replace r1 := keep_cell hv_ r1
  replace r2 := keep_cell hv_ r2
  replace r3 := keep_cell hv_ r3
  replace a0 := keep_cell hv_ a0
  replace a1 := keep_cell hv_ a1
  replace a2 := keep_cell hv_ a2
  replace a3 := keep_cell hv_ a3
  have lt_q0 := cell_lt q0
  have lt_q1 := cell_lt q1
  have lt_q2 := cell_lt q2
  have lt_q3 := cell_lt q3
  have lt_r0 := cell_lt r0
  have lt_r1 := cell_lt r1
  have lt_r2 := cell_lt r2
  have lt_r3 := cell_lt r3
  have lt_a0 := cell_lt a0
  have lt_a1 := cell_lt a1
  have lt_a2 := cell_lt a2
  have lt_a3 := cell_lt a3
  replace HB := HB.trans (hv_.mono HB.size)
  clear hv_
  go_upto_region 5 with fail
  have g0 := at_allocF0 (W := w4) (a := .bool b1) (b := .slice Rg k1 cg_) (c := .bool false) (d := .slice Qg l1 dg_) (t := 26) rfl
  have g1 := at_allocF1 (W := w4) (a := .bool b1) (b := .slice Rg k1 cg_) (c := .bool false) (d := .slice Qg l1 dg_) (t := 26) rfl
  have g2 := at_allocF2 (W := w4) (a := .bool b1) (b := .slice Rg k1 cg_) (c := .bool false) (d := .slice Qg l1 dg_) (t := 26) rfl
  have g3 := at_allocF3 (W := w4) (a := .bool b1) (b := .slice Rg k1 cg_) (c := .bool false) (d := .slice Qg l1 dg_) (t := 26) rfl
  have hv_ : Below w4.heap.size w4 (w4.alloc (.cells #[.bool b1, .slice Rg k1 cg_, .bool false, .slice Qg l1 dg_] 26)) := (Below.refl _ _).alloc (Nat.le_refl _) _
  generalize w4.alloc (.cells #[.bool b1, .slice Rg k1 cg_, .bool false, .slice Qg l1 dg_] 26) = u4 at *
  replace gm := gm.below hv_
  replace gn_ := gn_.below hv_
  replace am := am.below hv_
  replace an_ := an_.below hv_
  replace q0 := keep_cell hv_ q0
  replace q1 := keep_cell hv_ q1
  replace q2 := keep_cell hv_ q2
  replace q3 := keep_cell hv_ q3
  replace r0 := keep_cell hv_ r0
  replace r1 := keep_cell hv_ r1
  replace r2 := keep_cell hv_ r2
  replace r3 := keep_cell hv_ r3
  replace a0 := keep_cell hv_ a0
  replace a1 := keep_cell hv_ a1
  replace a2 := keep_cell hv_ a2
  replace a3 := keep_cell hv_ a3
  replace HB := HB.trans (hv_.mono HB.size)
  clear hv_
  have lt_g0 := cell_lt g0
  go_wp2_with fail
  refine (H2a.out _ HB).mono ?_
  rintro e w5 ⟨Ri, ci_, Qi, di_, rfl, im, in_, hi⟩
  have hv_ : Below u4.heap.size u4 w5 := Below.trans (b := _) (by repeat (first | assumption | exact Below.refl _ _ | refine Below.alloc ?_ (by simp; try omega) _ | refine Below.drew ?_ | refine below_drewN ?_ _)) (hi.mono (by simp; try omega))
  replace am := am.below hv_
  replace an_ := an_.below hv_
  replace gm := gm.below hv_
  replace gn_ := gn_.below hv_
  replace q0 := keep_cell hv_ q0
  replace q1 := keep_cell hv_ q1
  replace q2 := keep_cell hv_ q2
  replace q3 := keep_cell hv_ q3
  replace r0 := keep_cell hv_ r0
  replace r1 := keep_cell hv_ r1
  replace r2 := keep_cell hv_ r2
  replace r3 := keep_cell hv_ r3
  replace a0 := keep_cell hv_ a0
  replace a1 := keep_cell hv_ a1
  replace a2 := keep_cell hv_ a2
  replace a3 := keep_cell hv_ a3
  replace g0 := keep_cell hv_ g0
  replace g1 := keep_cell hv_ g1
  replace g2 := keep_cell hv_ g2
  replace g3 := keep_cell hv_ g3
  have lt_q0 := cell_lt q0
  have lt_q1 := cell_lt q1
  have lt_q2 := cell_lt q2
  have lt_q3 := cell_lt q3
  have lt_r0 := cell_lt r0
  have lt_r1 := cell_lt r1
  have lt_r2 := cell_lt r2
  have lt_r3 := cell_lt r3
  have lt_a0 := cell_lt a0
  have lt_a1 := cell_lt a1
  have lt_a2 := cell_lt a2
  have lt_a3 := cell_lt a3
  have lt_g0 := cell_lt g0
  have lt_g1 := cell_lt g1
  have lt_g2 := cell_lt g2
  have lt_g3 := cell_lt g3
  replace HB := HB.trans (hv_.mono HB.size)
  clear hv_
  go_upto_region 6 with fail
  have i0 := at_allocF0 (W := w5) (a := .bool b2) (b := .slice Ri k2 ci_) (c := .bool false) (d := .slice Qi l2 di_) (t := 26) rfl
  have i1 := at_allocF1 (W := w5) (a := .bool b2) (b := .slice Ri k2 ci_) (c := .bool false) (d := .slice Qi l2 di_) (t := 26) rfl
  have i2 := at_allocF2 (W := w5) (a := .bool b2) (b := .slice Ri k2 ci_) (c := .bool false) (d := .slice Qi l2 di_) (t := 26) rfl
  have i3 := at_allocF3 (W := w5) (a := .bool b2) (b := .slice Ri k2 ci_) (c := .bool false) (d := .slice Qi l2 di_) (t := 26) rfl
  have hv_ : Below w5.heap.size w5 (w5.alloc (.cells #[.bool b2, .slice Ri k2 ci_, .bool false, .slice Qi l2 di_] 26)) := (Below.refl _ _).alloc (Nat.le_refl _) _
  generalize w5.alloc (.cells #[.bool b2, .slice Ri k2 ci_, .bool false, .slice Qi l2 di_] 26) = u5 at *
  replace im := im.below hv_
  replace in_ := in_.below hv_
  replace am := am.below hv_
  replace an_ := an_.below hv_
  replace gm := gm.below hv_
  replace gn_ := gn_.below hv_
  replace q0 := keep_cell hv_ q0
  replace q1 := keep_cell hv_ q1
  replace q2 := keep_cell hv_ q2
  replace q3 := keep_cell hv_ q3
  replace r0 := keep_cell hv_ r0
  replace r1 := keep_cell hv_ r1
  replace r2 := keep_cell hv_ r2
  replace r3 := keep_cell hv_ r3
  replace a0 := keep_cell hv_ a0
  replace a1 := keep_cell hv_ a1
  replace a2 := keep_cell hv_ a2
  replace a3 := keep_cell hv_ a3
  replace g0 := keep_cell hv_ g0
  replace g1 := keep_cell hv_ g1
  replace g2 := keep_cell hv_ g2
  replace g3 := keep_cell hv_ g3
  replace HB := HB.trans (hv_.mono HB.size)
  clear hv_
  have lt_i0 := cell_lt i0
  go_wp2_with fail
  refine (H2b.out _ HB).mono ?_
  rintro e w6 ⟨Rj, cj_, Qj, dj_, rfl, jm, jn_, hj⟩
  have hv_ : Below u5.heap.size u5 w6 := Below.trans (b := _) (by repeat (first | assumption | exact Below.refl _ _ | refine Below.alloc ?_ (by simp; try omega) _ | refine Below.drew ?_ | refine below_drewN ?_ _)) (hj.mono (by simp; try omega))
  replace am := am.below hv_
  replace an_ := an_.below hv_
  replace gm := gm.below hv_
  replace gn_ := gn_.below hv_
  replace im := im.below hv_
  replace in_ := in_.below hv_
  replace q0 := keep_cell hv_ q0
  replace q1 := keep_cell hv_ q1
  replace q2 := keep_cell hv_ q2
  replace q3 := keep_cell hv_ q3
  replace r0 := keep_cell hv_ r0
  replace r1 := keep_cell hv_ r1
  replace r2 := keep_cell hv_ r2
  replace r3 := keep_cell hv_ r3
  replace a0 := keep_cell hv_ a0
  replace a1 := keep_cell hv_ a1
  replace a2 := keep_cell hv_ a2
  replace a3 := keep_cell hv_ a3
  replace g0 := keep_cell hv_ g0
  replace g1 := keep_cell hv_ g1
  replace g2 := keep_cell hv_ g2
  replace g3 := keep_cell hv_ g3
  replace i0 := keep_cell hv_ i0
  replace i1 := keep_cell hv_ i1
  replace i2 := keep_cell hv_ i2
  replace i3 := keep_cell hv_ i3
  have lt_q0 := cell_lt q0
  have lt_q1 := cell_lt q1
  have lt_q2 := cell_lt q2
  have lt_q3 := cell_lt q3
  have lt_r0 := cell_lt r0
  have lt_r1 := cell_lt r1
  have lt_r2 := cell_lt r2
  have lt_r3 := cell_lt r3
  have lt_a0 := cell_lt a0
  have lt_a1 := cell_lt a1
  have lt_a2 := cell_lt a2
  have lt_a3 := cell_lt a3
  have lt_g0 := cell_lt g0
  have lt_g1 := cell_lt g1
  have lt_g2 := cell_lt g2
  have lt_g3 := cell_lt g3
  have lt_i0 := cell_lt i0
  have lt_i1 := cell_lt i1
  have lt_i2 := cell_lt i2
  have lt_i3 := cell_lt i3
  replace HB := HB.trans (hv_.mono HB.size)
  clear hv_
  go_upto_region 7 with fail
  have j0 := at_allocF0 (W := w6) (a := .bool b2) (b := .slice Rj k2 cj_) (c := .bool false) (d := .slice Qj l2 dj_) (t := 26) rfl
  have j1 := at_allocF1 (W := w6) (a := .bool b2) (b := .slice Rj k2 cj_) (c := .bool false) (d := .slice Qj l2 dj_) (t := 26) rfl
  have j2 := at_allocF2 (W := w6) (a := .bool b2) (b := .slice Rj k2 cj_) (c := .bool false) (d := .slice Qj l2 dj_) (t := 26) rfl
  have j3 := at_allocF3 (W := w6) (a := .bool b2) (b := .slice Rj k2 cj_) (c := .bool false) (d := .slice Qj l2 dj_) (t := 26) rfl
  have hv_ : Below w6.heap.size w6 (w6.alloc (.cells #[.bool b2, .slice Rj k2 cj_, .bool false, .slice Qj l2 dj_] 26)) := (Below.refl _ _).alloc (Nat.le_refl _) _
  generalize w6.alloc (.cells #[.bool b2, .slice Rj k2 cj_, .bool false, .slice Qj l2 dj_] 26) = u6 at *
  replace jm := jm.below hv_
  replace jn_ := jn_.below hv_
  replace am := am.below hv_
  replace an_ := an_.below hv_
  replace gm := gm.below hv_
  replace gn_ := gn_.below hv_
  replace im := im.below hv_
  replace in_ := in_.below hv_
  replace q0 := keep_cell hv_ q0
  replace q1 := keep_cell hv_ q1
  replace q2 := keep_cell hv_ q2
  replace q3 := keep_cell hv_ q3
  replace r0 := keep_cell hv_ r0
  replace r1 := keep_cell hv_ r1
  replace r2 := keep_cell hv_ r2
  replace r3 := keep_cell hv_ r3
  replace a0 := keep_cell hv_ a0
  replace a1 := keep_cell hv_ a1
  replace a2 := keep_cell hv_ a2
  replace a3 := keep_cell hv_ a3
  replace g0 := keep_cell hv_ g0
  replace g1 := keep_cell hv_ g1
  replace g2 := keep_cell hv_ g2
  replace g3 := keep_cell hv_ g3
  replace i0 := keep_cell hv_ i0
  replace i1 := keep_cell hv_ i1
  replace i2 := keep_cell hv_ i2
  replace i3 := keep_cell hv_ i3
  replace HB := HB.trans (hv_.mono HB.size)
  clear hv_
  have lt_j0 := cell_lt j0
  have lt_a0 := cell_lt a0
  have lt_g0 := cell_lt g0
  have lt_i0 := cell_lt i0
  go_wp2_with fail
  refine (HL1.out _ _ _ _ _ _ _ _ _ am an_ gm gn_).mono ?_
  rintro e w7 ⟨rfl, hl_⟩
  have hv_ : Below u6.heap.size u6 w7 := Below.trans (b := _) (by repeat (first | assumption | exact Below.refl _ _ | refine Below.alloc ?_ (by simp; try omega) _ | refine Below.drew ?_ | refine below_drewN ?_ _)) (hl_.mono (by simp; try omega))
  replace im := im.below hv_
  replace in_ := in_.below hv_
  replace jm := jm.below hv_
  replace jn_ := jn_.below hv_
  replace i0 := keep_cell hv_ i0
  replace i1 := keep_cell hv_ i1
  replace i2 := keep_cell hv_ i2
  replace i3 := keep_cell hv_ i3
  replace j0 := keep_cell hv_ j0
  replace j1 := keep_cell hv_ j1
  replace j2 := keep_cell hv_ j2
  replace j3 := keep_cell hv_ j3
  have lt_i0 := cell_lt i0
  have lt_i1 := cell_lt i1
  have lt_i2 := cell_lt i2
  have lt_i3 := cell_lt i3
  have lt_j0 := cell_lt j0
  have lt_j1 := cell_lt j1
  have lt_j2 := cell_lt j2
  have lt_j3 := cell_lt j3
  replace HB := HB.trans (hv_.mono HB.size)
  clear hv_
  go_wp2_with fail
  refine (HL2.out _ _ _ _ _ _ _ _ _ im in_ jm jn_).mono ?_
  rintro e w8 ⟨rfl, hl_⟩
  have hv_ : Below w7.heap.size w7 w8 := Below.trans (b := _) (by repeat (first | assumption | exact Below.refl _ _ | refine Below.alloc ?_ (by simp; try omega) _ | refine Below.drew ?_ | refine below_drewN ?_ _)) (hl_.mono (by simp; try omega))
  replace HB := HB.trans (hv_.mono HB.size)
  clear hv_
  go_wp2_with fail
  refine (HE.out _ HB).mono ?_
  rintro e we ⟨rfl, hwe⟩
  go_wp2
  go_ret
  exact ⟨rfl, bel_step HB hwe⟩
set_option maxRecDepth 100000 in
set_option maxHeartbeats 4000000 in
theorem FractionProducts_law {na nb nc nd : Bool} {xs ys us vs : List Nat} {A B C D : Option Addr} {ca cb cc cd : Nat} {w : World} (ma : Mg w A ca xs) (mb : Mg w B cb ys) (mc : Mg w C cc us) (md : Mg w D cd vs) (htab : PowTab w) (hlen : LenAt w) :
    Calls Tryz.prog 4 #[.agg #[.bool na, .slice A xs.length ca, .bool nb, .slice B ys.length cb], .agg #[.bool nc, .slice C us.length cc, .bool nd, .slice D vs.length cd]] w (RetB w true) := by
  have HE := hid fun (w1 : World) (h : Below w.heap.size w w1) => Lex_ok w1 (htab.below h) (hlen.below h)
  obtain ⟨t1, ht1⟩ : ∃ t, (decide (xs.length ≤ 8) && decide (ys.length ≤ 8)) = t := ⟨_, rfl⟩
  obtain ⟨t2, ht2⟩ : ∃ t, (decide (us.length ≤ 8) && decide (vs.length ≤ 8)) = t := ⟨_, rfl⟩
  have HS1 := hid fun (w1 : World) => Lsmall_g (na := na) (nb := nb) (A := A) (B := B) (ca := ca) (cb := cb) (w := w1) t1 ht1
  have HS2 := hid fun (w1 : World) => Lsmall_g (na := nc) (nb := nd) (A := C) (B := D) (ca := cc) (cb := cd) (w := w1) t2 ht2
  cases t1
  · clear ma mb mc md ht1 ht2 HS2
    generalize xs.length = ka at *
    generalize ys.length = la at *
    generalize us.length = kb at *
    generalize vs.length = lb at *
    go_enter Tryz.func4, Tryz.ntmps4
    go_wp2_with fail
    refine enterFF (P := fun u => Calls _ _ _ u _) ?_
    intro u HB q0 q1 q2 q3 r0 r1 r2 r3 z1 z2 hsz
    clear hsz
    have f_z1 := z1.fr
    have f_z2 := z2.fr
    have lt_q0 := cell_lt q0
    have lt_r0 := cell_lt r0
    refine (HS1.out _).mono ?_
    rintro e w1 ⟨rfl, h1⟩
    have hv_ : Below u.heap.size u w1 := Below.trans (b := _) (by repeat (first | assumption | exact Below.refl _ _ | refine Below.alloc ?_ (by simp; try omega) _ | refine Below.drew ?_ | refine below_drewN ?_ _)) (h1.mono (by simp; try omega))
    replace HB := HB.trans (hv_.mono HB.size)
    clear hv_
    go_wp2_with fail
    refine (HE.out _ HB).mono ?_
    rintro e we ⟨rfl, hwe⟩
    go_wp2
    go_ret
    exact ⟨rfl, bel_step HB hwe⟩
  cases t2
  · clear ma mb mc md ht1 ht2
    generalize xs.length = ka at *
    generalize ys.length = la at *
    generalize us.length = kb at *
    generalize vs.length = lb at *
    go_enter Tryz.func4, Tryz.ntmps4
    go_wp2_with fail
    refine enterFF (P := fun u => Calls _ _ _ u _) ?_
    intro u HB q0 q1 q2 q3 r0 r1 r2 r3 z1 z2 hsz
    clear hsz
    have f_z1 := z1.fr
    have f_z2 := z2.fr
    have lt_q0 := cell_lt q0
    have lt_r0 := cell_lt r0
    refine (HS1.out _).mono ?_
    rintro e w1 ⟨rfl, h1⟩
    have hv_ : Below u.heap.size u w1 := Below.trans (b := _) (by repeat (first | assumption | exact Below.refl _ _ | refine Below.alloc ?_ (by simp; try omega) _ | refine Below.drew ?_ | refine below_drewN ?_ _)) (h1.mono (by simp; try omega))
    replace r0 := keep_cell hv_ r0
    replace r1 := keep_cell hv_ r1
    replace r2 := keep_cell hv_ r2
    replace r3 := keep_cell hv_ r3
    have lt_r0 := cell_lt r0
    have lt_r1 := cell_lt r1
    have lt_r2 := cell_lt r2
    have lt_r3 := cell_lt r3
    replace HB := HB.trans (hv_.mono HB.size)
    clear hv_
    go_wp2_with fail
    refine (HS2.out _).mono ?_
    rintro e w2 ⟨rfl, h2⟩
    have hv_ : Below w1.heap.size w1 w2 := Below.trans (b := _) (by repeat (first | assumption | exact Below.refl _ _ | refine Below.alloc ?_ (by simp; try omega) _ | refine Below.drew ?_ | refine below_drewN ?_ _)) (h2.mono (by simp; try omega))
    replace HB := HB.trans (hv_.mono HB.size)
    clear hv_
    go_wp2_with fail
    refine (HE.out _ HB).mono ?_
    rintro e we ⟨rfl, hwe⟩
    go_wp2
    go_ret
    exact ⟨rfl, bel_step HB hwe⟩
  obtain ⟨⟨p1, err1⟩, hq1⟩ : ∃ q, opR mulE na xs nb ys nc us nd vs = q := ⟨_, rfl⟩
  obtain ⟨b1, k1, X1, l1, Y1, I1⟩ := fz p1
  have H1a := hid fun (w1 : World) (h : Below w.heap.size w w1) => (FrMul_any (na := na) (nb := nb) (nc := nc) (nd := nd) (w := w1) (ma.below h) (mb.below h) (mc.below h) (md.below h)).mono fun e w' h => by
    rw [hq1] at h; exact RetFE.g h I1.out
  have H1b := hid fun (w1 : World) (h : Below w.heap.size w w1) => (QMul_any (na := na) (nb := nb) (nc := nc) (nd := nd) (w := w1) (ma.below h) (mb.below h) (mc.below h) (md.below h)).mono fun e w' h => by
    rw [hq1] at h; exact RetFE.g h I1.out
  have HL1 := hid fun (w1 : World) (R Q R' Q' : Option Addr) (c d c' d' : Nat) (m1 : Mg w1 R c X1) (m2 : Mg w1 Q d Y1) (m3 : Mg w1 R' c' X1) (m4 : Mg w1 Q' d' Y1) => Llike_g (w := w1) (err := err1) I1.out m1 m2 m3 m4
  clear hq1 I1
  obtain ⟨⟨p2, err2⟩, hq2⟩ : ∃ q, opR divE na xs nb ys nc us nd vs = q := ⟨_, rfl⟩
  obtain ⟨b2, k2, X2, l2, Y2, I2⟩ := fz p2
  have H2a := hid fun (w1 : World) (h : Below w.heap.size w w1) => (FrDiv_any (na := na) (nb := nb) (nc := nc) (nd := nd) (w := w1) (ma.below h) (mb.below h) (mc.below h) (md.below h)).mono fun e w' h => by
    rw [hq2] at h; exact RetFE.g h I2.out
  have H2b := hid fun (w1 : World) (h : Below w.heap.size w w1) => (QDiv_any (na := na) (nb := nb) (nc := nc) (nd := nd) (w := w1) (ma.below h) (mb.below h) (mc.below h) (md.below h)).mono fun e w' h => by
    rw [hq2] at h; exact RetFE.g h I2.out
  have HL2 := hid fun (w1 : World) (R Q R' Q' : Option Addr) (c d c' d' : Nat) (m1 : Mg w1 R c X2) (m2 : Mg w1 Q d Y2) (m3 : Mg w1 R' c' X2) (m4 : Mg w1 Q' d' Y2) => Llike_g (w := w1) (err := err2) I2.out m1 m2 m3 m4
  clear hq2 I2
  clear ma mb mc md ht1 ht2
  generalize xs.length = ka at *
  generalize ys.length = la at *
  generalize us.length = kb at *
  generalize vs.length = lb at *
  go_enter Tryz.func4, Tryz.ntmps4
  go_wp2_with fail
  refine enterFF (P := fun u => Calls _ _ _ u _) ?_
  intro u HB q0 q1 q2 q3 r0 r1 r2 r3 z1 z2 hsz
  clear hsz
  have f_z1 := z1.fr
  have f_z2 := z2.fr
  have lt_q0 := cell_lt q0
  have lt_r0 := cell_lt r0
  refine (HS1.out _).mono ?_
  rintro e w1 ⟨rfl, h1⟩
  have hv_ : Below u.heap.size u w1 := Below.trans (b := _) (by repeat (first | assumption | exact Below.refl _ _ | refine Below.alloc ?_ (by simp; try omega) _ | refine Below.drew ?_ | refine below_drewN ?_ _)) (h1.mono (by simp; try omega))
  replace q0 := keep_cell hv_ q0
  replace q1 := keep_cell hv_ q1
  replace q2 := keep_cell hv_ q2
  replace q3 := keep_cell hv_ q3
  replace r0 := keep_cell hv_ r0
  replace r1 := keep_cell hv_ r1
  replace r2 := keep_cell hv_ r2
  replace r3 := keep_cell hv_ r3
  have lt_q0 := cell_lt q0
  have lt_q1 := cell_lt q1
  have lt_q2 := cell_lt q2
  have lt_q3 := cell_lt q3
  have lt_r0 := cell_lt r0
  have lt_r1 := cell_lt r1
  have lt_r2 := cell_lt r2
  have lt_r3 := cell_lt r3
  replace HB := HB.trans (hv_.mono HB.size)
  clear hv_
  go_wp2_with fail
  refine (HS2.out _).mono ?_
  rintro e w2 ⟨rfl, h2⟩
  have hv_ : Below w1.heap.size w1 w2 := Below.trans (b := _) (by repeat (first | assumption | exact Below.refl _ _ | refine Below.alloc ?_ (by simp; try omega) _ | refine Below.drew ?_ | refine below_drewN ?_ _)) (h2.mono (by simp; try omega))
  replace q0 := keep_cell hv_ q0
  replace q1 := keep_cell hv_ q1
  replace q2 := keep_cell hv_ q2
  replace q3 := keep_cell hv_ q3
  replace r0 := keep_cell hv_ r0
  replace r1 := keep_cell hv_ r1
  replace r2 := keep_cell hv_ r2
  replace r3 := keep_cell hv_ r3
  have lt_q0 := cell_lt q0
  have lt_q1 := cell_lt q1
  have lt_q2 := cell_lt q2
  have lt_q3 := cell_lt q3
  have lt_r0 := cell_lt r0
  have lt_r1 := cell_lt r1
  have lt_r2 := cell_lt r2
  have lt_r3 := cell_lt r3
  replace HB := HB.trans (hv_.mono HB.size)
  clear hv_
  go_wp2_with fail
  refine (H1a.out _ HB).mono ?_
  rintro e w3 ⟨Ra, ca_, Qa, da_, rfl, am, an_, ha⟩
  have hv_ : Below w2.heap.size w2 w3 := Below.trans (b := _) (by repeat (first | assumption | exact Below.refl _ _ | refine Below.alloc ?_ (by simp; try omega) _ | refine Below.drew ?_ | refine below_drewN ?_ _)) (ha.mono (by simp; try omega))
  replace q0 := keep_cell hv_ q0
  replace q1 := keep_cell hv_ q1
  replace q2 := keep_cell hv_ q2
  replace q3 := keep_cell hv_ q3
  replace r0 := keep_cell hv_ r0
  replace r1 := keep_cell hv_ r1
  replace r2 := keep_cell hv_ r2
  replace r3 := keep_cell hv_ r3
  have lt_q0 := cell_lt q0
  have lt_q1 := cell_lt q1
  have lt_q2 := cell_lt q2
  have lt_q3 := cell_lt q3
  have lt_r0 := cell_lt r0
  have lt_r1 := cell_lt r1
  have lt_r2 := cell_lt r2
  have lt_r3 := cell_lt r3
  replace HB := HB.trans (hv_.mono HB.size)
  clear hv_
  go_upto_region 4 with fail
  have a0 := at_allocF0 (W := w3) (a := .bool b1) (b := .slice Ra k1 ca_) (c := .bool false) (d := .slice Qa l1 da_) (t := 26) rfl
  have a1 := at_allocF1 (W := w3) (a := .bool b1) (b := .slice Ra k1 ca_) (c := .bool false) (d := .slice Qa l1 da_) (t := 26) rfl
  have a2 := at_allocF2 (W := w3) (a := .bool b1) (b := .slice Ra k1 ca_) (c := .bool false) (d := .slice Qa l1 da_) (t := 26) rfl
  have a3 := at_allocF3 (W := w3) (a := .bool b1) (b := .slice Ra k1 ca_) (c := .bool false) (d := .slice Qa l1 da_) (t := 26) rfl
  have hv_ : Below w3.heap.size w3 (w3.alloc (.cells #[.bool b1, .slice Ra k1 ca_, .bool false, .slice Qa l1 da_] 26)) := (Below.refl _ _).alloc (Nat.le_refl _) _
  generalize w3.alloc (.cells #[.bool b1, .slice Ra k1 ca_, .bool false, .slice Qa l1 da_] 26) = u3 at *
  replace am := am.below hv_
  replace an_ := an_.below hv_
  replace q0 := keep_cell hv_ q0
  replace q1 := keep_cell hv_ q1
  replace q2 := keep_cell hv_ q2
  replace q3 := keep_cell hv_ q3
  replace r0 := keep_cell hv_ r0
  replace r1 := keep_cell hv_ r1
  replace r2 := keep_cell hv_ r2
  replace r3 := keep_cell hv_ r3
  replace HB := HB.trans (hv_.mono HB.size)
  clear hv_
  have lt_a0 := cell_lt a0
  go_wp2_with fail
  refine (H1b.out _ HB).mono ?_
  rintro e w4 ⟨Rg, cg_, Qg, dg_, rfl, gm, gn_, hg⟩
  have hv_ : Below u3.heap.size u3 w4 := Below.trans (b := _) (by repeat (first | assumption | exact Below.refl _ _ | refine Below.alloc ?_ (by simp; try omega) _ | refine Below.drew ?_ | refine below_drewN ?_ _)) (hg.mono (by simp; try omega))
  replace am := am.below hv_
  replace an_ := an_.below hv_
  replace q0 := keep_cell hv_ q0
  replace q1 := keep_cell hv_ q1
  replace q2 := keep_cell hv_ q2
  replace q3 := keep_cell hv_ q3
  replace r0 := keep_cell hv_ r0
  replace r1 := keep_cell hv_ r1
  replace r2 := keep_cell hv_ r2
  replace r3 := keep_cell hv_ r3
  replace a0 := keep_cell hv_ a0
  replace a1 := keep_cell hv_ a1
  replace a2 := keep_cell hv_ a2
  replace a3 := keep_cell hv_ a3
  have lt_q0 := cell_lt q0
  have lt_q1 := cell_lt q1
  have lt_q2 := cell_lt q2
  have lt_q3 := cell_lt q3
  have lt_r0 := cell_lt r0
  have lt_r1 := cell_lt r1
  have lt_r2 := cell_lt r2
  have lt_r3 := cell_lt r3
  have lt_a0 := cell_lt a0
  have lt_a1 := cell_lt a1
  have lt_a2 := cell_lt a2
  have lt_a3 := cell_lt a3
  replace HB := HB.trans (hv_.mono HB.size)
  clear hv_
  go_upto_region 5 with fail
  have g0 := at_allocF0 (W := w4) (a := .bool b1) (b := .slice Rg k1 cg_) (c := .bool false) (d := .slice Qg l1 dg_) (t := 26) rfl
  have g1 := at_allocF1 (W := w4) (a := .bool b1) (b := .slice Rg k1 cg_) (c := .bool false) (d := .slice Qg l1 dg_) (t := 26) rfl
  have g2 := at_allocF2 (W := w4) (a := .bool b1) (b := .slice Rg k1 cg_) (c := .bool false) (d := .slice Qg l1 dg_) (t := 26) rfl
  have g3 := at_allocF3 (W := w4) (a := .bool b1) (b := .slice Rg k1 cg_) (c := .bool false) (d := .slice Qg l1 dg_) (t := 26) rfl
  have hv_ : Below w4.heap.size w4 (w4.alloc (.cells #[.bool b1, .slice Rg k1 cg_, .bool false, .slice Qg l1 dg_] 26)) := (Below.refl _ _).alloc (Nat.le_refl _) _
  generalize w4.alloc (.cells #[.bool b1, .slice Rg k1 cg_, .bool false, .slice Qg l1 dg_] 26) = u4 at *
  replace gm := gm.below hv_
  replace gn_ := gn_.below hv_
  replace am := am.below hv_
  replace an_ := an_.below hv_
  replace q0 := keep_cell hv_ q0
  replace q1 := keep_cell hv_ q1
  replace q2 := keep_cell hv_ q2
  replace q3 := keep_cell hv_ q3
  replace r0 := keep_cell hv_ r0
  replace r1 := keep_cell hv_ r1
  replace r2 := keep_cell hv_ r2
  replace r3 := keep_cell hv_ r3
  replace a0 := keep_cell hv_ a0
  replace a1 := keep_cell hv_ a1
  replace a2 := keep_cell hv_ a2
  replace a3 := keep_cell hv_ a3
  replace HB := HB.trans (hv_.mono HB.size)
  clear hv_
  have lt_g0 := cell_lt g0
  go_wp2_with fail
  refine (H2a.out _ HB).mono ?_
  rintro e w5 ⟨Ri, ci_, Qi, di_, rfl, im, in_, hi⟩
  have hv_ : Below u4.heap.size u4 w5 := Below.trans (b := _) (by repeat (first | assumption | exact Below.refl _ _ | refine Below.alloc ?_ (by simp; try omega) _ | refine Below.drew ?_ | refine below_drewN ?_ _)) (hi.mono (by simp; try omega))
  replace am := am.below hv_
  replace an_ := an_.below hv_
  replace gm := gm.below hv_
  replace gn_ := gn_.below hv_
  replace q0 := keep_cell hv_ q0
  replace q1 := keep_cell hv_ q1
  replace q2 := keep_cell hv_ q2
  replace q3 := keep_cell hv_ q3
  replace r0 := keep_cell hv_ r0
  replace r1 := keep_cell hv_ r1
  replace r2 := keep_cell hv_ r2
  replace r3 := keep_cell hv_ r3
  replace a0 := keep_cell hv_ a0
  replace a1 := keep_cell hv_ a1
  replace a2 := keep_cell hv_ a2
  replace a3 := keep_cell hv_ a3
  replace g0 := keep_cell hv_ g0
  replace g1 := keep_cell hv_ g1
  replace g2 := keep_cell hv_ g2
  replace g3 := keep_cell hv_ g3
  have lt_q0 := cell_lt q0
  have lt_q1 := cell_lt q1
  have lt_q2 := cell_lt q2
  have lt_q3 := cell_lt q3
  have lt_r0 := cell_lt r0
  have lt_r1 := cell_lt r1
  have lt_r2 := cell_lt r2
  have lt_r3 := cell_lt r3
  have lt_a0 := cell_lt a0
  have lt_a1 := cell_lt a1
  have lt_a2 := cell_lt a2
  have lt_a3 := cell_lt a3
  have lt_g0 := cell_lt g0
  have lt_g1 := cell_lt g1
  have lt_g2 := cell_lt g2
  have lt_g3 := cell_lt g3
  replace HB := HB.trans (hv_.mono HB.size)
  clear hv_
  go_upto_region 6 with fail
  have i0 := at_allocF0 (W := w5) (a := .bool b2) (b := .slice Ri k2 ci_) (c := .bool false) (d := .slice Qi l2 di_) (t := 26) rfl
  have i1 := at_allocF1 (W := w5) (a := .bool b2) (b := .slice Ri k2 ci_) (c := .bool false) (d := .slice Qi l2 di_) (t := 26) rfl
  have i2 := at_allocF2 (W := w5) (a := .bool b2) (b := .slice Ri k2 ci_) (c := .bool false) (d := .slice Qi l2 di_) (t := 26) rfl
  have i3 := at_allocF3 (W := w5) (a := .bool b2) (b := .slice Ri k2 ci_) (c := .bool false) (d := .slice Qi l2 di_) (t := 26) rfl
  have hv_ : Below w5.heap.size w5 (w5.alloc (.cells #[.bool b2, .slice Ri k2 ci_, .bool false, .slice Qi l2 di_] 26)) := (Below.refl _ _).alloc (Nat.le_refl _) _
  generalize w5.alloc (.cells #[.bool b2, .slice Ri k2 ci_, .bool false, .slice Qi l2 di_] 26) = u5 at *
  replace im := im.below hv_
  replace in_ := in_.below hv_
  replace am := am.below hv_
  replace an_ := an_.below hv_
  replace gm := gm.below hv_
  replace gn_ := gn_.below hv_
  replace q0 := keep_cell hv_ q0
  replace q1 := keep_cell hv_ q1
  replace q2 := keep_cell hv_ q2
  replace q3 := keep_cell hv_ q3
  replace r0 := keep_cell hv_ r0
  replace r1 := keep_cell hv_ r1
  replace r2 := keep_cell hv_ r2
  replace r3 := keep_cell hv_ r3
  replace a0 := keep_cell hv_ a0
  replace a1 := keep_cell hv_ a1
  replace a2 := keep_cell hv_ a2
  replace a3 := keep_cell hv_ a3
  replace g0 := keep_cell hv_ g0
  replace g1 := keep_cell hv_ g1
  replace g2 := keep_cell hv_ g2
  replace g3 := keep_cell hv_ g3
  replace HB := HB.trans (hv_.mono HB.size)
  clear hv_
  have lt_i0 := cell_lt i0
  go_wp2_with fail
  refine (H2b.out _ HB).mono ?_
  rintro e w6 ⟨Rj, cj_, Qj, dj_, rfl, jm, jn_, hj⟩
  have hv_ : Below u5.heap.size u5 w6 := Below.trans (b := _) (by repeat (first | assumption | exact Below.refl _ _ | refine Below.alloc ?_ (by simp; try omega) _ | refine Below.drew ?_ | refine below_drewN ?_ _)) (hj.mono (by simp; try omega))
  replace am := am.below hv_
  replace an_ := an_.below hv_
  replace gm := gm.below hv_
  replace gn_ := gn_.below hv_
  replace im := im.below hv_
  replace in_ := in_.below hv_
  replace q0 := keep_cell hv_ q0
  replace q1 := keep_cell hv_ q1
  replace q2 := keep_cell hv_ q2
  replace q3 := keep_cell hv_ q3
  replace r0 := keep_cell hv_ r0
  replace r1 := keep_cell hv_ r1
  replace r2 := keep_cell hv_ r2
  replace r3 := keep_cell hv_ r3
  replace a0 := keep_cell hv_ a0
  replace a1 := keep_cell hv_ a1
  replace a2 := keep_cell hv_ a2
  replace a3 := keep_cell hv_ a3
  replace g0 := keep_cell hv_ g0
  replace g1 := keep_cell hv_ g1
  replace g2 := keep_cell hv_ g2
  replace g3 := keep_cell hv_ g3
  replace i0 := keep_cell hv_ i0
  replace i1 := keep_cell hv_ i1
  replace i2 := keep_cell hv_ i2
  replace i3 := keep_cell hv_ i3
  have lt_q0 := cell_lt q0
  have lt_q1 := cell_lt q1
  have lt_q2 := cell_lt q2
  have lt_q3 := cell_lt q3
  have lt_r0 := cell_lt r0
  have lt_r1 := cell_lt r1
  have lt_r2 := cell_lt r2
  have lt_r3 := cell_lt r3
  have lt_a0 := cell_lt a0
  have lt_a1 := cell_lt a1
  have lt_a2 := cell_lt a2
  have lt_a3 := cell_lt a3
  have lt_g0 := cell_lt g0
  have lt_g1 := cell_lt g1
  have lt_g2 := cell_lt g2
  have lt_g3 := cell_lt g3
  have lt_i0 := cell_lt i0
  have lt_i1 := cell_lt i1
  have lt_i2 := cell_lt i2
  have lt_i3 := cell_lt i3
  replace HB := HB.trans (hv_.mono HB.size)
  clear hv_
  go_upto_region 7 with fail
  have j0 := at_allocF0 (W := w6) (a := .bool b2) (b := .slice Rj k2 cj_) (c := .bool false) (d := .slice Qj l2 dj_) (t := 26) rfl
  have j1 := at_allocF1 (W := w6) (a := .bool b2) (b := .slice Rj k2 cj_) (c := .bool false) (d := .slice Qj l2 dj_) (t := 26) rfl
  have j2 := at_allocF2 (W := w6) (a := .bool b2) (b := .slice Rj k2 cj_) (c := .bool false) (d := .slice Qj l2 dj_) (t := 26) rfl
  have j3 := at_allocF3 (W := w6) (a := .bool b2) (b := .slice Rj k2 cj_) (c := .bool false) (d := .slice Qj l2 dj_) (t := 26) rfl
  have hv_ : Below w6.heap.size w6 (w6.alloc (.cells #[.bool b2, .slice Rj k2 cj_, .bool false, .slice Qj l2 dj_] 26)) := (Below.refl _ _).alloc (Nat.le_refl _) _
  generalize w6.alloc (.cells #[.bool b2, .slice Rj k2 cj_, .bool false, .slice Qj l2 dj_] 26) = u6 at *
  replace jm := jm.below hv_
  replace jn_ := jn_.below hv_
  replace am := am.below hv_
  replace an_ := an_.below hv_
  replace gm := gm.below hv_
  replace gn_ := gn_.below hv_
  replace im := im.below hv_
  replace in_ := in_.below hv_
  replace q0 := keep_cell hv_ q0
  replace q1 := keep_cell hv_ q1
  replace q2 := keep_cell hv_ q2
  replace q3 := keep_cell hv_ q3
  replace r0 := keep_cell hv_ r0
  replace r1 := keep_cell hv_ r1
  replace r2 := keep_cell hv_ r2
  replace r3 := keep_cell hv_ r3
  replace a0 := keep_cell hv_ a0
  replace a1 := keep_cell hv_ a1
  replace a2 := keep_cell hv_ a2
  replace a3 := keep_cell hv_ a3
  replace g0 := keep_cell hv_ g0
  replace g1 := keep_cell hv_ g1
  replace g2 := keep_cell hv_ g2
  replace g3 := keep_cell hv_ g3
  replace i0 := keep_cell hv_ i0
  replace i1 := keep_cell hv_ i1
  replace i2 := keep_cell hv_ i2
  replace i3 := keep_cell hv_ i3
  replace HB := HB.trans (hv_.mono HB.size)
  clear hv_
  have lt_j0 := cell_lt j0
  have lt_a0 := cell_lt a0
  have lt_g0 := cell_lt g0
  have lt_i0 := cell_lt i0
  go_wp2_with fail
  refine (HL1.out _ _ _ _ _ _ _ _ _ am an_ gm gn_).mono ?_
  rintro e w7 ⟨rfl, hl_⟩
  have hv_ : Below u6.heap.size u6 w7 := Below.trans (b := _) (by repeat (first | assumption | exact Below.refl _ _ | refine Below.alloc ?_ (by simp; try omega) _ | refine Below.drew ?_ | refine below_drewN ?_ _)) (hl_.mono (by simp; try omega))
  replace im := im.below hv_
  replace in_ := in_.below hv_
  replace jm := jm.below hv_
  replace jn_ := jn_.below hv_
  replace i0 := keep_cell hv_ i0
  replace i1 := keep_cell hv_ i1
  replace i2 := keep_cell hv_ i2
  replace i3 := keep_cell hv_ i3
  replace j0 := keep_cell hv_ j0
  replace j1 := keep_cell hv_ j1
  replace j2 := keep_cell hv_ j2
  replace j3 := keep_cell hv_ j3
  have lt_i0 := cell_lt i0
  have lt_i1 := cell_lt i1
  have lt_i2 := cell_lt i2
  have lt_i3 := cell_lt i3
  have lt_j0 := cell_lt j0
  have lt_j1 := cell_lt j1
  have lt_j2 := cell_lt j2
  have lt_j3 := cell_lt j3
  replace HB := HB.trans (hv_.mono HB.size)
  clear hv_
  go_wp2_with fail
  refine (HL2.out _ _ _ _ _ _ _ _ _ im in_ jm jn_).mono ?_
  rintro e w8 ⟨rfl, hl_⟩
  have hv_ : Below w7.heap.size w7 w8 := Below.trans (b := _) (by repeat (first | assumption | exact Below.refl _ _ | refine Below.alloc ?_ (by simp; try omega) _ | refine Below.drew ?_ | refine below_drewN ?_ _)) (hl_.mono (by simp; try omega))
  replace HB := HB.trans (hv_.mono HB.size)
  clear hv_
  go_wp2_with fail
  refine (HE.out _ HB).mono ?_
  rintro e we ⟨rfl, hwe⟩
  go_wp2
  go_ret
  exact ⟨rfl, bel_step HB hwe⟩
set_option maxRecDepth 100000 in
set_option maxHeartbeats 4000000 in
theorem FractionSimplest_law {na nb nc nd : Bool} {xs ys us vs : List Nat} {A B C D : Option Addr} {ca cb cc cd : Nat} {w : World} (ma : Mg w A ca xs) (mb : Mg w B cb ys) (mc : Mg w C cc us) (md : Mg w D cd vs) (htab : PowTab w) (hlen : LenAt w) :
    Calls Tryz.prog 6 #[.agg #[.bool na, .slice A xs.length ca, .bool nb, .slice B ys.length cb], .agg #[.bool nc, .slice C us.length cc, .bool nd, .slice D vs.length cd]] w (RetB w true) := by
  have HE := hid fun (w1 : World) (h : Below w.heap.size w w1) => Lex_ok w1 (htab.below h) (hlen.below h)
  obtain ⟨t1, ht1⟩ : ∃ t, (decide (xs.length ≤ 8) && decide (ys.length ≤ 8)) = t := ⟨_, rfl⟩
  obtain ⟨t2, ht2⟩ : ∃ t, (decide (us.length ≤ 8) && decide (vs.length ≤ 8)) = t := ⟨_, rfl⟩
  have HS1 := hid fun (w1 : World) => Lsmall_g (na := na) (nb := nb) (A := A) (B := B) (ca := ca) (cb := cb) (w := w1) t1 ht1
  have HS2 := hid fun (w1 : World) => Lsmall_g (na := nc) (nb := nd) (A := C) (B := D) (ca := cc) (cb := cd) (w := w1) t2 ht2
  cases t1
  · clear ma mb mc md ht1 ht2 HS2
    generalize xs.length = ka at *
    generalize ys.length = la at *
    generalize us.length = kb at *
    generalize vs.length = lb at *
    go_enter Tryz.func6, Tryz.ntmps6
    go_wp2_with fail
    refine enterFF (P := fun u => Calls _ _ _ u _) ?_
    intro u HB q0 q1 q2 q3 r0 r1 r2 r3 z1 z2 hsz
    clear hsz
    have f_z1 := z1.fr
    have f_z2 := z2.fr
    have lt_q0 := cell_lt q0
    have lt_r0 := cell_lt r0
    refine (HS1.out _).mono ?_
    rintro e w1 ⟨rfl, h1⟩
    have hv_ : Below u.heap.size u w1 := Below.trans (b := _) (by repeat (first | assumption | exact Below.refl _ _ | refine Below.alloc ?_ (by simp; try omega) _ | refine Below.drew ?_ | refine below_drewN ?_ _)) (h1.mono (by simp; try omega))
    replace HB := HB.trans (hv_.mono HB.size)
    clear hv_
    go_wp2_with fail
    refine (HE.out _ HB).mono ?_
    rintro e we ⟨rfl, hwe⟩
    go_wp2
    go_ret
    exact ⟨rfl, bel_step HB hwe⟩
  cases t2
  · clear ma mb mc md ht1 ht2
    generalize xs.length = ka at *
    generalize ys.length = la at *
    generalize us.length = kb at *
    generalize vs.length = lb at *
    go_enter Tryz.func6, Tryz.ntmps6
    go_wp2_with fail
    refine enterFF (P := fun u => Calls _ _ _ u _) ?_
    intro u HB q0 q1 q2 q3 r0 r1 r2 r3 z1 z2 hsz
    clear hsz
    have f_z1 := z1.fr
    have f_z2 := z2.fr
    have lt_q0 := cell_lt q0
    have lt_r0 := cell_lt r0
    refine (HS1.out _).mono ?_
    rintro e w1 ⟨rfl, h1⟩
    have hv_ : Below u.heap.size u w1 := Below.trans (b := _) (by repeat (first | assumption | exact Below.refl _ _ | refine Below.alloc ?_ (by simp; try omega) _ | refine Below.drew ?_ | refine below_drewN ?_ _)) (h1.mono (by simp; try omega))
    replace r0 := keep_cell hv_ r0
    replace r1 := keep_cell hv_ r1
    replace r2 := keep_cell hv_ r2
    replace r3 := keep_cell hv_ r3
    have lt_r0 := cell_lt r0
    have lt_r1 := cell_lt r1
    have lt_r2 := cell_lt r2
    have lt_r3 := cell_lt r3
    replace HB := HB.trans (hv_.mono HB.size)
    clear hv_
    go_wp2_with fail
    refine (HS2.out _).mono ?_
    rintro e w2 ⟨rfl, h2⟩
    have hv_ : Below w1.heap.size w1 w2 := Below.trans (b := _) (by repeat (first | assumption | exact Below.refl _ _ | refine Below.alloc ?_ (by simp; try omega) _ | refine Below.drew ?_ | refine below_drewN ?_ _)) (h2.mono (by simp; try omega))
    replace HB := HB.trans (hv_.mono HB.size)
    clear hv_
    go_wp2_with fail
    refine (HE.out _ HB).mono ?_
    rintro e we ⟨rfl, hwe⟩
    go_wp2
    go_ret
    exact ⟨rfl, bel_step HB hwe⟩
  obtain ⟨⟨p1, err1⟩, hq1⟩ : ∃ q, opR simE na xs nb ys nc us nd vs = q := ⟨_, rfl⟩
  obtain ⟨b1, k1, X1, l1, Y1, I1⟩ := fz p1
  have H1a := hid fun (w1 : World) (h : Below w.heap.size w w1) => (FrSimplest_any (na := na) (nb := nb) (nc := nc) (nd := nd) (w := w1) (ma.below h) (mb.below h) (mc.below h) (md.below h)).mono fun e w' h => by
    rw [hq1] at h; exact RetFE.g h I1.out
  have H1b := hid fun (w1 : World) (h : Below w.heap.size w w1) => (QSimplest_any (na := na) (nb := nb) (nc := nc) (nd := nd) (w := w1) (ma.below h) (mb.below h) (mc.below h) (md.below h)).mono fun e w' h => by
    rw [hq1] at h; exact RetFE.g h I1.out
  have HL1 := hid fun (w1 : World) (R Q R' Q' : Option Addr) (c d c' d' : Nat) (m1 : Mg w1 R c X1) (m2 : Mg w1 Q d Y1) (m3 : Mg w1 R' c' X1) (m4 : Mg w1 Q' d' Y1) => Llike_g (w := w1) (err := err1) I1.out m1 m2 m3 m4
  clear hq1 I1
  clear ma mb mc md ht1 ht2
  generalize xs.length = ka at *
  generalize ys.length = la at *
  generalize us.length = kb at *
  generalize vs.length = lb at *
  go_enter Tryz.func6, Tryz.ntmps6
  go_wp2_with fail
  refine enterFF (P := fun u => Calls _ _ _ u _) ?_
  intro u HB q0 q1 q2 q3 r0 r1 r2 r3 z1 z2 hsz
  clear hsz
  have f_z1 := z1.fr
  have f_z2 := z2.fr
  have lt_q0 := cell_lt q0
  have lt_r0 := cell_lt r0
  refine (HS1.out _).mono ?_
  rintro e w1 ⟨rfl, h1⟩
  have hv_ : Below u.heap.size u w1 := Below.trans (b := _) (by repeat (first | assumption | exact Below.refl _ _ | refine Below.alloc ?_ (by simp; try omega) _ | refine Below.drew ?_ | refine below_drewN ?_ _)) (h1.mono (by simp; try omega))
  replace q0 := keep_cell hv_ q0
  replace q1 := keep_cell hv_ q1
  replace q2 := keep_cell hv_ q2
  replace q3 := keep_cell hv_ q3
  replace r0 := keep_cell hv_ r0
  replace r1 := keep_cell hv_ r1
  replace r2 := keep_cell hv_ r2
  replace r3 := keep_cell hv_ r3
  have lt_q0 := cell_lt q0
  have lt_q1 := cell_lt q1
  have lt_q2 := cell_lt q2
  have lt_q3 := cell_lt q3
  have lt_r0 := cell_lt r0
  have lt_r1 := cell_lt r1
  have lt_r2 := cell_lt r2
  have lt_r3 := cell_lt r3
  replace HB := HB.trans (hv_.mono HB.size)
  clear hv_
  go_wp2_with fail
  refine (HS2.out _).mono ?_
  rintro e w2 ⟨rfl, h2⟩
  have hv_ : Below w1.heap.size w1 w2 := Below.trans (b := _) (by repeat (first | assumption | exact Below.refl _ _ | refine Below.alloc ?_ (by simp; try omega) _ | refine Below.drew ?_ | refine below_drewN ?_ _)) (h2.mono (by simp; try omega))
  replace q0 := keep_cell hv_ q0
  replace q1 := keep_cell hv_ q1
  replace q2 := keep_cell hv_ q2
  replace q3 := keep_cell hv_ q3
  replace r0 := keep_cell hv_ r0
  replace r1 := keep_cell hv_ r1
  replace r2 := keep_cell hv_ r2
  replace r3 := keep_cell hv_ r3
  have lt_q0 := cell_lt q0
  have lt_q1 := cell_lt q1
  have lt_q2 := cell_lt q2
  have lt_q3 := cell_lt q3
  have lt_r0 := cell_lt r0
  have lt_r1 := cell_lt r1
  have lt_r2 := cell_lt r2
  have lt_r3 := cell_lt r3
  replace HB := HB.trans (hv_.mono HB.size)
  clear hv_
  go_wp2_with fail
  refine (H1a.out _ HB).mono ?_
  rintro e w3 ⟨Ra, ca_, Qa, da_, rfl, am, an_, ha⟩
  have hv_ : Below w2.heap.size w2 w3 := Below.trans (b := _) (by repeat (first | assumption | exact Below.refl _ _ | refine Below.alloc ?_ (by simp; try omega) _ | refine Below.drew ?_ | refine below_drewN ?_ _)) (ha.mono (by simp; try omega))
  replace q0 := keep_cell hv_ q0
  replace q1 := keep_cell hv_ q1
  replace q2 := keep_cell hv_ q2
  replace q3 := keep_cell hv_ q3
  replace r0 := keep_cell hv_ r0
  replace r1 := keep_cell hv_ r1
  replace r2 := keep_cell hv_ r2
  replace r3 := keep_cell hv_ r3
  have lt_q0 := cell_lt q0
  have lt_q1 := cell_lt q1
  have lt_q2 := cell_lt q2
  have lt_q3 := cell_lt q3
  have lt_r0 := cell_lt r0
  have lt_r1 := cell_lt r1
  have lt_r2 := cell_lt r2
  have lt_r3 := cell_lt r3
  replace HB := HB.trans (hv_.mono HB.size)
  clear hv_
  go_upto_region 4 with fail
  have a0 := at_allocF0 (W := w3) (a := .bool b1) (b := .slice Ra k1 ca_) (c := .bool false) (d := .slice Qa l1 da_) (t := 26) rfl
  have a1 := at_allocF1 (W := w3) (a := .bool b1) (b := .slice Ra k1 ca_) (c := .bool false) (d := .slice Qa l1 da_) (t := 26) rfl
  have a2 := at_allocF2 (W := w3) (a := .bool b1) (b := .slice Ra k1 ca_) (c := .bool false) (d := .slice Qa l1 da_) (t := 26) rfl
  have a3 := at_allocF3 (W := w3) (a := .bool b1) (b := .slice Ra k1 ca_) (c := .bool false) (d := .slice Qa l1 da_) (t := 26) rfl
  have hv_ : Below w3.heap.size w3 (w3.alloc (.cells #[.bool b1, .slice Ra k1 ca_, .bool false, .slice Qa l1 da_] 26)) := (Below.refl _ _).alloc (Nat.le_refl _) _
  generalize w3.alloc (.cells #[.bool b1, .slice Ra k1 ca_, .bool false, .slice Qa l1 da_] 26) = u3 at *
  replace am := am.below hv_
  replace an_ := an_.below hv_
  replace q0 := keep_cell hv_ q0
  replace q1 := keep_cell hv_ q1
  replace q2 := keep_cell hv_ q2
  replace q3 := keep_cell hv_ q3
  replace r0 := keep_cell hv_ r0
  replace r1 := keep_cell hv_ r1
  replace r2 := keep_cell hv_ r2
  replace r3 := keep_cell hv_ r3
  replace HB := HB.trans (hv_.mono HB.size)
  clear hv_
  have lt_a0 := cell_lt a0
  go_wp2_with fail
  refine (H1b.out _ HB).mono ?_
  rintro e w4 ⟨Rg, cg_, Qg, dg_, rfl, gm, gn_, hg⟩
  have hv_ : Below u3.heap.size u3 w4 := Below.trans (b := _) (by repeat (first | assumption | exact Below.refl _ _ | refine Below.alloc ?_ (by simp; try omega) _ | refine Below.drew ?_ | refine below_drewN ?_ _)) (hg.mono (by simp; try omega))
  replace am := am.below hv_
  replace an_ := an_.below hv_
  replace a0 := keep_cell hv_ a0
  replace a1 := keep_cell hv_ a1
  replace a2 := keep_cell hv_ a2
  replace a3 := keep_cell hv_ a3
  have lt_a0 := cell_lt a0
  have lt_a1 := cell_lt a1
  have lt_a2 := cell_lt a2
  have lt_a3 := cell_lt a3
  replace HB := HB.trans (hv_.mono HB.size)
  clear hv_
  go_upto_region 5 with fail
  have g0 := at_allocF0 (W := w4) (a := .bool b1) (b := .slice Rg k1 cg_) (c := .bool false) (d := .slice Qg l1 dg_) (t := 26) rfl
  have g1 := at_allocF1 (W := w4) (a := .bool b1) (b := .slice Rg k1 cg_) (c := .bool false) (d := .slice Qg l1 dg_) (t := 26) rfl
  have g2 := at_allocF2 (W := w4) (a := .bool b1) (b := .slice Rg k1 cg_) (c := .bool false) (d := .slice Qg l1 dg_) (t := 26) rfl
  have g3 := at_allocF3 (W := w4) (a := .bool b1) (b := .slice Rg k1 cg_) (c := .bool false) (d := .slice Qg l1 dg_) (t := 26) rfl
  have hv_ : Below w4.heap.size w4 (w4.alloc (.cells #[.bool b1, .slice Rg k1 cg_, .bool false, .slice Qg l1 dg_] 26)) := (Below.refl _ _).alloc (Nat.le_refl _) _
  generalize w4.alloc (.cells #[.bool b1, .slice Rg k1 cg_, .bool false, .slice Qg l1 dg_] 26) = u4 at *
  replace gm := gm.below hv_
  replace gn_ := gn_.below hv_
  replace am := am.below hv_
  replace an_ := an_.below hv_
  replace a0 := keep_cell hv_ a0
  replace a1 := keep_cell hv_ a1
  replace a2 := keep_cell hv_ a2
  replace a3 := keep_cell hv_ a3
  replace HB := HB.trans (hv_.mono HB.size)
  clear hv_
  have lt_g0 := cell_lt g0
  have lt_a0 := cell_lt a0
  go_wp2_with fail
  refine (HL1.out _ _ _ _ _ _ _ _ _ am an_ gm gn_).mono ?_
  rintro e w7 ⟨rfl, hl_⟩
  have hv_ : Below u4.heap.size u4 w7 := Below.trans (b := _) (by repeat (first | assumption | exact Below.refl _ _ | refine Below.alloc ?_ (by simp; try omega) _ | refine Below.drew ?_ | refine below_drewN ?_ _)) (hl_.mono (by simp; try omega))
  replace HB := HB.trans (hv_.mono HB.size)
  clear hv_
  go_wp2_with fail
  refine (HE.out _ HB).mono ?_
  rintro e we ⟨rfl, hwe⟩
  go_wp2
  go_ret
  exact ⟨rfl, bel_step HB hwe⟩
end Go.Proofs.YtfhbigfbeppinaaGreatDoor
