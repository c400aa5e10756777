/- The laws FractionNews, FractionCompares: their walks. Conditions: none. -/
import Derived.Test.YtfhbigfbeppinaaGreatDoorZYS
import Derived.Test.YtfhbigfbeppinaaGreatDoorZQ3H
import Derived.Test.YtfhbigfbeppinaaGreatDoorZQ3I
set_option linter.unusedVariables false
set_option linter.unusedSimpArgs false
namespace Go.Proofs.YtfhbigfbeppinaaGreatDoor
open Go.RowKit Big

theorem int_range {n : Int} (h : (Lit.int .i64 n).wf = true) : -9223372036854775808 ≤ n ∧ n ≤ 9223372036854775807 := by
  simp [Lit.wf, IntKind.min, IntKind.max, IntKind.signed, IntKind.bits] at h
  omega
set_option maxRecDepth 100000 in
set_option maxHeartbeats 4000000 in
theorem FractionNews_law {na nb : Bool} {xs ys : List Nat} {A B : Option Addr} {ca cb : Nat} {w : World} (ma : Mg w A ca xs) (mb : Mg w B cb ys) (num : Int) (hn : (Lit.int .i64 num).wf = true) (den : Int) (hd : (Lit.int .i64 den).wf = true) (htab : PowTab w) (hlen : LenAt w) :
    Calls Tryz.prog 3 #[.agg #[.bool na, .slice A xs.length ca, .bool nb, .slice B ys.length cb], .int .i64 num, .int .i64 den] w (RetB w true) := by
  have HE := hid fun (w1 : World) (h : Below w.heap.size w w1) => Lex_ok w1 (htab.below h) (hlen.below h)
  obtain ⟨n1, n2⟩ := int_range hn
  obtain ⟨d1, d2⟩ := int_range hd
  obtain ⟨t1, ht1⟩ : ∃ t, (decide (xs.length ≤ 8) && decide (ys.length ≤ 8)) = t := ⟨_, rfl⟩
  have HS1 := hid fun (w1 : World) => Lsmall_g (na := na) (nb := nb) (A := A) (B := B) (ca := ca) (cb := cb) (w := w1) t1 ht1
  cases t1
  · clear ma mb ht1 hn hd n1 n2 d1 d2
    generalize xs.length = ka at *
    generalize ys.length = la at *
    go_enter Tryz.func3, Tryz.ntmps3
    go_wp2_with fail
    refine enterF (P := fun u => Calls _ _ _ u _) ?_
    intro u HB q0 q1 q2 q3 z1 hsz
    clear hsz
    have f_z1 := z1.fr
    have lt_q0 := cell_lt q0
    refine (HS1.out _).mono ?_
    rintro e w1 ⟨rfl, h1⟩
    have hv_ : Below u.heap.size u w1 := Below.trans (b := _) (by repeat (first | assumption | exact Below.refl _ _ | refine Below.alloc ?_ (by simp; try omega) _ | refine Below.drew ?_ | refine below_drewN ?_ _)) (h1.mono (by simp; try omega))
    replace HB := HB.trans (hv_.mono HB.size)
    clear hv_
    go_wp2_with fail
    refine (HE.out _ HB).mono ?_
    rintro e we ⟨rfl, hwe⟩
    go_wp2
    go_ret
    exact ⟨rfl, bel_step HB hwe⟩
  · obtain ⟨⟨p1, err1⟩, hq1⟩ : ∃ q, newR na xs nb ys = q := ⟨_, rfl⟩
    obtain ⟨b1, k1, X1, l1, Y1, I1⟩ := fz p1
    have H1a := hid fun (w1 : World) (h : Below w.heap.size w w1) => (FrNew_any (na := na) (nb := nb) (w := w1) (ma.below h) (mb.below h)).mono fun e w' h => by
      rw [hq1] at h; exact RetFE.g h I1.out
    have H1b := hid fun (w1 : World) (h : Below w.heap.size w w1) => (QNew_any (na := na) (nb := nb) (w := w1) (ma.below h) (mb.below h)).mono fun e w' h => by
      rw [hq1] at h; exact RetFE.g h I1.out
    have HL1 := hid fun (w1 : World) (R Q R' Q' : Option Addr) (c d c' d' : Nat) (m1 : Mg w1 R c X1) (m2 : Mg w1 Q d Y1) (m3 : Mg w1 R' c' X1) (m4 : Mg w1 Q' d' Y1) => Llike_g (w := w1) (err := err1) I1.out m1 m2 m3 m4
    obtain ⟨⟨p2, err2⟩, hq2⟩ : ∃ q, newE num den = q := ⟨_, rfl⟩
    obtain ⟨b2, k2, X2, l2, Y2, I2⟩ := fz p2
    have H2a := hid fun (w1 : World) (h : Below w.heap.size w w1) => FrOf_f (w := w1) n1 n2 d1 d2 hq2 I2.out
    have H2b := hid fun (w1 : World) (h : Below w.heap.size w w1) => QOf_f (w := w1) n1 n2 d1 d2 hq2 I2.out
    have HL2 := hid fun (w1 : World) (R Q R' Q' : Option Addr) (c d c' d' : Nat) (m1 : Mg w1 R c X2) (m2 : Mg w1 Q d Y2) (m3 : Mg w1 R' c' X2) (m4 : Mg w1 Q' d' Y2) => Llike_g (w := w1) (err := err2) I2.out m1 m2 m3 m4
    have HV1 := hid fun (w1 : World) (h : Below w.heap.size w w1) => FrValid_any (na := na) (nb := nb) (w := w1) (ma.below h) (mb.below h)
    have HV2 := hid fun (w1 : World) (h : Below w.heap.size w w1) => Qvalid_any (na := na) (nb := nb) (w := w1) (ma.below h) (mb.below h)
    generalize fvB na xs nb ys = tv at *
    clear ma mb ht1 hn hd hq1 hq2 I1 I2 n1 n2 d1 d2
    generalize xs.length = ka at *
    generalize ys.length = la at *
    go_enter Tryz.func3, Tryz.ntmps3
    go_wp2_with fail
    refine enterF (P := fun u => Calls _ _ _ u _) ?_
    intro u HB q0 q1 q2 q3 z1 hsz
    clear hsz
    have f_z1 := z1.fr
    have lt_q0 := cell_lt q0
    refine (HS1.out _).mono ?_
    rintro e w1 ⟨rfl, h1⟩
    have hv_ : Below u.heap.size u w1 := Below.trans (b := _) (by repeat (first | assumption | exact Below.refl _ _ | refine Below.alloc ?_ (by simp; try omega) _ | refine Below.drew ?_ | refine below_drewN ?_ _)) (h1.mono (by simp; try omega))
    replace q0 := keep_cell hv_ q0
    replace q1 := keep_cell hv_ q1
    replace q2 := keep_cell hv_ q2
    replace q3 := keep_cell hv_ q3
    have lt_q0 := cell_lt q0
    have lt_q1 := cell_lt q1
    have lt_q2 := cell_lt q2
    have lt_q3 := cell_lt q3
    replace HB := HB.trans (hv_.mono HB.size)
    clear hv_
    go_wp2_with fail
    refine (H1a.out _ HB).mono ?_
    rintro e w3 ⟨Ra, ca_, Qa, da_, rfl, am, an_, ha⟩
    have hv_ : Below w1.heap.size w1 w3 := Below.trans (b := _) (by repeat (first | assumption | exact Below.refl _ _ | refine Below.alloc ?_ (by simp; try omega) _ | refine Below.drew ?_ | refine below_drewN ?_ _)) (ha.mono (by simp; try omega))
    replace q0 := keep_cell hv_ q0
    replace q1 := keep_cell hv_ q1
    replace q2 := keep_cell hv_ q2
    replace q3 := keep_cell hv_ q3
    have lt_q0 := cell_lt q0
    have lt_q1 := cell_lt q1
    have lt_q2 := cell_lt q2
    have lt_q3 := cell_lt q3
    replace HB := HB.trans (hv_.mono HB.size)
    clear hv_
    go_upto_region 4 with fail
    have a0 := at_allocF0 (W := w3) (a := .bool b1) (b := .slice Ra k1 ca_) (c := .bool false) (d := .slice Qa l1 da_) (t := 26) rfl
    have a1 := at_allocF1 (W := w3) (a := .bool b1) (b := .slice Ra k1 ca_) (c := .bool false) (d := .slice Qa l1 da_) (t := 26) rfl
    have a2 := at_allocF2 (W := w3) (a := .bool b1) (b := .slice Ra k1 ca_) (c := .bool false) (d := .slice Qa l1 da_) (t := 26) rfl
    have a3 := at_allocF3 (W := w3) (a := .bool b1) (b := .slice Ra k1 ca_) (c := .bool false) (d := .slice Qa l1 da_) (t := 26) rfl
    have hv_ : Below w3.heap.size w3 (w3.alloc (.cells #[.bool b1, .slice Ra k1 ca_, .bool false, .slice Qa l1 da_] 26)) := (Below.refl _ _).alloc (Nat.le_refl _) _
    generalize w3.alloc (.cells #[.bool b1, .slice Ra k1 ca_, .bool false, .slice Qa l1 da_] 26) = u3 at *
    replace am := am.below hv_
    replace an_ := an_.below hv_
    replace q0 := keep_cell hv_ q0
    replace q1 := keep_cell hv_ q1
    replace q2 := keep_cell hv_ q2
    replace q3 := keep_cell hv_ q3
    replace HB := HB.trans (hv_.mono HB.size)
    clear hv_
    have lt_a0 := cell_lt a0
    go_wp2_with fail
    refine (H1b.out _ HB).mono ?_
    rintro e w4 ⟨Rg, cg_, Qg, dg_, rfl, gm, gn_, hg⟩
    have hv_ : Below u3.heap.size u3 w4 := Below.trans (b := _) (by repeat (first | assumption | exact Below.refl _ _ | refine Below.alloc ?_ (by simp; try omega) _ | refine Below.drew ?_ | refine below_drewN ?_ _)) (hg.mono (by simp; try omega))
    replace am := am.below hv_
    replace an_ := an_.below hv_
    replace q0 := keep_cell hv_ q0
    replace q1 := keep_cell hv_ q1
    replace q2 := keep_cell hv_ q2
    replace q3 := keep_cell hv_ q3
    replace a0 := keep_cell hv_ a0
    replace a1 := keep_cell hv_ a1
    replace a2 := keep_cell hv_ a2
    replace a3 := keep_cell hv_ a3
    have lt_q0 := cell_lt q0
    have lt_q1 := cell_lt q1
    have lt_q2 := cell_lt q2
    have lt_q3 := cell_lt q3
    have lt_a0 := cell_lt a0
    have lt_a1 := cell_lt a1
    have lt_a2 := cell_lt a2
    have lt_a3 := cell_lt a3
    replace HB := HB.trans (hv_.mono HB.size)
    clear hv_
    go_upto_region 5 with fail
    have g0 := at_allocF0 (W := w4) (a := .bool b1) (b := .slice Rg k1 cg_) (c := .bool false) (d := .slice Qg l1 dg_) (t := 26) rfl
    have g1 := at_allocF1 (W := w4) (a := .bool b1) (b := .slice Rg k1 cg_) (c := .bool false) (d := .slice Qg l1 dg_) (t := 26) rfl
    have g2 := at_allocF2 (W := w4) (a := .bool b1) (b := .slice Rg k1 cg_) (c := .bool false) (d := .slice Qg l1 dg_) (t := 26) rfl
    have g3 := at_allocF3 (W := w4) (a := .bool b1) (b := .slice Rg k1 cg_) (c := .bool false) (d := .slice Qg l1 dg_) (t := 26) rfl
    have hv_ : Below w4.heap.size w4 (w4.alloc (.cells #[.bool b1, .slice Rg k1 cg_, .bool false, .slice Qg l1 dg_] 26)) := (Below.refl _ _).alloc (Nat.le_refl _) _
    generalize w4.alloc (.cells #[.bool b1, .slice Rg k1 cg_, .bool false, .slice Qg l1 dg_] 26) = u4 at *
    replace gm := gm.below hv_
    replace gn_ := gn_.below hv_
    replace am := am.below hv_
    replace an_ := an_.below hv_
    replace q0 := keep_cell hv_ q0
    replace q1 := keep_cell hv_ q1
    replace q2 := keep_cell hv_ q2
    replace q3 := keep_cell hv_ q3
    replace a0 := keep_cell hv_ a0
    replace a1 := keep_cell hv_ a1
    replace a2 := keep_cell hv_ a2
    replace a3 := keep_cell hv_ a3
    replace HB := HB.trans (hv_.mono HB.size)
    clear hv_
    have lt_g0 := cell_lt g0
    go_wp2_with fail
    refine (H2a.out _ HB).mono ?_
    rintro e w5 ⟨Ri, ci_, Qi, di_, rfl, im, in_, hi⟩
    have hv_ : Below u4.heap.size u4 w5 := Below.trans (b := _) (by repeat (first | assumption | exact Below.refl _ _ | refine Below.alloc ?_ (by simp; try omega) _ | refine Below.drew ?_ | refine below_drewN ?_ _)) (hi.mono (by simp; try omega))
    replace am := am.below hv_
    replace an_ := an_.below hv_
    replace gm := gm.below hv_
    replace gn_ := gn_.below hv_
    replace q0 := keep_cell hv_ q0
    replace q1 := keep_cell hv_ q1
    replace q2 := keep_cell hv_ q2
    replace q3 := keep_cell hv_ q3
    replace a0 := keep_cell hv_ a0
    replace a1 := keep_cell hv_ a1
    replace a2 := keep_cell hv_ a2
    replace a3 := keep_cell hv_ a3
    replace g0 := keep_cell hv_ g0
    replace g1 := keep_cell hv_ g1
    replace g2 := keep_cell hv_ g2
    replace g3 := keep_cell hv_ g3
    have lt_q0 := cell_lt q0
    have lt_q1 := cell_lt q1
    have lt_q2 := cell_lt q2
    have lt_q3 := cell_lt q3
    have lt_a0 := cell_lt a0
    have lt_a1 := cell_lt a1
    have lt_a2 := cell_lt a2
    have lt_a3 := cell_lt a3
    have lt_g0 := cell_lt g0
    have lt_g1 := cell_lt g1
    have lt_g2 := cell_lt g2
    have lt_g3 := cell_lt g3
    replace HB := HB.trans (hv_.mono HB.size)
    clear hv_
    go_upto_region 6 with fail
    have i0 := at_allocF0 (W := w5) (a := .bool b2) (b := .slice Ri k2 ci_) (c := .bool false) (d := .slice Qi l2 di_) (t := 26) rfl
    have i1 := at_allocF1 (W := w5) (a := .bool b2) (b := .slice Ri k2 ci_) (c := .bool false) (d := .slice Qi l2 di_) (t := 26) rfl
    have i2 := at_allocF2 (W := w5) (a := .bool b2) (b := .slice Ri k2 ci_) (c := .bool false) (d := .slice Qi l2 di_) (t := 26) rfl
    have i3 := at_allocF3 (W := w5) (a := .bool b2) (b := .slice Ri k2 ci_) (c := .bool false) (d := .slice Qi l2 di_) (t := 26) rfl
    have hv_ : Below w5.heap.size w5 (w5.alloc (.cells #[.bool b2, .slice Ri k2 ci_, .bool false, .slice Qi l2 di_] 26)) := (Below.refl _ _).alloc (Nat.le_refl _) _
    generalize w5.alloc (.cells #[.bool b2, .slice Ri k2 ci_, .bool false, .slice Qi l2 di_] 26) = u5 at *
    replace im := im.below hv_
    replace in_ := in_.below hv_
    replace am := am.below hv_
    replace an_ := an_.below hv_
    replace gm := gm.below hv_
    replace gn_ := gn_.below hv_
    replace q0 := keep_cell hv_ q0
    replace q1 := keep_cell hv_ q1
    replace q2 := keep_cell hv_ q2
    replace q3 := keep_cell hv_ q3
    replace a0 := keep_cell hv_ a0
    replace a1 := keep_cell hv_ a1
    replace a2 := keep_cell hv_ a2
    replace a3 := keep_cell hv_ a3
    replace g0 := keep_cell hv_ g0
    replace g1 := keep_cell hv_ g1
    replace g2 := keep_cell hv_ g2
    replace g3 := keep_cell hv_ g3
    replace HB := HB.trans (hv_.mono HB.size)
    clear hv_
    have lt_i0 := cell_lt i0
    go_wp2_with fail
    refine (H2b.out _ HB).mono ?_
    rintro e w6 ⟨Rj, cj_, Qj, dj_, rfl, jm, jn_, hj⟩
    have hv_ : Below u5.heap.size u5 w6 := Below.trans (b := _) (by repeat (first | assumption | exact Below.refl _ _ | refine Below.alloc ?_ (by simp; try omega) _ | refine Below.drew ?_ | refine below_drewN ?_ _)) (hj.mono (by simp; try omega))
    replace am := am.below hv_
    replace an_ := an_.below hv_
    replace gm := gm.below hv_
    replace gn_ := gn_.below hv_
    replace im := im.below hv_
    replace in_ := in_.below hv_
    replace q0 := keep_cell hv_ q0
    replace q1 := keep_cell hv_ q1
    replace q2 := keep_cell hv_ q2
    replace q3 := keep_cell hv_ q3
    replace a0 := keep_cell hv_ a0
    replace a1 := keep_cell hv_ a1
    replace a2 := keep_cell hv_ a2
    replace a3 := keep_cell hv_ a3
    replace g0 := keep_cell hv_ g0
    replace g1 := keep_cell hv_ g1
    replace g2 := keep_cell hv_ g2
    replace g3 := keep_cell hv_ g3
    replace i0 := keep_cell hv_ i0
    replace i1 := keep_cell hv_ i1
    replace i2 := keep_cell hv_ i2
    replace i3 := keep_cell hv_ i3
    have lt_q0 := cell_lt q0
    have lt_q1 := cell_lt q1
    have lt_q2 := cell_lt q2
    have lt_q3 := cell_lt q3
    have lt_a0 := cell_lt a0
    have lt_a1 := cell_lt a1
    have lt_a2 := cell_lt a2
    have lt_a3 := cell_lt a3
    have lt_g0 := cell_lt g0
    have lt_g1 := cell_lt g1
    have lt_g2 := cell_lt g2
    have lt_g3 := cell_lt g3
    have lt_i0 := cell_lt i0
    have lt_i1 := cell_lt i1
    have lt_i2 := cell_lt i2
    have lt_i3 := cell_lt i3
    replace HB := HB.trans (hv_.mono HB.size)
    clear hv_
    go_upto_region 7 with fail
    have j0 := at_allocF0 (W := w6) (a := .bool b2) (b := .slice Rj k2 cj_) (c := .bool false) (d := .slice Qj l2 dj_) (t := 26) rfl
    have j1 := at_allocF1 (W := w6) (a := .bool b2) (b := .slice Rj k2 cj_) (c := .bool false) (d := .slice Qj l2 dj_) (t := 26) rfl
    have j2 := at_allocF2 (W := w6) (a := .bool b2) (b := .slice Rj k2 cj_) (c := .bool false) (d := .slice Qj l2 dj_) (t := 26) rfl
    have j3 := at_allocF3 (W := w6) (a := .bool b2) (b := .slice Rj k2 cj_) (c := .bool false) (d := .slice Qj l2 dj_) (t := 26) rfl
    have hv_ : Below w6.heap.size w6 (w6.alloc (.cells #[.bool b2, .slice Rj k2 cj_, .bool false, .slice Qj l2 dj_] 26)) := (Below.refl _ _).alloc (Nat.le_refl _) _
    generalize w6.alloc (.cells #[.bool b2, .slice Rj k2 cj_, .bool false, .slice Qj l2 dj_] 26) = u6 at *
    replace jm := jm.below hv_
    replace jn_ := jn_.below hv_
    replace am := am.below hv_
    replace an_ := an_.below hv_
    replace gm := gm.below hv_
    replace gn_ := gn_.below hv_
    replace im := im.below hv_
    replace in_ := in_.below hv_
    replace q0 := keep_cell hv_ q0
    replace q1 := keep_cell hv_ q1
    replace q2 := keep_cell hv_ q2
    replace q3 := keep_cell hv_ q3
    replace a0 := keep_cell hv_ a0
    replace a1 := keep_cell hv_ a1
    replace a2 := keep_cell hv_ a2
    replace a3 := keep_cell hv_ a3
    replace g0 := keep_cell hv_ g0
    replace g1 := keep_cell hv_ g1
    replace g2 := keep_cell hv_ g2
    replace g3 := keep_cell hv_ g3
    replace i0 := keep_cell hv_ i0
    replace i1 := keep_cell hv_ i1
    replace i2 := keep_cell hv_ i2
    replace i3 := keep_cell hv_ i3
    replace HB := HB.trans (hv_.mono HB.size)
    clear hv_
    have lt_j0 := cell_lt j0
    go_wp2_with fail
    go_region_held3 (fun w' => (w'.cell? ⟨w.heap.size, 0, none⟩ = some (.bool na) ∧ w'.cell? ⟨w.heap.size, 1, none⟩ = some (.slice A ka ca) ∧ w'.cell? ⟨w.heap.size, 2, none⟩ = some (.bool nb) ∧ w'.cell? ⟨w.heap.size, 3, none⟩ = some (.slice B la cb)) ∧ (w'.cell? ⟨w3.heap.size, 0, none⟩ = some (.bool b1) ∧ w'.cell? ⟨w3.heap.size, 1, none⟩ = some (.slice Ra k1 ca_) ∧ w'.cell? ⟨w3.heap.size, 2, none⟩ = some (.bool false) ∧ w'.cell? ⟨w3.heap.size, 3, none⟩ = some (.slice Qa l1 da_)) ∧ (w'.cell? ⟨w4.heap.size, 0, none⟩ = some (.bool b1) ∧ w'.cell? ⟨w4.heap.size, 1, none⟩ = some (.slice Rg k1 cg_) ∧ w'.cell? ⟨w4.heap.size, 2, none⟩ = some (.bool false) ∧ w'.cell? ⟨w4.heap.size, 3, none⟩ = some (.slice Qg l1 dg_)) ∧ (w'.cell? ⟨w5.heap.size, 0, none⟩ = some (.bool b2) ∧ w'.cell? ⟨w5.heap.size, 1, none⟩ = some (.slice Ri k2 ci_) ∧ w'.cell? ⟨w5.heap.size, 2, none⟩ = some (.bool false) ∧ w'.cell? ⟨w5.heap.size, 3, none⟩ = some (.slice Qi l2 di_)) ∧ (w'.cell? ⟨w6.heap.size, 0, none⟩ = some (.bool b2) ∧ w'.cell? ⟨w6.heap.size, 1, none⟩ = some (.slice Rj k2 cj_) ∧ w'.cell? ⟨w6.heap.size, 2, none⟩ = some (.bool false) ∧ w'.cell? ⟨w6.heap.size, 3, none⟩ = some (.slice Qj l2 dj_))) (first | ((try dsimp only); repeat' (first | with_reducible assumption | apply And.intro | (with_reducible refine keep_cell (W := u6) ?_ ?_) | exact (Below.refl _ _).drew | fail))) (first | (go_at_call 21; (with_reducible refine (HV1.out _ (bel_step HB (by repeat' (first | with_reducible assumption | exact Below.refl _ _ | (refine Below.alloc ?_ (by first | omega | (simp only [World.size_alloc, World.size_setCell, World.size_drew]; done) | (simp only [World.size_alloc, World.size_setCell, World.size_drew]; omega)) _) | (refine Below.drew ?_) | (refine below_drewN ?_ _) | (refine Below.setCell ?_ (by first | omega | (simp only [World.size_alloc, World.size_setCell, World.size_drew]; done) | (simp only [World.size_alloc, World.size_setCell, World.size_drew]; omega)) _))))).mono ?_); rintro e y1 ⟨rfl, hq_⟩; have qy1 : Below u6.heap.size u6 y1 := bel_step (by repeat' (first | with_reducible assumption | exact Below.refl _ _ | (refine Below.alloc ?_ (by first | omega | (simp only [World.size_alloc, World.size_setCell, World.size_drew]; done) | (simp only [World.size_alloc, World.size_setCell, World.size_drew]; omega)) _) | (refine Below.drew ?_) | (refine below_drewN ?_ _) | (refine Below.setCell ?_ (by first | omega | (simp only [World.size_alloc, World.size_setCell, World.size_drew]; done) | (simp only [World.size_alloc, World.size_setCell, World.size_drew]; omega)) _))) hq_) | (go_at_call 22; (with_reducible refine (HV2.out _ (bel_step HB (by repeat' (first | with_reducible assumption | exact Below.refl _ _ | (refine Below.alloc ?_ (by first | omega | (simp only [World.size_alloc, World.size_setCell, World.size_drew]; done) | (simp only [World.size_alloc, World.size_setCell, World.size_drew]; omega)) _) | (refine Below.drew ?_) | (refine below_drewN ?_ _) | (refine Below.setCell ?_ (by first | omega | (simp only [World.size_alloc, World.size_setCell, World.size_drew]; done) | (simp only [World.size_alloc, World.size_setCell, World.size_drew]; omega)) _))))).mono ?_); rintro e y2 ⟨rfl, hq_⟩; have qy2 : Below u6.heap.size u6 y2 := bel_step (by repeat' (first | with_reducible assumption | exact Below.refl _ _ | (refine Below.alloc ?_ (by first | omega | (simp only [World.size_alloc, World.size_setCell, World.size_drew]; done) | (simp only [World.size_alloc, World.size_setCell, World.size_drew]; omega)) _) | (refine Below.drew ?_) | (refine below_drewN ?_ _) | (refine Below.setCell ?_ (by first | omega | (simp only [World.size_alloc, World.size_setCell, World.size_drew]; done) | (simp only [World.size_alloc, World.size_setCell, World.size_drew]; omega)) _))) hq_) | (go_at_call 23; (with_reducible refine (HL1.out _ _ _ _ _ _ _ _ _ (am.below (by repeat' (first | with_reducible assumption | exact Below.refl _ _ | (refine Below.alloc ?_ (by first | omega | (simp only [World.size_alloc, World.size_setCell, World.size_drew]; done) | (simp only [World.size_alloc, World.size_setCell, World.size_drew]; omega)) _) | (refine Below.drew ?_) | (refine below_drewN ?_ _) | (refine Below.setCell ?_ (by first | omega | (simp only [World.size_alloc, World.size_setCell, World.size_drew]; done) | (simp only [World.size_alloc, World.size_setCell, World.size_drew]; omega)) _)))) (an_.below (by repeat' (first | with_reducible assumption | exact Below.refl _ _ | (refine Below.alloc ?_ (by first | omega | (simp only [World.size_alloc, World.size_setCell, World.size_drew]; done) | (simp only [World.size_alloc, World.size_setCell, World.size_drew]; omega)) _) | (refine Below.drew ?_) | (refine below_drewN ?_ _) | (refine Below.setCell ?_ (by first | omega | (simp only [World.size_alloc, World.size_setCell, World.size_drew]; done) | (simp only [World.size_alloc, World.size_setCell, World.size_drew]; omega)) _)))) (gm.below (by repeat' (first | with_reducible assumption | exact Below.refl _ _ | (refine Below.alloc ?_ (by first | omega | (simp only [World.size_alloc, World.size_setCell, World.size_drew]; done) | (simp only [World.size_alloc, World.size_setCell, World.size_drew]; omega)) _) | (refine Below.drew ?_) | (refine below_drewN ?_ _) | (refine Below.setCell ?_ (by first | omega | (simp only [World.size_alloc, World.size_setCell, World.size_drew]; done) | (simp only [World.size_alloc, World.size_setCell, World.size_drew]; omega)) _)))) (gn_.below (by repeat' (first | with_reducible assumption | exact Below.refl _ _ | (refine Below.alloc ?_ (by first | omega | (simp only [World.size_alloc, World.size_setCell, World.size_drew]; done) | (simp only [World.size_alloc, World.size_setCell, World.size_drew]; omega)) _) | (refine Below.drew ?_) | (refine below_drewN ?_ _) | (refine Below.setCell ?_ (by first | omega | (simp only [World.size_alloc, World.size_setCell, World.size_drew]; done) | (simp only [World.size_alloc, World.size_setCell, World.size_drew]; omega)) _))))).mono ?_); rintro e y3 ⟨rfl, hq_⟩; have qy3 : Below u6.heap.size u6 y3 := bel_step (by repeat' (first | with_reducible assumption | exact Below.refl _ _ | (refine Below.alloc ?_ (by first | omega | (simp only [World.size_alloc, World.size_setCell, World.size_drew]; done) | (simp only [World.size_alloc, World.size_setCell, World.size_drew]; omega)) _) | (refine Below.drew ?_) | (refine below_drewN ?_ _) | (refine Below.setCell ?_ (by first | omega | (simp only [World.size_alloc, World.size_setCell, World.size_drew]; done) | (simp only [World.size_alloc, World.size_setCell, World.size_drew]; omega)) _))) hq_) | (go_at_call 23; (with_reducible refine (HL2.out _ _ _ _ _ _ _ _ _ (im.below (by repeat' (first | with_reducible assumption | exact Below.refl _ _ | (refine Below.alloc ?_ (by first | omega | (simp only [World.size_alloc, World.size_setCell, World.size_drew]; done) | (simp only [World.size_alloc, World.size_setCell, World.size_drew]; omega)) _) | (refine Below.drew ?_) | (refine below_drewN ?_ _) | (refine Below.setCell ?_ (by first | omega | (simp only [World.size_alloc, World.size_setCell, World.size_drew]; done) | (simp only [World.size_alloc, World.size_setCell, World.size_drew]; omega)) _)))) (in_.below (by repeat' (first | with_reducible assumption | exact Below.refl _ _ | (refine Below.alloc ?_ (by first | omega | (simp only [World.size_alloc, World.size_setCell, World.size_drew]; done) | (simp only [World.size_alloc, World.size_setCell, World.size_drew]; omega)) _) | (refine Below.drew ?_) | (refine below_drewN ?_ _) | (refine Below.setCell ?_ (by first | omega | (simp only [World.size_alloc, World.size_setCell, World.size_drew]; done) | (simp only [World.size_alloc, World.size_setCell, World.size_drew]; omega)) _)))) (jm.below (by repeat' (first | with_reducible assumption | exact Below.refl _ _ | (refine Below.alloc ?_ (by first | omega | (simp only [World.size_alloc, World.size_setCell, World.size_drew]; done) | (simp only [World.size_alloc, World.size_setCell, World.size_drew]; omega)) _) | (refine Below.drew ?_) | (refine below_drewN ?_ _) | (refine Below.setCell ?_ (by first | omega | (simp only [World.size_alloc, World.size_setCell, World.size_drew]; done) | (simp only [World.size_alloc, World.size_setCell, World.size_drew]; omega)) _)))) (jn_.below (by repeat' (first | with_reducible assumption | exact Below.refl _ _ | (refine Below.alloc ?_ (by first | omega | (simp only [World.size_alloc, World.size_setCell, World.size_drew]; done) | (simp only [World.size_alloc, World.size_setCell, World.size_drew]; omega)) _) | (refine Below.drew ?_) | (refine below_drewN ?_ _) | (refine Below.setCell ?_ (by first | omega | (simp only [World.size_alloc, World.size_setCell, World.size_drew]; done) | (simp only [World.size_alloc, World.size_setCell, World.size_drew]; omega)) _))))).mono ?_); rintro e y4 ⟨rfl, hq_⟩; have qy4 : Below u6.heap.size u6 y4 := bel_step (by repeat' (first | with_reducible assumption | exact Below.refl _ _ | (refine Below.alloc ?_ (by first | omega | (simp only [World.size_alloc, World.size_setCell, World.size_drew]; done) | (simp only [World.size_alloc, World.size_setCell, World.size_drew]; omega)) _) | (refine Below.drew ?_) | (refine below_drewN ?_ _) | (refine Below.setCell ?_ (by first | omega | (simp only [World.size_alloc, World.size_setCell, World.size_drew]; done) | (simp only [World.size_alloc, World.size_setCell, World.size_drew]; omega)) _))) hq_) | (go_at_call 16; (with_reducible refine (HE.out _ (bel_step HB (by repeat' (first | with_reducible assumption | exact Below.refl _ _ | (refine Below.alloc ?_ (by first | omega | (simp only [World.size_alloc, World.size_setCell, World.size_drew]; done) | (simp only [World.size_alloc, World.size_setCell, World.size_drew]; omega)) _) | (refine Below.drew ?_) | (refine below_drewN ?_ _) | (refine Below.setCell ?_ (by first | omega | (simp only [World.size_alloc, World.size_setCell, World.size_drew]; done) | (simp only [World.size_alloc, World.size_setCell, World.size_drew]; omega)) _))))).mono ?_); rintro e y5 ⟨rfl, hq_⟩; have qy5 : Below u6.heap.size u6 y5 := bel_step (by repeat' (first | with_reducible assumption | exact Below.refl _ _ | (refine Below.alloc ?_ (by first | omega | (simp only [World.size_alloc, World.size_setCell, World.size_drew]; done) | (simp only [World.size_alloc, World.size_setCell, World.size_drew]; omega)) _) | (refine Below.drew ?_) | (refine below_drewN ?_ _) | (refine Below.setCell ?_ (by first | omega | (simp only [World.size_alloc, World.size_setCell, World.size_drew]; done) | (simp only [World.size_alloc, World.size_setCell, World.size_drew]; omega)) _))) hq_))
    all_goals
      go_wp2_with fail
      go_ret
      exact ⟨rfl, bel_step HB qy5⟩
set_option maxRecDepth 100000 in
set_option maxHeartbeats 4000000 in
theorem FractionCompares_law {na nb nc nd : Bool} {xs ys us vs : List Nat} {A B C D : Option Addr} {ca cb cc cd : Nat} {w : World} (ma : Mg w A ca xs) (mb : Mg w B cb ys) (mc : Mg w C cc us) (md : Mg w D cd vs) (htab : PowTab w) (hlen : LenAt w) :
    Calls Tryz.prog 12 #[.agg #[.bool na, .slice A xs.length ca, .bool nb, .slice B ys.length cb], .agg #[.bool nc, .slice C us.length cc, .bool nd, .slice D vs.length cd]] w (RetB w true) := by
  have HE := hid fun (w1 : World) (h : Below w.heap.size w w1) => Lex_ok w1 (htab.below h) (hlen.below h)
  obtain ⟨t1, ht1⟩ : ∃ t, (decide (xs.length ≤ 8) && decide (ys.length ≤ 8)) = t := ⟨_, rfl⟩
  obtain ⟨t2, ht2⟩ : ∃ t, (decide (us.length ≤ 8) && decide (vs.length ≤ 8)) = t := ⟨_, rfl⟩
  have HS1 := hid fun (w1 : World) => Lsmall_g (na := na) (nb := nb) (A := A) (B := B) (ca := ca) (cb := cb) (w := w1) t1 ht1
  have HS2 := hid fun (w1 : World) => Lsmall_g (na := nc) (nb := nd) (A := C) (B := D) (ca := cc) (cb := cd) (w := w1) t2 ht2
  cases t1
  · clear ma mb mc md ht1 ht2 HS2
    generalize xs.length = ka at *
    generalize ys.length = la at *
    generalize us.length = kb at *
    generalize vs.length = lb at *
    go_enter Tryz.func12, Tryz.ntmps12
    go_wp2_with fail
    refine enterFF (P := fun u => Calls _ _ _ u _) ?_
    intro u HB q0 q1 q2 q3 r0 r1 r2 r3 z1 z2 hsz
    clear hsz
    have f_z1 := z1.fr
    have f_z2 := z2.fr
    have lt_q0 := cell_lt q0
    have lt_r0 := cell_lt r0
    refine (HS1.out _).mono ?_
    rintro e w1 ⟨rfl, h1⟩
    have hv_ : Below u.heap.size u w1 := Below.trans (b := _) (by repeat (first | assumption | exact Below.refl _ _ | refine Below.alloc ?_ (by simp; try omega) _ | refine Below.drew ?_ | refine below_drewN ?_ _)) (h1.mono (by simp; try omega))
    replace HB := HB.trans (hv_.mono HB.size)
    clear hv_
    go_wp2_with fail
    refine (HE.out _ HB).mono ?_
    rintro e we ⟨rfl, hwe⟩
    go_wp2
    go_ret
    exact ⟨rfl, bel_step HB hwe⟩
  cases t2
  · clear ma mb mc md ht1 ht2
    generalize xs.length = ka at *
    generalize ys.length = la at *
    generalize us.length = kb at *
    generalize vs.length = lb at *
    go_enter Tryz.func12, Tryz.ntmps12
    go_wp2_with fail
    refine enterFF (P := fun u => Calls _ _ _ u _) ?_
    intro u HB q0 q1 q2 q3 r0 r1 r2 r3 z1 z2 hsz
    clear hsz
    have f_z1 := z1.fr
    have f_z2 := z2.fr
    have lt_q0 := cell_lt q0
    have lt_r0 := cell_lt r0
    refine (HS1.out _).mono ?_
    rintro e w1 ⟨rfl, h1⟩
    have hv_ : Below u.heap.size u w1 := Below.trans (b := _) (by repeat (first | assumption | exact Below.refl _ _ | refine Below.alloc ?_ (by simp; try omega) _ | refine Below.drew ?_ | refine below_drewN ?_ _)) (h1.mono (by simp; try omega))
    replace r0 := keep_cell hv_ r0
    replace r1 := keep_cell hv_ r1
    replace r2 := keep_cell hv_ r2
    replace r3 := keep_cell hv_ r3
    have lt_r0 := cell_lt r0
    have lt_r1 := cell_lt r1
    have lt_r2 := cell_lt r2
    have lt_r3 := cell_lt r3
    replace HB := HB.trans (hv_.mono HB.size)
    clear hv_
    go_wp2_with fail
    refine (HS2.out _).mono ?_
    rintro e w2 ⟨rfl, h2⟩
    have hv_ : Below w1.heap.size w1 w2 := Below.trans (b := _) (by repeat (first | assumption | exact Below.refl _ _ | refine Below.alloc ?_ (by simp; try omega) _ | refine Below.drew ?_ | refine below_drewN ?_ _)) (h2.mono (by simp; try omega))
    replace HB := HB.trans (hv_.mono HB.size)
    clear hv_
    go_wp2_with fail
    refine (HE.out _ HB).mono ?_
    rintro e we ⟨rfl, hwe⟩
    go_wp2
    go_ret
    exact ⟨rfl, bel_step HB hwe⟩
  obtain ⟨⟨z3, err3⟩, hq3⟩ : ∃ q, cmpR na xs nb ys nc us nd vs = q := ⟨_, rfl⟩
  have HC1 := hid fun (w1 : World) (h : Below w.heap.size w w1) => FrCmp_any (na := na) (nb := nb) (nc := nc) (nd := nd) (w := w1) (ma.below h) (mb.below h) (mc.below h) (md.below h)
  have HC2 := hid fun (w1 : World) (h : Below w.heap.size w w1) => QCmp_any (na := na) (nb := nb) (nc := nc) (nd := nd) (w := w1) (ma.below h) (mb.below h) (mc.below h) (md.below h)
  rw [hq3] at HC1 HC2
  clear hq3
  obtain ⟨⟨p1, err1⟩, hq1⟩ : ∃ q, intR flrF na xs nb ys = q := ⟨_, rfl⟩
  obtain ⟨b1, k1, X1, I1⟩ := iz p1
  have H1a := hid fun (w1 : World) (h : Below w.heap.size w w1) => (FrFloor_any (na := na) (nb := nb) (w := w1) (ma.below h) (mb.below h)).mono fun e w' h => by
    rw [hq1] at h; exact h.g I1.out
  have H1b := hid fun (w1 : World) (h : Below w.heap.size w w1) => (QFloor_any (na := na) (nb := nb) (w := w1) (ma.below h) (mb.below h)).mono fun e w' h => by
    rw [hq1] at h; exact h.g I1.out
  have HL1 := hid fun (w1 : World) (R R' : Option Addr) (c c' : Nat) (m1 : Mg w1 R c X1) (m3 : Mg w1 R' c' X1) => LlikeInt_g (w := w1) (err := err1) I1.out m1 m3
  clear hq1 I1
  obtain ⟨⟨p2, err2⟩, hq2⟩ : ∃ q, intR rndF na xs nb ys = q := ⟨_, rfl⟩
  obtain ⟨b2, k2, X2, I2⟩ := iz p2
  have H2a := hid fun (w1 : World) (h : Below w.heap.size w w1) => (FrRound_any (na := na) (nb := nb) (w := w1) (ma.below h) (mb.below h)).mono fun e w' h => by
    rw [hq2] at h; exact h.g I2.out
  have H2b := hid fun (w1 : World) (h : Below w.heap.size w w1) => (QRound_any (na := na) (nb := nb) (w := w1) (ma.below h) (mb.below h)).mono fun e w' h => by
    rw [hq2] at h; exact h.g I2.out
  have HL2 := hid fun (w1 : World) (R R' : Option Addr) (c c' : Nat) (m1 : Mg w1 R c X2) (m3 : Mg w1 R' c' X2) => LlikeInt_g (w := w1) (err := err2) I2.out m1 m3
  clear hq2 I2
  clear ma mb mc md ht1 ht2
  generalize xs.length = ka at *
  generalize ys.length = la at *
  generalize us.length = kb at *
  generalize vs.length = lb at *
  go_enter Tryz.func12, Tryz.ntmps12
  go_wp2_with fail
  refine enterFF (P := fun u => Calls _ _ _ u _) ?_
  intro u HB q0 q1 q2 q3 r0 r1 r2 r3 z1 z2 hsz
  clear hsz
  have f_z1 := z1.fr
  have f_z2 := z2.fr
  have lt_q0 := cell_lt q0
  have lt_r0 := cell_lt r0
  refine (HS1.out _).mono ?_
  rintro e w1 ⟨rfl, h1⟩
  have hv_ : Below u.heap.size u w1 := Below.trans (b := _) (by repeat (first | assumption | exact Below.refl _ _ | refine Below.alloc ?_ (by simp; try omega) _ | refine Below.drew ?_ | refine below_drewN ?_ _)) (h1.mono (by simp; try omega))
  replace q0 := keep_cell hv_ q0
  replace q1 := keep_cell hv_ q1
  replace q2 := keep_cell hv_ q2
  replace q3 := keep_cell hv_ q3
  replace r0 := keep_cell hv_ r0
  replace r1 := keep_cell hv_ r1
  replace r2 := keep_cell hv_ r2
  replace r3 := keep_cell hv_ r3
  have lt_q0 := cell_lt q0
  have lt_q1 := cell_lt q1
  have lt_q2 := cell_lt q2
  have lt_q3 := cell_lt q3
  have lt_r0 := cell_lt r0
  have lt_r1 := cell_lt r1
  have lt_r2 := cell_lt r2
  have lt_r3 := cell_lt r3
  replace HB := HB.trans (hv_.mono HB.size)
  clear hv_
  go_wp2_with fail
  refine (HS2.out _).mono ?_
  rintro e w2 ⟨rfl, h2⟩
  have hv_ : Below w1.heap.size w1 w2 := Below.trans (b := _) (by repeat (first | assumption | exact Below.refl _ _ | refine Below.alloc ?_ (by simp; try omega) _ | refine Below.drew ?_ | refine below_drewN ?_ _)) (h2.mono (by simp; try omega))
  replace q0 := keep_cell hv_ q0
  replace q1 := keep_cell hv_ q1
  replace q2 := keep_cell hv_ q2
  replace q3 := keep_cell hv_ q3
  replace r0 := keep_cell hv_ r0
  replace r1 := keep_cell hv_ r1
  replace r2 := keep_cell hv_ r2
  replace r3 := keep_cell hv_ r3
  have lt_q0 := cell_lt q0
  have lt_q1 := cell_lt q1
  have lt_q2 := cell_lt q2
  have lt_q3 := cell_lt q3
  have lt_r0 := cell_lt r0
  have lt_r1 := cell_lt r1
  have lt_r2 := cell_lt r2
  have lt_r3 := cell_lt r3
  replace HB := HB.trans (hv_.mono HB.size)
  clear hv_
  go_wp2_with fail
  refine (HC1.out _ HB).mono ?_
  rintro e w3 ⟨rfl, h3⟩
  have hv_ : Below w2.heap.size w2 w3 := Below.trans (b := _) (by repeat (first | assumption | exact Below.refl _ _ | refine Below.alloc ?_ (by simp; try omega) _ | refine Below.drew ?_ | refine below_drewN ?_ _)) (h3.mono (by simp; try omega))
  replace q0 := keep_cell hv_ q0
  replace q1 := keep_cell hv_ q1
  replace q2 := keep_cell hv_ q2
  replace q3 := keep_cell hv_ q3
  replace r0 := keep_cell hv_ r0
  replace r1 := keep_cell hv_ r1
  replace r2 := keep_cell hv_ r2
  replace r3 := keep_cell hv_ r3
  have lt_q0 := cell_lt q0
  have lt_q1 := cell_lt q1
  have lt_q2 := cell_lt q2
  have lt_q3 := cell_lt q3
  have lt_r0 := cell_lt r0
  have lt_r1 := cell_lt r1
  have lt_r2 := cell_lt r2
  have lt_r3 := cell_lt r3
  replace HB := HB.trans (hv_.mono HB.size)
  clear hv_
  go_wp2_with fail
  refine (HC2.out _ HB).mono ?_
  rintro e w4 ⟨rfl, h4⟩
  have hv_ : Below w3.heap.size w3 w4 := Below.trans (b := _) (by repeat (first | assumption | exact Below.refl _ _ | refine Below.alloc ?_ (by simp; try omega) _ | refine Below.drew ?_ | refine below_drewN ?_ _)) (h4.mono (by simp; try omega))
  replace q0 := keep_cell hv_ q0
  replace q1 := keep_cell hv_ q1
  replace q2 := keep_cell hv_ q2
  replace q3 := keep_cell hv_ q3
  have lt_q0 := cell_lt q0
  have lt_q1 := cell_lt q1
  have lt_q2 := cell_lt q2
  have lt_q3 := cell_lt q3
  replace HB := HB.trans (hv_.mono HB.size)
  clear hv_
  go_wp2_with fail
  refine (H1a.out _ HB).mono ?_
  rintro e w5 ⟨Ra, ca_, rfl, am, ha⟩
  have hv_ : Below w4.heap.size w4 w5 := Below.trans (b := _) (by repeat (first | assumption | exact Below.refl _ _ | refine Below.alloc ?_ (by simp; try omega) _ | refine Below.drew ?_ | refine below_drewN ?_ _)) (ha.mono (by simp; try omega))
  replace q0 := keep_cell hv_ q0
  replace q1 := keep_cell hv_ q1
  replace q2 := keep_cell hv_ q2
  replace q3 := keep_cell hv_ q3
  have lt_q0 := cell_lt q0
  have lt_q1 := cell_lt q1
  have lt_q2 := cell_lt q2
  have lt_q3 := cell_lt q3
  replace HB := HB.trans (hv_.mono HB.size)
  clear hv_
  go_upto_region 6 with fail
  have a0 := at_alloc0 (W := w5) (a := .bool b1) (b := .slice Ra k1 ca_) (t := 24) rfl
  have a1 := at_alloc1 (W := w5) (a := .bool b1) (b := .slice Ra k1 ca_) (t := 24) rfl
  have hv_ : Below w5.heap.size w5 (w5.alloc (.cells #[.bool b1, .slice Ra k1 ca_] 24)) := (Below.refl _ _).alloc (Nat.le_refl _) _
  generalize w5.alloc (.cells #[.bool b1, .slice Ra k1 ca_] 24) = u5 at *
  replace am := am.below hv_
  replace q0 := keep_cell hv_ q0
  replace q1 := keep_cell hv_ q1
  replace q2 := keep_cell hv_ q2
  replace q3 := keep_cell hv_ q3
  replace HB := HB.trans (hv_.mono HB.size)
  clear hv_
  have lt_a0 := cell_lt a0
  go_wp2_with fail
  refine (H1b.out _ HB).mono ?_
  rintro e w6 ⟨Rg, cg_, rfl, gm, hg⟩
  have hv_ : Below u5.heap.size u5 w6 := Below.trans (b := _) (by repeat (first | assumption | exact Below.refl _ _ | refine Below.alloc ?_ (by simp; try omega) _ | refine Below.drew ?_ | refine below_drewN ?_ _)) (hg.mono (by simp; try omega))
  replace am := am.below hv_
  replace q0 := keep_cell hv_ q0
  replace q1 := keep_cell hv_ q1
  replace q2 := keep_cell hv_ q2
  replace q3 := keep_cell hv_ q3
  replace a0 := keep_cell hv_ a0
  replace a1 := keep_cell hv_ a1
  have lt_q0 := cell_lt q0
  have lt_q1 := cell_lt q1
  have lt_q2 := cell_lt q2
  have lt_q3 := cell_lt q3
  have lt_a0 := cell_lt a0
  have lt_a1 := cell_lt a1
  replace HB := HB.trans (hv_.mono HB.size)
  clear hv_
  go_upto_region 7 with fail
  have g0 := at_alloc0 (W := w6) (a := .bool b1) (b := .slice Rg k1 cg_) (t := 24) rfl
  have g1 := at_alloc1 (W := w6) (a := .bool b1) (b := .slice Rg k1 cg_) (t := 24) rfl
  have hv_ : Below w6.heap.size w6 (w6.alloc (.cells #[.bool b1, .slice Rg k1 cg_] 24)) := (Below.refl _ _).alloc (Nat.le_refl _) _
  generalize w6.alloc (.cells #[.bool b1, .slice Rg k1 cg_] 24) = u6 at *
  replace gm := gm.below hv_
  replace am := am.below hv_
  replace q0 := keep_cell hv_ q0
  replace q1 := keep_cell hv_ q1
  replace q2 := keep_cell hv_ q2
  replace q3 := keep_cell hv_ q3
  replace a0 := keep_cell hv_ a0
  replace a1 := keep_cell hv_ a1
  replace HB := HB.trans (hv_.mono HB.size)
  clear hv_
  have lt_g0 := cell_lt g0
  go_wp2_with fail
  refine (H2a.out _ HB).mono ?_
  rintro e w7 ⟨Ri, ci_, rfl, im, hi⟩
  have hv_ : Below u6.heap.size u6 w7 := Below.trans (b := _) (by repeat (first | assumption | exact Below.refl _ _ | refine Below.alloc ?_ (by simp; try omega) _ | refine Below.drew ?_ | refine below_drewN ?_ _)) (hi.mono (by simp; try omega))
  replace am := am.below hv_
  replace gm := gm.below hv_
  replace q0 := keep_cell hv_ q0
  replace q1 := keep_cell hv_ q1
  replace q2 := keep_cell hv_ q2
  replace q3 := keep_cell hv_ q3
  replace a0 := keep_cell hv_ a0
  replace a1 := keep_cell hv_ a1
  replace g0 := keep_cell hv_ g0
  replace g1 := keep_cell hv_ g1
  have lt_q0 := cell_lt q0
  have lt_q1 := cell_lt q1
  have lt_q2 := cell_lt q2
  have lt_q3 := cell_lt q3
  have lt_a0 := cell_lt a0
  have lt_a1 := cell_lt a1
  have lt_g0 := cell_lt g0
  have lt_g1 := cell_lt g1
  replace HB := HB.trans (hv_.mono HB.size)
  clear hv_
  go_upto_region 8 with fail
  have i0 := at_alloc0 (W := w7) (a := .bool b2) (b := .slice Ri k2 ci_) (t := 24) rfl
  have i1 := at_alloc1 (W := w7) (a := .bool b2) (b := .slice Ri k2 ci_) (t := 24) rfl
  have hv_ : Below w7.heap.size w7 (w7.alloc (.cells #[.bool b2, .slice Ri k2 ci_] 24)) := (Below.refl _ _).alloc (Nat.le_refl _) _
  generalize w7.alloc (.cells #[.bool b2, .slice Ri k2 ci_] 24) = u7 at *
  replace im := im.below hv_
  replace am := am.below hv_
  replace gm := gm.below hv_
  replace q0 := keep_cell hv_ q0
  replace q1 := keep_cell hv_ q1
  replace q2 := keep_cell hv_ q2
  replace q3 := keep_cell hv_ q3
  replace a0 := keep_cell hv_ a0
  replace a1 := keep_cell hv_ a1
  replace g0 := keep_cell hv_ g0
  replace g1 := keep_cell hv_ g1
  replace HB := HB.trans (hv_.mono HB.size)
  clear hv_
  have lt_i0 := cell_lt i0
  go_wp2_with fail
  refine (H2b.out _ HB).mono ?_
  rintro e w8 ⟨Rj, cj_, rfl, jm, hj⟩
  have hv_ : Below u7.heap.size u7 w8 := Below.trans (b := _) (by repeat (first | assumption | exact Below.refl _ _ | refine Below.alloc ?_ (by simp; try omega) _ | refine Below.drew ?_ | refine below_drewN ?_ _)) (hj.mono (by simp; try omega))
  replace am := am.below hv_
  replace gm := gm.below hv_
  replace im := im.below hv_
  replace q0 := keep_cell hv_ q0
  replace q1 := keep_cell hv_ q1
  replace q2 := keep_cell hv_ q2
  replace q3 := keep_cell hv_ q3
  replace a0 := keep_cell hv_ a0
  replace a1 := keep_cell hv_ a1
  replace g0 := keep_cell hv_ g0
  replace g1 := keep_cell hv_ g1
  replace i0 := keep_cell hv_ i0
  replace i1 := keep_cell hv_ i1
  have lt_q0 := cell_lt q0
  have lt_q1 := cell_lt q1
  have lt_q2 := cell_lt q2
  have lt_q3 := cell_lt q3
  have lt_a0 := cell_lt a0
  have lt_a1 := cell_lt a1
  have lt_g0 := cell_lt g0
  have lt_g1 := cell_lt g1
  have lt_i0 := cell_lt i0
  have lt_i1 := cell_lt i1
  replace HB := HB.trans (hv_.mono HB.size)
  clear hv_
  go_upto_region 9 with fail
  have j0 := at_alloc0 (W := w8) (a := .bool b2) (b := .slice Rj k2 cj_) (t := 24) rfl
  have j1 := at_alloc1 (W := w8) (a := .bool b2) (b := .slice Rj k2 cj_) (t := 24) rfl
  have hv_ : Below w8.heap.size w8 (w8.alloc (.cells #[.bool b2, .slice Rj k2 cj_] 24)) := (Below.refl _ _).alloc (Nat.le_refl _) _
  generalize w8.alloc (.cells #[.bool b2, .slice Rj k2 cj_] 24) = u8 at *
  replace jm := jm.below hv_
  replace am := am.below hv_
  replace gm := gm.below hv_
  replace im := im.below hv_
  replace q0 := keep_cell hv_ q0
  replace q1 := keep_cell hv_ q1
  replace q2 := keep_cell hv_ q2
  replace q3 := keep_cell hv_ q3
  replace a0 := keep_cell hv_ a0
  replace a1 := keep_cell hv_ a1
  replace g0 := keep_cell hv_ g0
  replace g1 := keep_cell hv_ g1
  replace i0 := keep_cell hv_ i0
  replace i1 := keep_cell hv_ i1
  replace HB := HB.trans (hv_.mono HB.size)
  clear hv_
  have lt_j0 := cell_lt j0
  have lt_a0 := cell_lt a0
  have lt_g0 := cell_lt g0
  have lt_i0 := cell_lt i0
  go_wp2_with fail
  refine (HL1.out _ _ _ _ _ am gm).mono ?_
  rintro e w9 ⟨rfl, hl_⟩
  have hv_ : Below u8.heap.size u8 w9 := Below.trans (b := _) (by repeat (first | assumption | exact Below.refl _ _ | refine Below.alloc ?_ (by simp; try omega) _ | refine Below.drew ?_ | refine below_drewN ?_ _)) (hl_.mono (by simp; try omega))
  replace im := im.below hv_
  replace jm := jm.below hv_
  replace i0 := keep_cell hv_ i0
  replace i1 := keep_cell hv_ i1
  replace j0 := keep_cell hv_ j0
  replace j1 := keep_cell hv_ j1
  have lt_i0 := cell_lt i0
  have lt_i1 := cell_lt i1
  have lt_j0 := cell_lt j0
  have lt_j1 := cell_lt j1
  replace HB := HB.trans (hv_.mono HB.size)
  clear hv_
  go_wp2_with fail
  refine (HL2.out _ _ _ _ _ im jm).mono ?_
  rintro e w10 ⟨rfl, hl_⟩
  have hv_ : Below w9.heap.size w9 w10 := Below.trans (b := _) (by repeat (first | assumption | exact Below.refl _ _ | refine Below.alloc ?_ (by simp; try omega) _ | refine Below.drew ?_ | refine below_drewN ?_ _)) (hl_.mono (by simp; try omega))
  replace HB := HB.trans (hv_.mono HB.size)
  clear hv_
  go_wp2_with fail
  refine (HE.out _ HB).mono ?_
  rintro e we ⟨rfl, hwe⟩
  go_wp2
  go_ret
  exact ⟨rfl, bel_step HB hwe⟩
end Go.Proofs.YtfhbigfbeppinaaGreatDoor
