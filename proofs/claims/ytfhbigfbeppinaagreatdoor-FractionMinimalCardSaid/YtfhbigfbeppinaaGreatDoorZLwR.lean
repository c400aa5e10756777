/- The law FractionMinimal: its walk. Conditions: none. -/
import Derived.Test.YtfhbigfbeppinaaGreatDoorZLwM
set_option linter.unusedVariables false
set_option linter.unusedSimpArgs false
namespace Go.Proofs.YtfhbigfbeppinaaGreatDoor
open Go.RowKit Big

set_option maxRecDepth 100000 in
set_option maxHeartbeats 16000000 in
theorem FractionMinimal_law {na nb nc nd : Bool} {xs ys us vs : List Nat} {A B C D : Option Addr} {ca cb cc cd : Nat} {w : World} (ma : Mg w A ca xs) (mb : Mg w B cb ys) (mc : Mg w C cc us) (md : Mg w D cd vs) (htab : PowTab w) (hlen : LenAt w) :
    Calls Tryz.prog 11 #[.agg #[.bool na, .slice A xs.length ca, .bool nb, .slice B ys.length cb], .agg #[.bool nc, .slice C us.length cc, .bool nd, .slice D vs.length cd]] w (RetB w true) := by
  have HE := hid fun (w1 : World) (h : Below w.heap.size w w1) => Lex_ok w1 (htab.below h) (hlen.below h)
  obtain ⟨t1, ht1⟩ : ∃ t, decide (xs.length ≤ 1) = t := ⟨_, rfl⟩
  obtain ⟨t2, ht2⟩ : ∃ t, decide (ys.length ≤ 1) = t := ⟨_, rfl⟩
  obtain ⟨t3, ht3⟩ : ∃ t, decide (us.length ≤ 1) = t := ⟨_, rfl⟩
  obtain ⟨t4, ht4⟩ : ∃ t, decide (vs.length ≤ 1) = t := ⟨_, rfl⟩
  have HT1 := hid fun (w1 : World) (_ : Below w.heap.size w w1) => Lshort_g (b := na) (A := A) (n := xs.length) (c := ca) (N := 1) (w := w1) t1 ht1
  have HT2 := hid fun (w1 : World) (_ : Below w.heap.size w w1) => Lshort_g (b := nb) (A := B) (n := ys.length) (c := cb) (N := 1) (w := w1) t2 ht2
  have HT3 := hid fun (w1 : World) (_ : Below w.heap.size w w1) => Lshort_g (b := nc) (A := C) (n := us.length) (c := cc) (N := 1) (w := w1) t3 ht3
  have HT4 := hid fun (w1 : World) (_ : Below w.heap.size w w1) => Lshort_g (b := nd) (A := D) (n := vs.length) (c := cd) (N := 1) (w := w1) t4 ht4
  have HV1 := hid fun (w1 : World) (h : Below w.heap.size w w1) => FrValid_any (na := na) (nb := nb) (w := w1) (ma.below h) (mb.below h)
  have HV2 := hid fun (w1 : World) (h : Below w.heap.size w w1) => FrValid_any (na := nc) (nb := nd) (w := w1) (mc.below h) (md.below h)
  cases t1
  · clear HT2 HT3 HT4 HV1 HV2 ht1 ht2 ht3 ht4
    clear ma mb mc md
    generalize xs.length = ka at *
    generalize ys.length = la at *
    generalize us.length = kb at *
    generalize vs.length = lb at *
    go_enter Tryz.func11, Tryz.ntmps11
    go_wp2_with fail
    refine enterFF (P := fun u => Calls _ _ _ u _) ?_
    intro u HB q0 q1 q2 q3 r0 r1 r2 r3 z1 z2 hsz
    clear hsz
    have f_z1 := z1.fr
    have f_z2 := z2.fr
    have lt_q0 := cell_lt q0
    have lt_r0 := cell_lt r0
    refine (HT1.out _ HB).mono ?_
    rintro e w1 ⟨rfl, ht_⟩
    have hv_ : Below u.heap.size u w1 := Below.trans (b := _) (by repeat (first | assumption | exact Below.refl _ _ | refine Below.alloc ?_ (by simp; try omega) _ | refine Below.drew ?_ | refine below_drewN ?_ _)) (ht_.mono (by simp; try omega))
    replace q0 := keep_cell hv_ q0
    replace q1 := keep_cell hv_ q1
    replace q2 := keep_cell hv_ q2
    replace q3 := keep_cell hv_ q3
    replace r0 := keep_cell hv_ r0
    replace r1 := keep_cell hv_ r1
    replace r2 := keep_cell hv_ r2
    replace r3 := keep_cell hv_ r3
    have lt_q0 := cell_lt q0
    have lt_q1 := cell_lt q1
    have lt_q2 := cell_lt q2
    have lt_q3 := cell_lt q3
    have lt_r0 := cell_lt r0
    have lt_r1 := cell_lt r1
    have lt_r2 := cell_lt r2
    have lt_r3 := cell_lt r3
    replace HB := HB.trans (hv_.mono HB.size)
    clear hv_
    go_wp2_with fail
    refine (HE.out _ HB).mono ?_
    rintro e we ⟨rfl, hwe⟩
    go_wp2
    go_ret
    exact ⟨rfl, bel_step HB hwe⟩
  cases t2
  · clear HT3 HT4 HV1 HV2 ht1 ht2 ht3 ht4
    clear ma mb mc md
    generalize xs.length = ka at *
    generalize ys.length = la at *
    generalize us.length = kb at *
    generalize vs.length = lb at *
    go_enter Tryz.func11, Tryz.ntmps11
    go_wp2_with fail
    refine enterFF (P := fun u => Calls _ _ _ u _) ?_
    intro u HB q0 q1 q2 q3 r0 r1 r2 r3 z1 z2 hsz
    clear hsz
    have f_z1 := z1.fr
    have f_z2 := z2.fr
    have lt_q0 := cell_lt q0
    have lt_r0 := cell_lt r0
    refine (HT1.out _ HB).mono ?_
    rintro e w1 ⟨rfl, ht_⟩
    have hv_ : Below u.heap.size u w1 := Below.trans (b := _) (by repeat (first | assumption | exact Below.refl _ _ | refine Below.alloc ?_ (by simp; try omega) _ | refine Below.drew ?_ | refine below_drewN ?_ _)) (ht_.mono (by simp; try omega))
    replace q0 := keep_cell hv_ q0
    replace q1 := keep_cell hv_ q1
    replace q2 := keep_cell hv_ q2
    replace q3 := keep_cell hv_ q3
    replace r0 := keep_cell hv_ r0
    replace r1 := keep_cell hv_ r1
    replace r2 := keep_cell hv_ r2
    replace r3 := keep_cell hv_ r3
    have lt_q0 := cell_lt q0
    have lt_q1 := cell_lt q1
    have lt_q2 := cell_lt q2
    have lt_q3 := cell_lt q3
    have lt_r0 := cell_lt r0
    have lt_r1 := cell_lt r1
    have lt_r2 := cell_lt r2
    have lt_r3 := cell_lt r3
    replace HB := HB.trans (hv_.mono HB.size)
    clear hv_
    go_wp2_with fail
    refine (HT2.out _ HB).mono ?_
    rintro e w2 ⟨rfl, ht_⟩
    have hv_ : Below w1.heap.size w1 w2 := Below.trans (b := _) (by repeat (first | assumption | exact Below.refl _ _ | refine Below.alloc ?_ (by simp; try omega) _ | refine Below.drew ?_ | refine below_drewN ?_ _)) (ht_.mono (by simp; try omega))
    replace q0 := keep_cell hv_ q0
    replace q1 := keep_cell hv_ q1
    replace q2 := keep_cell hv_ q2
    replace q3 := keep_cell hv_ q3
    replace r0 := keep_cell hv_ r0
    replace r1 := keep_cell hv_ r1
    replace r2 := keep_cell hv_ r2
    replace r3 := keep_cell hv_ r3
    have lt_q0 := cell_lt q0
    have lt_q1 := cell_lt q1
    have lt_q2 := cell_lt q2
    have lt_q3 := cell_lt q3
    have lt_r0 := cell_lt r0
    have lt_r1 := cell_lt r1
    have lt_r2 := cell_lt r2
    have lt_r3 := cell_lt r3
    replace HB := HB.trans (hv_.mono HB.size)
    clear hv_
    go_wp2_with fail
    refine (HE.out _ HB).mono ?_
    rintro e we ⟨rfl, hwe⟩
    go_wp2
    go_ret
    exact ⟨rfl, bel_step HB hwe⟩
  cases t3
  · clear HT4 HV1 HV2 ht1 ht2 ht3 ht4
    clear ma mb mc md
    generalize xs.length = ka at *
    generalize ys.length = la at *
    generalize us.length = kb at *
    generalize vs.length = lb at *
    go_enter Tryz.func11, Tryz.ntmps11
    go_wp2_with fail
    refine enterFF (P := fun u => Calls _ _ _ u _) ?_
    intro u HB q0 q1 q2 q3 r0 r1 r2 r3 z1 z2 hsz
    clear hsz
    have f_z1 := z1.fr
    have f_z2 := z2.fr
    have lt_q0 := cell_lt q0
    have lt_r0 := cell_lt r0
    refine (HT1.out _ HB).mono ?_
    rintro e w1 ⟨rfl, ht_⟩
    have hv_ : Below u.heap.size u w1 := Below.trans (b := _) (by repeat (first | assumption | exact Below.refl _ _ | refine Below.alloc ?_ (by simp; try omega) _ | refine Below.drew ?_ | refine below_drewN ?_ _)) (ht_.mono (by simp; try omega))
    replace q0 := keep_cell hv_ q0
    replace q1 := keep_cell hv_ q1
    replace q2 := keep_cell hv_ q2
    replace q3 := keep_cell hv_ q3
    replace r0 := keep_cell hv_ r0
    replace r1 := keep_cell hv_ r1
    replace r2 := keep_cell hv_ r2
    replace r3 := keep_cell hv_ r3
    have lt_q0 := cell_lt q0
    have lt_q1 := cell_lt q1
    have lt_q2 := cell_lt q2
    have lt_q3 := cell_lt q3
    have lt_r0 := cell_lt r0
    have lt_r1 := cell_lt r1
    have lt_r2 := cell_lt r2
    have lt_r3 := cell_lt r3
    replace HB := HB.trans (hv_.mono HB.size)
    clear hv_
    go_wp2_with fail
    refine (HT2.out _ HB).mono ?_
    rintro e w2 ⟨rfl, ht_⟩
    have hv_ : Below w1.heap.size w1 w2 := Below.trans (b := _) (by repeat (first | assumption | exact Below.refl _ _ | refine Below.alloc ?_ (by simp; try omega) _ | refine Below.drew ?_ | refine below_drewN ?_ _)) (ht_.mono (by simp; try omega))
    replace q0 := keep_cell hv_ q0
    replace q1 := keep_cell hv_ q1
    replace q2 := keep_cell hv_ q2
    replace q3 := keep_cell hv_ q3
    replace r0 := keep_cell hv_ r0
    replace r1 := keep_cell hv_ r1
    replace r2 := keep_cell hv_ r2
    replace r3 := keep_cell hv_ r3
    have lt_q0 := cell_lt q0
    have lt_q1 := cell_lt q1
    have lt_q2 := cell_lt q2
    have lt_q3 := cell_lt q3
    have lt_r0 := cell_lt r0
    have lt_r1 := cell_lt r1
    have lt_r2 := cell_lt r2
    have lt_r3 := cell_lt r3
    replace HB := HB.trans (hv_.mono HB.size)
    clear hv_
    go_wp2_with fail
    refine (HT3.out _ HB).mono ?_
    rintro e w3 ⟨rfl, ht_⟩
    have hv_ : Below w2.heap.size w2 w3 := Below.trans (b := _) (by repeat (first | assumption | exact Below.refl _ _ | refine Below.alloc ?_ (by simp; try omega) _ | refine Below.drew ?_ | refine below_drewN ?_ _)) (ht_.mono (by simp; try omega))
    replace q0 := keep_cell hv_ q0
    replace q1 := keep_cell hv_ q1
    replace q2 := keep_cell hv_ q2
    replace q3 := keep_cell hv_ q3
    replace r0 := keep_cell hv_ r0
    replace r1 := keep_cell hv_ r1
    replace r2 := keep_cell hv_ r2
    replace r3 := keep_cell hv_ r3
    have lt_q0 := cell_lt q0
    have lt_q1 := cell_lt q1
    have lt_q2 := cell_lt q2
    have lt_q3 := cell_lt q3
    have lt_r0 := cell_lt r0
    have lt_r1 := cell_lt r1
    have lt_r2 := cell_lt r2
    have lt_r3 := cell_lt r3
    replace HB := HB.trans (hv_.mono HB.size)
    clear hv_
    go_wp2_with fail
    refine (HE.out _ HB).mono ?_
    rintro e we ⟨rfl, hwe⟩
    go_wp2
    go_ret
    exact ⟨rfl, bel_step HB hwe⟩
  cases t4
  · clear HV1 HV2 ht1 ht2 ht3 ht4
    clear ma mb mc md
    generalize xs.length = ka at *
    generalize ys.length = la at *
    generalize us.length = kb at *
    generalize vs.length = lb at *
    go_enter Tryz.func11, Tryz.ntmps11
    go_wp2_with fail
    refine enterFF (P := fun u => Calls _ _ _ u _) ?_
    intro u HB q0 q1 q2 q3 r0 r1 r2 r3 z1 z2 hsz
    clear hsz
    have f_z1 := z1.fr
    have f_z2 := z2.fr
    have lt_q0 := cell_lt q0
    have lt_r0 := cell_lt r0
    refine (HT1.out _ HB).mono ?_
    rintro e w1 ⟨rfl, ht_⟩
    have hv_ : Below u.heap.size u w1 := Below.trans (b := _) (by repeat (first | assumption | exact Below.refl _ _ | refine Below.alloc ?_ (by simp; try omega) _ | refine Below.drew ?_ | refine below_drewN ?_ _)) (ht_.mono (by simp; try omega))
    replace q0 := keep_cell hv_ q0
    replace q1 := keep_cell hv_ q1
    replace q2 := keep_cell hv_ q2
    replace q3 := keep_cell hv_ q3
    replace r0 := keep_cell hv_ r0
    replace r1 := keep_cell hv_ r1
    replace r2 := keep_cell hv_ r2
    replace r3 := keep_cell hv_ r3
    have lt_q0 := cell_lt q0
    have lt_q1 := cell_lt q1
    have lt_q2 := cell_lt q2
    have lt_q3 := cell_lt q3
    have lt_r0 := cell_lt r0
    have lt_r1 := cell_lt r1
    have lt_r2 := cell_lt r2
    have lt_r3 := cell_lt r3
    replace HB := HB.trans (hv_.mono HB.size)
    clear hv_
    go_wp2_with fail
    refine (HT2.out _ HB).mono ?_
    rintro e w2 ⟨rfl, ht_⟩
    have hv_ : Below w1.heap.size w1 w2 := Below.trans (b := _) (by repeat (first | assumption | exact Below.refl _ _ | refine Below.alloc ?_ (by simp; try omega) _ | refine Below.drew ?_ | refine below_drewN ?_ _)) (ht_.mono (by simp; try omega))
    replace q0 := keep_cell hv_ q0
    replace q1 := keep_cell hv_ q1
    replace q2 := keep_cell hv_ q2
    replace q3 := keep_cell hv_ q3
    replace r0 := keep_cell hv_ r0
    replace r1 := keep_cell hv_ r1
    replace r2 := keep_cell hv_ r2
    replace r3 := keep_cell hv_ r3
    have lt_q0 := cell_lt q0
    have lt_q1 := cell_lt q1
    have lt_q2 := cell_lt q2
    have lt_q3 := cell_lt q3
    have lt_r0 := cell_lt r0
    have lt_r1 := cell_lt r1
    have lt_r2 := cell_lt r2
    have lt_r3 := cell_lt r3
    replace HB := HB.trans (hv_.mono HB.size)
    clear hv_
    go_wp2_with fail
    refine (HT3.out _ HB).mono ?_
    rintro e w3 ⟨rfl, ht_⟩
    have hv_ : Below w2.heap.size w2 w3 := Below.trans (b := _) (by repeat (first | assumption | exact Below.refl _ _ | refine Below.alloc ?_ (by simp; try omega) _ | refine Below.drew ?_ | refine below_drewN ?_ _)) (ht_.mono (by simp; try omega))
    replace q0 := keep_cell hv_ q0
    replace q1 := keep_cell hv_ q1
    replace q2 := keep_cell hv_ q2
    replace q3 := keep_cell hv_ q3
    replace r0 := keep_cell hv_ r0
    replace r1 := keep_cell hv_ r1
    replace r2 := keep_cell hv_ r2
    replace r3 := keep_cell hv_ r3
    have lt_q0 := cell_lt q0
    have lt_q1 := cell_lt q1
    have lt_q2 := cell_lt q2
    have lt_q3 := cell_lt q3
    have lt_r0 := cell_lt r0
    have lt_r1 := cell_lt r1
    have lt_r2 := cell_lt r2
    have lt_r3 := cell_lt r3
    replace HB := HB.trans (hv_.mono HB.size)
    clear hv_
    go_wp2_with fail
    refine (HT4.out _ HB).mono ?_
    rintro e w4 ⟨rfl, ht_⟩
    have hv_ : Below w3.heap.size w3 w4 := Below.trans (b := _) (by repeat (first | assumption | exact Below.refl _ _ | refine Below.alloc ?_ (by simp; try omega) _ | refine Below.drew ?_ | refine below_drewN ?_ _)) (ht_.mono (by simp; try omega))
    replace q0 := keep_cell hv_ q0
    replace q1 := keep_cell hv_ q1
    replace q2 := keep_cell hv_ q2
    replace q3 := keep_cell hv_ q3
    replace r0 := keep_cell hv_ r0
    replace r1 := keep_cell hv_ r1
    replace r2 := keep_cell hv_ r2
    replace r3 := keep_cell hv_ r3
    have lt_q0 := cell_lt q0
    have lt_q1 := cell_lt q1
    have lt_q2 := cell_lt q2
    have lt_q3 := cell_lt q3
    have lt_r0 := cell_lt r0
    have lt_r1 := cell_lt r1
    have lt_r2 := cell_lt r2
    have lt_r3 := cell_lt r3
    replace HB := HB.trans (hv_.mono HB.size)
    clear hv_
    go_wp2_with fail
    refine (HE.out _ HB).mono ?_
    rintro e we ⟨rfl, hwe⟩
    go_wp2
    go_ret
    exact ⟨rfl, bel_step HB hwe⟩
  cases v1 : fvB na xs nb ys
  · rw [v1] at HV1
    clear HV2 ht1 ht2 ht3 ht4 v1
    clear ma mb mc md
    generalize xs.length = ka at *
    generalize ys.length = la at *
    generalize us.length = kb at *
    generalize vs.length = lb at *
    go_enter Tryz.func11, Tryz.ntmps11
    go_wp2_with fail
    refine enterFF (P := fun u => Calls _ _ _ u _) ?_
    intro u HB q0 q1 q2 q3 r0 r1 r2 r3 z1 z2 hsz
    clear hsz
    have f_z1 := z1.fr
    have f_z2 := z2.fr
    have lt_q0 := cell_lt q0
    have lt_r0 := cell_lt r0
    refine (HT1.out _ HB).mono ?_
    rintro e w1 ⟨rfl, ht_⟩
    have hv_ : Below u.heap.size u w1 := Below.trans (b := _) (by repeat (first | assumption | exact Below.refl _ _ | refine Below.alloc ?_ (by simp; try omega) _ | refine Below.drew ?_ | refine below_drewN ?_ _)) (ht_.mono (by simp; try omega))
    replace q0 := keep_cell hv_ q0
    replace q1 := keep_cell hv_ q1
    replace q2 := keep_cell hv_ q2
    replace q3 := keep_cell hv_ q3
    replace r0 := keep_cell hv_ r0
    replace r1 := keep_cell hv_ r1
    replace r2 := keep_cell hv_ r2
    replace r3 := keep_cell hv_ r3
    have lt_q0 := cell_lt q0
    have lt_q1 := cell_lt q1
    have lt_q2 := cell_lt q2
    have lt_q3 := cell_lt q3
    have lt_r0 := cell_lt r0
    have lt_r1 := cell_lt r1
    have lt_r2 := cell_lt r2
    have lt_r3 := cell_lt r3
    replace HB := HB.trans (hv_.mono HB.size)
    clear hv_
    go_wp2_with fail
    refine (HT2.out _ HB).mono ?_
    rintro e w2 ⟨rfl, ht_⟩
    have hv_ : Below w1.heap.size w1 w2 := Below.trans (b := _) (by repeat (first | assumption | exact Below.refl _ _ | refine Below.alloc ?_ (by simp; try omega) _ | refine Below.drew ?_ | refine below_drewN ?_ _)) (ht_.mono (by simp; try omega))
    replace q0 := keep_cell hv_ q0
    replace q1 := keep_cell hv_ q1
    replace q2 := keep_cell hv_ q2
    replace q3 := keep_cell hv_ q3
    replace r0 := keep_cell hv_ r0
    replace r1 := keep_cell hv_ r1
    replace r2 := keep_cell hv_ r2
    replace r3 := keep_cell hv_ r3
    have lt_q0 := cell_lt q0
    have lt_q1 := cell_lt q1
    have lt_q2 := cell_lt q2
    have lt_q3 := cell_lt q3
    have lt_r0 := cell_lt r0
    have lt_r1 := cell_lt r1
    have lt_r2 := cell_lt r2
    have lt_r3 := cell_lt r3
    replace HB := HB.trans (hv_.mono HB.size)
    clear hv_
    go_wp2_with fail
    refine (HT3.out _ HB).mono ?_
    rintro e w3 ⟨rfl, ht_⟩
    have hv_ : Below w2.heap.size w2 w3 := Below.trans (b := _) (by repeat (first | assumption | exact Below.refl _ _ | refine Below.alloc ?_ (by simp; try omega) _ | refine Below.drew ?_ | refine below_drewN ?_ _)) (ht_.mono (by simp; try omega))
    replace q0 := keep_cell hv_ q0
    replace q1 := keep_cell hv_ q1
    replace q2 := keep_cell hv_ q2
    replace q3 := keep_cell hv_ q3
    replace r0 := keep_cell hv_ r0
    replace r1 := keep_cell hv_ r1
    replace r2 := keep_cell hv_ r2
    replace r3 := keep_cell hv_ r3
    have lt_q0 := cell_lt q0
    have lt_q1 := cell_lt q1
    have lt_q2 := cell_lt q2
    have lt_q3 := cell_lt q3
    have lt_r0 := cell_lt r0
    have lt_r1 := cell_lt r1
    have lt_r2 := cell_lt r2
    have lt_r3 := cell_lt r3
    replace HB := HB.trans (hv_.mono HB.size)
    clear hv_
    go_wp2_with fail
    refine (HT4.out _ HB).mono ?_
    rintro e w4 ⟨rfl, ht_⟩
    have hv_ : Below w3.heap.size w3 w4 := Below.trans (b := _) (by repeat (first | assumption | exact Below.refl _ _ | refine Below.alloc ?_ (by simp; try omega) _ | refine Below.drew ?_ | refine below_drewN ?_ _)) (ht_.mono (by simp; try omega))
    replace q0 := keep_cell hv_ q0
    replace q1 := keep_cell hv_ q1
    replace q2 := keep_cell hv_ q2
    replace q3 := keep_cell hv_ q3
    replace r0 := keep_cell hv_ r0
    replace r1 := keep_cell hv_ r1
    replace r2 := keep_cell hv_ r2
    replace r3 := keep_cell hv_ r3
    have lt_q0 := cell_lt q0
    have lt_q1 := cell_lt q1
    have lt_q2 := cell_lt q2
    have lt_q3 := cell_lt q3
    have lt_r0 := cell_lt r0
    have lt_r1 := cell_lt r1
    have lt_r2 := cell_lt r2
    have lt_r3 := cell_lt r3
    replace HB := HB.trans (hv_.mono HB.size)
    clear hv_
    go_wp2_with fail
    refine (HV1.out _ HB).mono ?_
    rintro e w5 ⟨rfl, ht_⟩
    have hv_ : Below w4.heap.size w4 w5 := Below.trans (b := _) (by repeat (first | assumption | exact Below.refl _ _ | refine Below.alloc ?_ (by simp; try omega) _ | refine Below.drew ?_ | refine below_drewN ?_ _)) (ht_.mono (by simp; try omega))
    replace q0 := keep_cell hv_ q0
    replace q1 := keep_cell hv_ q1
    replace q2 := keep_cell hv_ q2
    replace q3 := keep_cell hv_ q3
    replace r0 := keep_cell hv_ r0
    replace r1 := keep_cell hv_ r1
    replace r2 := keep_cell hv_ r2
    replace r3 := keep_cell hv_ r3
    have lt_q0 := cell_lt q0
    have lt_q1 := cell_lt q1
    have lt_q2 := cell_lt q2
    have lt_q3 := cell_lt q3
    have lt_r0 := cell_lt r0
    have lt_r1 := cell_lt r1
    have lt_r2 := cell_lt r2
    have lt_r3 := cell_lt r3
    replace HB := HB.trans (hv_.mono HB.size)
    clear hv_
    go_wp2_with fail
    refine (HE.out _ HB).mono ?_
    rintro e we ⟨rfl, hwe⟩
    go_wp2
    go_ret
    exact ⟨rfl, bel_step HB hwe⟩
  rw [v1] at HV1
  cases v2 : fvB nc us nd vs
  · rw [v2] at HV2
    clear ht1 ht2 ht3 ht4 v1 v2
    clear ma mb mc md
    generalize xs.length = ka at *
    generalize ys.length = la at *
    generalize us.length = kb at *
    generalize vs.length = lb at *
    go_enter Tryz.func11, Tryz.ntmps11
    go_wp2_with fail
    refine enterFF (P := fun u => Calls _ _ _ u _) ?_
    intro u HB q0 q1 q2 q3 r0 r1 r2 r3 z1 z2 hsz
    clear hsz
    have f_z1 := z1.fr
    have f_z2 := z2.fr
    have lt_q0 := cell_lt q0
    have lt_r0 := cell_lt r0
    refine (HT1.out _ HB).mono ?_
    rintro e w1 ⟨rfl, ht_⟩
    have hv_ : Below u.heap.size u w1 := Below.trans (b := _) (by repeat (first | assumption | exact Below.refl _ _ | refine Below.alloc ?_ (by simp; try omega) _ | refine Below.drew ?_ | refine below_drewN ?_ _)) (ht_.mono (by simp; try omega))
    replace q0 := keep_cell hv_ q0
    replace q1 := keep_cell hv_ q1
    replace q2 := keep_cell hv_ q2
    replace q3 := keep_cell hv_ q3
    replace r0 := keep_cell hv_ r0
    replace r1 := keep_cell hv_ r1
    replace r2 := keep_cell hv_ r2
    replace r3 := keep_cell hv_ r3
    have lt_q0 := cell_lt q0
    have lt_q1 := cell_lt q1
    have lt_q2 := cell_lt q2
    have lt_q3 := cell_lt q3
    have lt_r0 := cell_lt r0
    have lt_r1 := cell_lt r1
    have lt_r2 := cell_lt r2
    have lt_r3 := cell_lt r3
    replace HB := HB.trans (hv_.mono HB.size)
    clear hv_
    go_wp2_with fail
    refine (HT2.out _ HB).mono ?_
    rintro e w2 ⟨rfl, ht_⟩
    have hv_ : Below w1.heap.size w1 w2 := Below.trans (b := _) (by repeat (first | assumption | exact Below.refl _ _ | refine Below.alloc ?_ (by simp; try omega) _ | refine Below.drew ?_ | refine below_drewN ?_ _)) (ht_.mono (by simp; try omega))
    replace q0 := keep_cell hv_ q0
    replace q1 := keep_cell hv_ q1
    replace q2 := keep_cell hv_ q2
    replace q3 := keep_cell hv_ q3
    replace r0 := keep_cell hv_ r0
    replace r1 := keep_cell hv_ r1
    replace r2 := keep_cell hv_ r2
    replace r3 := keep_cell hv_ r3
    have lt_q0 := cell_lt q0
    have lt_q1 := cell_lt q1
    have lt_q2 := cell_lt q2
    have lt_q3 := cell_lt q3
    have lt_r0 := cell_lt r0
    have lt_r1 := cell_lt r1
    have lt_r2 := cell_lt r2
    have lt_r3 := cell_lt r3
    replace HB := HB.trans (hv_.mono HB.size)
    clear hv_
    go_wp2_with fail
    refine (HT3.out _ HB).mono ?_
    rintro e w3 ⟨rfl, ht_⟩
    have hv_ : Below w2.heap.size w2 w3 := Below.trans (b := _) (by repeat (first | assumption | exact Below.refl _ _ | refine Below.alloc ?_ (by simp; try omega) _ | refine Below.drew ?_ | refine below_drewN ?_ _)) (ht_.mono (by simp; try omega))
    replace q0 := keep_cell hv_ q0
    replace q1 := keep_cell hv_ q1
    replace q2 := keep_cell hv_ q2
    replace q3 := keep_cell hv_ q3
    replace r0 := keep_cell hv_ r0
    replace r1 := keep_cell hv_ r1
    replace r2 := keep_cell hv_ r2
    replace r3 := keep_cell hv_ r3
    have lt_q0 := cell_lt q0
    have lt_q1 := cell_lt q1
    have lt_q2 := cell_lt q2
    have lt_q3 := cell_lt q3
    have lt_r0 := cell_lt r0
    have lt_r1 := cell_lt r1
    have lt_r2 := cell_lt r2
    have lt_r3 := cell_lt r3
    replace HB := HB.trans (hv_.mono HB.size)
    clear hv_
    go_wp2_with fail
    refine (HT4.out _ HB).mono ?_
    rintro e w4 ⟨rfl, ht_⟩
    have hv_ : Below w3.heap.size w3 w4 := Below.trans (b := _) (by repeat (first | assumption | exact Below.refl _ _ | refine Below.alloc ?_ (by simp; try omega) _ | refine Below.drew ?_ | refine below_drewN ?_ _)) (ht_.mono (by simp; try omega))
    replace q0 := keep_cell hv_ q0
    replace q1 := keep_cell hv_ q1
    replace q2 := keep_cell hv_ q2
    replace q3 := keep_cell hv_ q3
    replace r0 := keep_cell hv_ r0
    replace r1 := keep_cell hv_ r1
    replace r2 := keep_cell hv_ r2
    replace r3 := keep_cell hv_ r3
    have lt_q0 := cell_lt q0
    have lt_q1 := cell_lt q1
    have lt_q2 := cell_lt q2
    have lt_q3 := cell_lt q3
    have lt_r0 := cell_lt r0
    have lt_r1 := cell_lt r1
    have lt_r2 := cell_lt r2
    have lt_r3 := cell_lt r3
    replace HB := HB.trans (hv_.mono HB.size)
    clear hv_
    go_wp2_with fail
    refine (HV1.out _ HB).mono ?_
    rintro e w5 ⟨rfl, ht_⟩
    have hv_ : Below w4.heap.size w4 w5 := Below.trans (b := _) (by repeat (first | assumption | exact Below.refl _ _ | refine Below.alloc ?_ (by simp; try omega) _ | refine Below.drew ?_ | refine below_drewN ?_ _)) (ht_.mono (by simp; try omega))
    replace q0 := keep_cell hv_ q0
    replace q1 := keep_cell hv_ q1
    replace q2 := keep_cell hv_ q2
    replace q3 := keep_cell hv_ q3
    replace r0 := keep_cell hv_ r0
    replace r1 := keep_cell hv_ r1
    replace r2 := keep_cell hv_ r2
    replace r3 := keep_cell hv_ r3
    have lt_q0 := cell_lt q0
    have lt_q1 := cell_lt q1
    have lt_q2 := cell_lt q2
    have lt_q3 := cell_lt q3
    have lt_r0 := cell_lt r0
    have lt_r1 := cell_lt r1
    have lt_r2 := cell_lt r2
    have lt_r3 := cell_lt r3
    replace HB := HB.trans (hv_.mono HB.size)
    clear hv_
    go_wp2_with fail
    refine (HV2.out _ HB).mono ?_
    rintro e w6 ⟨rfl, ht_⟩
    have hv_ : Below w5.heap.size w5 w6 := Below.trans (b := _) (by repeat (first | assumption | exact Below.refl _ _ | refine Below.alloc ?_ (by simp; try omega) _ | refine Below.drew ?_ | refine below_drewN ?_ _)) (ht_.mono (by simp; try omega))
    replace HB := HB.trans (hv_.mono HB.size)
    clear hv_
    go_wp2_with fail
    refine (HE.out _ HB).mono ?_
    rintro e we ⟨rfl, hwe⟩
    go_wp2
    go_ret
    exact ⟨rfl, bel_step HB hwe⟩
  rw [v2] at HV2
  obtain ⟨rfl, p1, p2, p3, p4, p5, p6⟩ := fvB_ok ma.ok mb.ok v1
  obtain ⟨rfl, p7, p8, p9, p10, p11, p12⟩ := fvB_ok mc.ok md.ok v2
  have IF : Hid (Fz (sg na (val xs), val ys) na xs.length xs ys.length ys) := ⟨p1, by rw [natAbs_sg]; exact p2, rfl, p3, rfl⟩
  have IG : Hid (Fz (sg nc (val us), val vs) nc us.length us vs.length vs) := ⟨p7, by rw [natAbs_sg]; exact p8, rfl, p9, rfl⟩
  generalize (sg na (val xs), val ys) = f at *
  generalize (sg nc (val us), val vs) = g at *
  have NF := p4
  have NG := p10
  simp only [decide_eq_true_eq] at ht1 ht2 ht3 ht4
  have sf : Sz 32 f := Sz.of_limbs (m := 1) (by rw [IF.out.n.len]; exact ht1) (by rw [IF.out.d.len]; exact ht2)
  have sg_ : Sz 32 g := Sz.of_limbs (m := 1) (by rw [IG.out.n.len]; exact ht3) (by rw [IG.out.d.len]; exact ht4)
  have vf := sf.vf (by omega) NF
  have vg := sg_.vf (by omega) NG
  have MM := hid fun (w1 : World) (h : Below w.heap.size w w1) => And.intro (And.intro (ma.below h) (mb.below h)) (And.intro (mc.below h) (md.below h))
  clear p1 p2 p3 p4 p5 p6 p7 p8 p9 p10 p11 p12 v1 v2 ht1 ht2 ht3 ht4
  by_cases hcm : 0 < cmpF f g
  · obtain ⟨bx, kx, Xx, lx, Yx, Ix⟩ := fz ((0 : Int), 0)
    have HHs := hid fun (w1 : World) (R Q R' Q' : Option Addr) (c d c' d' : Nat) (m1 : Mg w1 R c xs) (m2 : Mg w1 Q d ys) (m3 : Mg w1 R' c' us) (m4 : Mg w1 Q' d' vs) => FrSimplest_f (w := w1) IF.out IG.out vf vg (sim_no hcm) Ix.out m1 m2 m3 m4
    obtain ⟨z1, hz1⟩ : ∃ z, cmpF f g = z := ⟨_, rfl⟩
    have HH_1 := hid fun (w1 : World) (R Q R' Q' : Option Addr) (c d c' d' : Nat) (m1 : Mg w1 R c xs) (m2 : Mg w1 Q d ys) (m3 : Mg w1 R' c' us) (m4 : Mg w1 Q' d' vs) => FrCmp_f (w := w1) IF.out IG.out vf vg _ hz1 m1 m2 m3 m4
    have HC1 := HH_1
    rw [hz1] at hcm
    clear IF IG NF NG sf sg_ vf vg Ix hz1 HH_1
    clear ma mb mc md
    generalize xs.length = ka at *
    generalize ys.length = la at *
    generalize us.length = kb at *
    generalize vs.length = lb at *
    go_enter Tryz.func11, Tryz.ntmps11
    go_wp2_with fail
    refine enterFF (P := fun u => Calls _ _ _ u _) ?_
    intro u HB q0 q1 q2 q3 r0 r1 r2 r3 z1 z2 hsz
    clear hsz
    have f_z1 := z1.fr
    have f_z2 := z2.fr
    have lt_q0 := cell_lt q0
    have lt_r0 := cell_lt r0
    refine (HT1.out _ HB).mono ?_
    rintro e w1 ⟨rfl, ht_⟩
    have hv_ : Below u.heap.size u w1 := Below.trans (b := _) (by repeat (first | assumption | exact Below.refl _ _ | refine Below.alloc ?_ (by simp; try omega) _ | refine Below.drew ?_ | refine below_drewN ?_ _)) (ht_.mono (by simp; try omega))
    replace q0 := keep_cell hv_ q0
    replace q1 := keep_cell hv_ q1
    replace q2 := keep_cell hv_ q2
    replace q3 := keep_cell hv_ q3
    replace r0 := keep_cell hv_ r0
    replace r1 := keep_cell hv_ r1
    replace r2 := keep_cell hv_ r2
    replace r3 := keep_cell hv_ r3
    have lt_q0 := cell_lt q0
    have lt_q1 := cell_lt q1
    have lt_q2 := cell_lt q2
    have lt_q3 := cell_lt q3
    have lt_r0 := cell_lt r0
    have lt_r1 := cell_lt r1
    have lt_r2 := cell_lt r2
    have lt_r3 := cell_lt r3
    replace HB := HB.trans (hv_.mono HB.size)
    clear hv_
    go_wp2_with fail
    refine (HT2.out _ HB).mono ?_
    rintro e w2 ⟨rfl, ht_⟩
    have hv_ : Below w1.heap.size w1 w2 := Below.trans (b := _) (by repeat (first | assumption | exact Below.refl _ _ | refine Below.alloc ?_ (by simp; try omega) _ | refine Below.drew ?_ | refine below_drewN ?_ _)) (ht_.mono (by simp; try omega))
    replace q0 := keep_cell hv_ q0
    replace q1 := keep_cell hv_ q1
    replace q2 := keep_cell hv_ q2
    replace q3 := keep_cell hv_ q3
    replace r0 := keep_cell hv_ r0
    replace r1 := keep_cell hv_ r1
    replace r2 := keep_cell hv_ r2
    replace r3 := keep_cell hv_ r3
    have lt_q0 := cell_lt q0
    have lt_q1 := cell_lt q1
    have lt_q2 := cell_lt q2
    have lt_q3 := cell_lt q3
    have lt_r0 := cell_lt r0
    have lt_r1 := cell_lt r1
    have lt_r2 := cell_lt r2
    have lt_r3 := cell_lt r3
    replace HB := HB.trans (hv_.mono HB.size)
    clear hv_
    go_wp2_with fail
    refine (HT3.out _ HB).mono ?_
    rintro e w3 ⟨rfl, ht_⟩
    have hv_ : Below w2.heap.size w2 w3 := Below.trans (b := _) (by repeat (first | assumption | exact Below.refl _ _ | refine Below.alloc ?_ (by simp; try omega) _ | refine Below.drew ?_ | refine below_drewN ?_ _)) (ht_.mono (by simp; try omega))
    replace q0 := keep_cell hv_ q0
    replace q1 := keep_cell hv_ q1
    replace q2 := keep_cell hv_ q2
    replace q3 := keep_cell hv_ q3
    replace r0 := keep_cell hv_ r0
    replace r1 := keep_cell hv_ r1
    replace r2 := keep_cell hv_ r2
    replace r3 := keep_cell hv_ r3
    have lt_q0 := cell_lt q0
    have lt_q1 := cell_lt q1
    have lt_q2 := cell_lt q2
    have lt_q3 := cell_lt q3
    have lt_r0 := cell_lt r0
    have lt_r1 := cell_lt r1
    have lt_r2 := cell_lt r2
    have lt_r3 := cell_lt r3
    replace HB := HB.trans (hv_.mono HB.size)
    clear hv_
    go_wp2_with fail
    refine (HT4.out _ HB).mono ?_
    rintro e w4 ⟨rfl, ht_⟩
    have hv_ : Below w3.heap.size w3 w4 := Below.trans (b := _) (by repeat (first | assumption | exact Below.refl _ _ | refine Below.alloc ?_ (by simp; try omega) _ | refine Below.drew ?_ | refine below_drewN ?_ _)) (ht_.mono (by simp; try omega))
    replace q0 := keep_cell hv_ q0
    replace q1 := keep_cell hv_ q1
    replace q2 := keep_cell hv_ q2
    replace q3 := keep_cell hv_ q3
    replace r0 := keep_cell hv_ r0
    replace r1 := keep_cell hv_ r1
    replace r2 := keep_cell hv_ r2
    replace r3 := keep_cell hv_ r3
    have lt_q0 := cell_lt q0
    have lt_q1 := cell_lt q1
    have lt_q2 := cell_lt q2
    have lt_q3 := cell_lt q3
    have lt_r0 := cell_lt r0
    have lt_r1 := cell_lt r1
    have lt_r2 := cell_lt r2
    have lt_r3 := cell_lt r3
    replace HB := HB.trans (hv_.mono HB.size)
    clear hv_
    go_wp2_with fail
    refine (HV1.out _ HB).mono ?_
    rintro e w5 ⟨rfl, ht_⟩
    have hv_ : Below w4.heap.size w4 w5 := Below.trans (b := _) (by repeat (first | assumption | exact Below.refl _ _ | refine Below.alloc ?_ (by simp; try omega) _ | refine Below.drew ?_ | refine below_drewN ?_ _)) (ht_.mono (by simp; try omega))
    replace q0 := keep_cell hv_ q0
    replace q1 := keep_cell hv_ q1
    replace q2 := keep_cell hv_ q2
    replace q3 := keep_cell hv_ q3
    replace r0 := keep_cell hv_ r0
    replace r1 := keep_cell hv_ r1
    replace r2 := keep_cell hv_ r2
    replace r3 := keep_cell hv_ r3
    have lt_q0 := cell_lt q0
    have lt_q1 := cell_lt q1
    have lt_q2 := cell_lt q2
    have lt_q3 := cell_lt q3
    have lt_r0 := cell_lt r0
    have lt_r1 := cell_lt r1
    have lt_r2 := cell_lt r2
    have lt_r3 := cell_lt r3
    replace HB := HB.trans (hv_.mono HB.size)
    clear hv_
    go_wp2_with fail
    refine (HV2.out _ HB).mono ?_
    rintro e w6 ⟨rfl, ht_⟩
    have hv_ : Below w5.heap.size w5 w6 := Below.trans (b := _) (by repeat (first | assumption | exact Below.refl _ _ | refine Below.alloc ?_ (by simp; try omega) _ | refine Below.drew ?_ | refine below_drewN ?_ _)) (ht_.mono (by simp; try omega))
    replace q0 := keep_cell hv_ q0
    replace q1 := keep_cell hv_ q1
    replace q2 := keep_cell hv_ q2
    replace q3 := keep_cell hv_ q3
    replace r0 := keep_cell hv_ r0
    replace r1 := keep_cell hv_ r1
    replace r2 := keep_cell hv_ r2
    replace r3 := keep_cell hv_ r3
    have lt_q0 := cell_lt q0
    have lt_q1 := cell_lt q1
    have lt_q2 := cell_lt q2
    have lt_q3 := cell_lt q3
    have lt_r0 := cell_lt r0
    have lt_r1 := cell_lt r1
    have lt_r2 := cell_lt r2
    have lt_r3 := cell_lt r3
    replace HB := HB.trans (hv_.mono HB.size)
    clear hv_
    obtain ⟨⟨n1_, n2_⟩, ⟨n3_, n4_⟩⟩ := MM.out _ HB
    have fa : Fb w6 w.heap.size na A ka ca xs B la cb ys := ⟨q0, q1, q2, q3, n1_, n2_⟩
    have fb : Fb w6 (w.heap.size + 1) nc C kb cc us D lb cd vs := ⟨r0, r1, r2, r3, n3_, n4_⟩
    clear q0 q1 q2 q3 r0 r1 r2 r3 n1_ n2_ n3_ n4_ MM HT1 HT2 HT3 HT4 HV1 HV2 lt_q0 lt_q1 lt_q2 lt_q3 lt_r0 lt_r1 lt_r2 lt_r3
    have e0 := fa.c0
    have e1 := fa.c1
    have e2 := fa.c2
    have e3 := fa.c3
    have f0 := fb.c0
    have f1 := fb.c1
    have f2 := fb.c2
    have f3 := fb.c3
    have lt_e0 := cell_lt e0
    have lt_f0 := cell_lt f0
    go_wp2_with fail
    refine (HHs.out _ _ _ _ _ _ _ _ _ fa.m fa.n fb.m fb.n).mono ?_
    rintro e v3 ⟨R3_, c3_, Q3_, d3_, rfl, m_, n_, h_⟩
    clear e0 e1 e2 e3 f0 f1 f2 f3 lt_e0 lt_f0
    have hv_ : Below w6.heap.size w6 v3 := Below.trans (b := _) (by repeat (first | assumption | exact Below.refl _ _ | refine Below.alloc ?_ (by simp; try omega) _ | refine Below.drew ?_ | refine below_drewN ?_ _)) (h_.mono (by simp; try omega))
    replace fa := fa.below hv_
    replace fb := fb.below hv_
    replace HB := HB.trans (hv_.mono HB.size)
    clear hv_
    go_upto_region 4 with fail
    have ox : Fb (v3.alloc (.cells #[.bool bx, .slice R3_ kx c3_, .bool false, .slice Q3_ lx d3_] 26)) v3.heap.size bx R3_ kx c3_ Xx Q3_ lx d3_ Yx := ⟨at_allocF0 rfl, at_allocF1 rfl, at_allocF2 rfl, at_allocF3 rfl, m_.alloc, n_.alloc⟩
    have hv_ : Below v3.heap.size v3 (v3.alloc (.cells #[.bool bx, .slice R3_ kx c3_, .bool false, .slice Q3_ lx d3_] 26)) := (Below.refl _ _).alloc (Nat.le_refl _) _
    generalize v3.alloc (.cells #[.bool bx, .slice R3_ kx c3_, .bool false, .slice Q3_ lx d3_] 26) = u3 at *
    replace fa := fa.below hv_
    replace fb := fb.below hv_
    replace HB := HB.trans (hv_.mono HB.size)
    clear hv_ m_ n_
    have e0 := fa.c0
    have e1 := fa.c1
    have e2 := fa.c2
    have e3 := fa.c3
    have f0 := fb.c0
    have f1 := fb.c1
    have f2 := fb.c2
    have f3 := fb.c3
    have lt_e0 := cell_lt e0
    have lt_f0 := cell_lt f0
    go_wp2_with fail
    refine (HC1.out _ _ _ _ _ _ _ _ _ fa.m fa.n fb.m fb.n).mono ?_
    rintro e w7 ⟨rfl, h_⟩
    clear e0 e1 e2 e3 f0 f1 f2 f3 lt_e0 lt_f0
    have hv_ : Below u3.heap.size u3 w7 := Below.trans (b := _) (by repeat (first | assumption | exact Below.refl _ _ | refine Below.alloc ?_ (by simp; try omega) _ | refine Below.drew ?_ | refine below_drewN ?_ _)) (h_.mono (by simp; try omega))
    replace fa := fa.below hv_
    replace fb := fb.below hv_
    replace ox := ox.below hv_
    replace HB := HB.trans (hv_.mono HB.size)
    clear hv_
    go_wp2_with fail
    refine (HE.out _ HB).mono ?_
    rintro e we ⟨rfl, hwe⟩
    go_wp2
    go_ret
    exact ⟨rfl, bel_step HB hwe⟩
  · obtain ⟨x, hsim, hmin⟩ := sim_min NF NG hcm
    have hdx : x.2 < 4294967296 := by have := hmin.d; have := sf.d; have := sg_.d; omega
    have hnx : x.1.natAbs < 4294967296 := by have := hmin.n; have := sf.n; have := sg_.n; omega
    have sx : Sz 32 x := ⟨hnx, hdx⟩
    have hd0 := hmin.nf.1
    have vx := sx.vf (by omega) hmin.nf
    obtain ⟨DD, hDD⟩ : ∃ D, x.2 = D := ⟨_, rfl⟩
    have hY : limbs x.2 = [DD] := by rw [hDD]; rw [hDD] at hdx hd0; rw [limbs_pos (by omega), Nat.mod_eq_of_lt hdx, Nat.div_eq_of_lt hdx, limbs_zero]
    obtain ⟨bx, kx, Xx, lx, Yx, Ix⟩ := fz x
    have hYx : Hid (Yx = [DD]) := Ix.out.hy.trans hY
    have hlx : Hid (lx = 1) := by unfold Hid; rw [Ix.out.hl, hYx.out]; rfl
    have hkx : kx = 0 ↔ x.1 = 0 := Ix.out.num.zero
    have hbx : bx = decide (x.1 < 0) := Ix.out.hb
    have HIN := hid fun (d : Nat) (h1 : 0 < d) (h2 : d ≤ 300) (h3 : d < DD) (w1 : World) (R Q R' Q' : Option Addr) (c d_ c' d' : Nat) (m1 : Mg w1 R c xs) (m2 : Mg w1 Q d_ ys) (m3 : Mg w1 R' c' us) (m4 : Mg w1 Q' d' vs) => Linside_g (w := w1) IF.out IG.out NF NG sf sg_ h1 h2 (inside_no NF NG hmin h1 (by rw [hDD]; exact h3)) m1 m2 m3 m4
    have hlo := hmin.lo
    have hhi := hmin.hi
    obtain ⟨z2, hz2⟩ : ∃ z, cmpF f x = z := ⟨_, rfl⟩
    obtain ⟨z3, hz3⟩ : ∃ z, cmpF x g = z := ⟨_, rfl⟩
    have HHs := hid fun (w1 : World) (R Q R' Q' : Option Addr) (c d c' d' : Nat) (m1 : Mg w1 R c xs) (m2 : Mg w1 Q d ys) (m3 : Mg w1 R' c' us) (m4 : Mg w1 Q' d' vs) => FrSimplest_f (w := w1) IF.out IG.out vf vg hsim Ix.out m1 m2 m3 m4
    obtain ⟨z1, hz1⟩ : ∃ z, cmpF f g = z := ⟨_, rfl⟩
    have HH_1 := hid fun (w1 : World) (R Q R' Q' : Option Addr) (c d c' d' : Nat) (m1 : Mg w1 R c xs) (m2 : Mg w1 Q d ys) (m3 : Mg w1 R' c' us) (m4 : Mg w1 Q' d' vs) => FrCmp_f (w := w1) IF.out IG.out vf vg _ hz1 m1 m2 m3 m4
    have HC1 := HH_1
    rw [hz1] at hcm
    have HH_2 := hid fun (w1 : World) (R Q R' Q' : Option Addr) (c d c' d' : Nat) (m1 : Mg w1 R c xs) (m2 : Mg w1 Q d ys) (m3 : Mg w1 R' c' Xx) (m4 : Mg w1 Q' d' Yx) => FrCmp_f (w := w1) IF.out Ix.out vf vx _ hz2 m1 m2 m3 m4
    have HC2 := HH_2
    have HH_3 := hid fun (w1 : World) (R Q R' Q' : Option Addr) (c d c' d' : Nat) (m1 : Mg w1 R c Xx) (m2 : Mg w1 Q d Yx) (m3 : Mg w1 R' c' us) (m4 : Mg w1 Q' d' vs) => FrCmp_f (w := w1) Ix.out IG.out vx vg _ hz3 m1 m2 m3 m4
    have HC3 := HH_3
    rw [hz2] at hlo
    rw [hz3] at hhi
    have hnz2 : ¬ 0 < z2 := by omega
    have hnz3 : ¬ 0 < z3 := by omega
    have hDw : IntKind.i64.wrap (DD : Int) = (DD : Int) := by rw [IntKind.wrap_i64]; omega
    by_cases hx0 : x.1 = 0
    · have hkx0 : Hid (kx = 0) := hkx.2 hx0
      clear IF IG NF NG sf sg_ vf vg hsim hmin hdx hnx sx hd0 vx hDD hY Ix hlo hhi hz1 hz2 hz3 HH_1 HH_2 HH_3
      clear hx0 hkx hbx
      clear ma mb mc md
      generalize xs.length = ka at *
      generalize ys.length = la at *
      generalize us.length = kb at *
      generalize vs.length = lb at *
      go_enter Tryz.func11, Tryz.ntmps11
      go_wp2_with fail
      refine enterFF (P := fun u => Calls _ _ _ u _) ?_
      intro u HB q0 q1 q2 q3 r0 r1 r2 r3 z1 z2 hsz
      clear hsz
      have f_z1 := z1.fr
      have f_z2 := z2.fr
      have lt_q0 := cell_lt q0
      have lt_r0 := cell_lt r0
      refine (HT1.out _ HB).mono ?_
      rintro e w1 ⟨rfl, ht_⟩
      have hv_ : Below u.heap.size u w1 := Below.trans (b := _) (by repeat (first | assumption | exact Below.refl _ _ | refine Below.alloc ?_ (by simp; try omega) _ | refine Below.drew ?_ | refine below_drewN ?_ _)) (ht_.mono (by simp; try omega))
      replace q0 := keep_cell hv_ q0
      replace q1 := keep_cell hv_ q1
      replace q2 := keep_cell hv_ q2
      replace q3 := keep_cell hv_ q3
      replace r0 := keep_cell hv_ r0
      replace r1 := keep_cell hv_ r1
      replace r2 := keep_cell hv_ r2
      replace r3 := keep_cell hv_ r3
      have lt_q0 := cell_lt q0
      have lt_q1 := cell_lt q1
      have lt_q2 := cell_lt q2
      have lt_q3 := cell_lt q3
      have lt_r0 := cell_lt r0
      have lt_r1 := cell_lt r1
      have lt_r2 := cell_lt r2
      have lt_r3 := cell_lt r3
      replace HB := HB.trans (hv_.mono HB.size)
      clear hv_
      go_wp2_with fail
      refine (HT2.out _ HB).mono ?_
      rintro e w2 ⟨rfl, ht_⟩
      have hv_ : Below w1.heap.size w1 w2 := Below.trans (b := _) (by repeat (first | assumption | exact Below.refl _ _ | refine Below.alloc ?_ (by simp; try omega) _ | refine Below.drew ?_ | refine below_drewN ?_ _)) (ht_.mono (by simp; try omega))
      replace q0 := keep_cell hv_ q0
      replace q1 := keep_cell hv_ q1
      replace q2 := keep_cell hv_ q2
      replace q3 := keep_cell hv_ q3
      replace r0 := keep_cell hv_ r0
      replace r1 := keep_cell hv_ r1
      replace r2 := keep_cell hv_ r2
      replace r3 := keep_cell hv_ r3
      have lt_q0 := cell_lt q0
      have lt_q1 := cell_lt q1
      have lt_q2 := cell_lt q2
      have lt_q3 := cell_lt q3
      have lt_r0 := cell_lt r0
      have lt_r1 := cell_lt r1
      have lt_r2 := cell_lt r2
      have lt_r3 := cell_lt r3
      replace HB := HB.trans (hv_.mono HB.size)
      clear hv_
      go_wp2_with fail
      refine (HT3.out _ HB).mono ?_
      rintro e w3 ⟨rfl, ht_⟩
      have hv_ : Below w2.heap.size w2 w3 := Below.trans (b := _) (by repeat (first | assumption | exact Below.refl _ _ | refine Below.alloc ?_ (by simp; try omega) _ | refine Below.drew ?_ | refine below_drewN ?_ _)) (ht_.mono (by simp; try omega))
      replace q0 := keep_cell hv_ q0
      replace q1 := keep_cell hv_ q1
      replace q2 := keep_cell hv_ q2
      replace q3 := keep_cell hv_ q3
      replace r0 := keep_cell hv_ r0
      replace r1 := keep_cell hv_ r1
      replace r2 := keep_cell hv_ r2
      replace r3 := keep_cell hv_ r3
      have lt_q0 := cell_lt q0
      have lt_q1 := cell_lt q1
      have lt_q2 := cell_lt q2
      have lt_q3 := cell_lt q3
      have lt_r0 := cell_lt r0
      have lt_r1 := cell_lt r1
      have lt_r2 := cell_lt r2
      have lt_r3 := cell_lt r3
      replace HB := HB.trans (hv_.mono HB.size)
      clear hv_
      go_wp2_with fail
      refine (HT4.out _ HB).mono ?_
      rintro e w4 ⟨rfl, ht_⟩
      have hv_ : Below w3.heap.size w3 w4 := Below.trans (b := _) (by repeat (first | assumption | exact Below.refl _ _ | refine Below.alloc ?_ (by simp; try omega) _ | refine Below.drew ?_ | refine below_drewN ?_ _)) (ht_.mono (by simp; try omega))
      replace q0 := keep_cell hv_ q0
      replace q1 := keep_cell hv_ q1
      replace q2 := keep_cell hv_ q2
      replace q3 := keep_cell hv_ q3
      replace r0 := keep_cell hv_ r0
      replace r1 := keep_cell hv_ r1
      replace r2 := keep_cell hv_ r2
      replace r3 := keep_cell hv_ r3
      have lt_q0 := cell_lt q0
      have lt_q1 := cell_lt q1
      have lt_q2 := cell_lt q2
      have lt_q3 := cell_lt q3
      have lt_r0 := cell_lt r0
      have lt_r1 := cell_lt r1
      have lt_r2 := cell_lt r2
      have lt_r3 := cell_lt r3
      replace HB := HB.trans (hv_.mono HB.size)
      clear hv_
      go_wp2_with fail
      refine (HV1.out _ HB).mono ?_
      rintro e w5 ⟨rfl, ht_⟩
      have hv_ : Below w4.heap.size w4 w5 := Below.trans (b := _) (by repeat (first | assumption | exact Below.refl _ _ | refine Below.alloc ?_ (by simp; try omega) _ | refine Below.drew ?_ | refine below_drewN ?_ _)) (ht_.mono (by simp; try omega))
      replace q0 := keep_cell hv_ q0
      replace q1 := keep_cell hv_ q1
      replace q2 := keep_cell hv_ q2
      replace q3 := keep_cell hv_ q3
      replace r0 := keep_cell hv_ r0
      replace r1 := keep_cell hv_ r1
      replace r2 := keep_cell hv_ r2
      replace r3 := keep_cell hv_ r3
      have lt_q0 := cell_lt q0
      have lt_q1 := cell_lt q1
      have lt_q2 := cell_lt q2
      have lt_q3 := cell_lt q3
      have lt_r0 := cell_lt r0
      have lt_r1 := cell_lt r1
      have lt_r2 := cell_lt r2
      have lt_r3 := cell_lt r3
      replace HB := HB.trans (hv_.mono HB.size)
      clear hv_
      go_wp2_with fail
      refine (HV2.out _ HB).mono ?_
      rintro e w6 ⟨rfl, ht_⟩
      have hv_ : Below w5.heap.size w5 w6 := Below.trans (b := _) (by repeat (first | assumption | exact Below.refl _ _ | refine Below.alloc ?_ (by simp; try omega) _ | refine Below.drew ?_ | refine below_drewN ?_ _)) (ht_.mono (by simp; try omega))
      replace q0 := keep_cell hv_ q0
      replace q1 := keep_cell hv_ q1
      replace q2 := keep_cell hv_ q2
      replace q3 := keep_cell hv_ q3
      replace r0 := keep_cell hv_ r0
      replace r1 := keep_cell hv_ r1
      replace r2 := keep_cell hv_ r2
      replace r3 := keep_cell hv_ r3
      have lt_q0 := cell_lt q0
      have lt_q1 := cell_lt q1
      have lt_q2 := cell_lt q2
      have lt_q3 := cell_lt q3
      have lt_r0 := cell_lt r0
      have lt_r1 := cell_lt r1
      have lt_r2 := cell_lt r2
      have lt_r3 := cell_lt r3
      replace HB := HB.trans (hv_.mono HB.size)
      clear hv_
      obtain ⟨⟨n1_, n2_⟩, ⟨n3_, n4_⟩⟩ := MM.out _ HB
      have fa : Fb w6 w.heap.size na A ka ca xs B la cb ys := ⟨q0, q1, q2, q3, n1_, n2_⟩
      have fb : Fb w6 (w.heap.size + 1) nc C kb cc us D lb cd vs := ⟨r0, r1, r2, r3, n3_, n4_⟩
      clear q0 q1 q2 q3 r0 r1 r2 r3 n1_ n2_ n3_ n4_ MM HT1 HT2 HT3 HT4 HV1 HV2 lt_q0 lt_q1 lt_q2 lt_q3 lt_r0 lt_r1 lt_r2 lt_r3
      have e0 := fa.c0
      have e1 := fa.c1
      have e2 := fa.c2
      have e3 := fa.c3
      have f0 := fb.c0
      have f1 := fb.c1
      have f2 := fb.c2
      have f3 := fb.c3
      have lt_e0 := cell_lt e0
      have lt_f0 := cell_lt f0
      go_wp2_with fail
      refine (HHs.out _ _ _ _ _ _ _ _ _ fa.m fa.n fb.m fb.n).mono ?_
      rintro e v3 ⟨R3_, c3_, Q3_, d3_, rfl, m_, n_, h_⟩
      clear e0 e1 e2 e3 f0 f1 f2 f3 lt_e0 lt_f0
      have hv_ : Below w6.heap.size w6 v3 := Below.trans (b := _) (by repeat (first | assumption | exact Below.refl _ _ | refine Below.alloc ?_ (by simp; try omega) _ | refine Below.drew ?_ | refine below_drewN ?_ _)) (h_.mono (by simp; try omega))
      replace fa := fa.below hv_
      replace fb := fb.below hv_
      replace HB := HB.trans (hv_.mono HB.size)
      clear hv_
      go_upto_region 4 with fail
      have ox : Fb (v3.alloc (.cells #[.bool bx, .slice R3_ kx c3_, .bool false, .slice Q3_ lx d3_] 26)) v3.heap.size bx R3_ kx c3_ Xx Q3_ lx d3_ Yx := ⟨at_allocF0 rfl, at_allocF1 rfl, at_allocF2 rfl, at_allocF3 rfl, m_.alloc, n_.alloc⟩
      have hv_ : Below v3.heap.size v3 (v3.alloc (.cells #[.bool bx, .slice R3_ kx c3_, .bool false, .slice Q3_ lx d3_] 26)) := (Below.refl _ _).alloc (Nat.le_refl _) _
      generalize v3.alloc (.cells #[.bool bx, .slice R3_ kx c3_, .bool false, .slice Q3_ lx d3_] 26) = u3 at *
      replace fa := fa.below hv_
      replace fb := fb.below hv_
      replace HB := HB.trans (hv_.mono HB.size)
      clear hv_ m_ n_
      have e0 := fa.c0
      have e1 := fa.c1
      have e2 := fa.c2
      have e3 := fa.c3
      have f0 := fb.c0
      have f1 := fb.c1
      have f2 := fb.c2
      have f3 := fb.c3
      have lt_e0 := cell_lt e0
      have lt_f0 := cell_lt f0
      go_wp2_with fail
      refine (HC1.out _ _ _ _ _ _ _ _ _ fa.m fa.n fb.m fb.n).mono ?_
      rintro e w7 ⟨rfl, h_⟩
      clear e0 e1 e2 e3 f0 f1 f2 f3 lt_e0 lt_f0
      have hv_ : Below u3.heap.size u3 w7 := Below.trans (b := _) (by repeat (first | assumption | exact Below.refl _ _ | refine Below.alloc ?_ (by simp; try omega) _ | refine Below.drew ?_ | refine below_drewN ?_ _)) (h_.mono (by simp; try omega))
      replace fa := fa.below hv_
      replace fb := fb.below hv_
      replace ox := ox.below hv_
      replace HB := HB.trans (hv_.mono HB.size)
      clear hv_
      obtain rfl := hYx.out
      obtain rfl := hlx.out
      clear hYx hlx
      have e0 := fa.c0
      have e1 := fa.c1
      have e2 := fa.c2
      have e3 := fa.c3
      have f0 := ox.c0
      have f1 := ox.c1
      have f2 := ox.c2
      have f3 := ox.c3
      have lt_e0 := cell_lt e0
      have lt_f0 := cell_lt f0
      go_wp2_with fail
      refine (HC2.out _ _ _ _ _ _ _ _ _ fa.m fa.n ox.m ox.n).mono ?_
      rintro e w8 ⟨rfl, h_⟩
      clear e0 e1 e2 e3 f0 f1 f2 f3 lt_e0 lt_f0
      have hv_ : Below w7.heap.size w7 w8 := Below.trans (b := _) (by repeat (first | assumption | exact Below.refl _ _ | refine Below.alloc ?_ (by simp; try omega) _ | refine Below.drew ?_ | refine below_drewN ?_ _)) (h_.mono (by simp; try omega))
      replace fa := fa.below hv_
      replace fb := fb.below hv_
      replace ox := ox.below hv_
      replace HB := HB.trans (hv_.mono HB.size)
      clear hv_
      have e0 := ox.c0
      have e1 := ox.c1
      have e2 := ox.c2
      have e3 := ox.c3
      have f0 := fb.c0
      have f1 := fb.c1
      have f2 := fb.c2
      have f3 := fb.c3
      have lt_e0 := cell_lt e0
      have lt_f0 := cell_lt f0
      go_wp2_with fail
      refine (HC3.out _ _ _ _ _ _ _ _ _ ox.m ox.n fb.m fb.n).mono ?_
      rintro e w9 ⟨rfl, h_⟩
      clear e0 e1 e2 e3 f0 f1 f2 f3 lt_e0 lt_f0
      have hv_ : Below w8.heap.size w8 w9 := Below.trans (b := _) (by repeat (first | assumption | exact Below.refl _ _ | refine Below.alloc ?_ (by simp; try omega) _ | refine Below.drew ?_ | refine below_drewN ?_ _)) (h_.mono (by simp; try omega))
      replace fa := fa.below hv_
      replace fb := fb.below hv_
      replace ox := ox.below hv_
      replace HB := HB.trans (hv_.mono HB.size)
      clear hv_
      obtain ⟨bD, oD, hD_, _, hcD⟩ := ox.n.rd (by simp)
      have d0 := hcD 0 (by simp)
      simp only [Nat.add_zero, List.getElem_cons_zero, lim] at d0
      clear hcD
      subst hD_
      have lt_d0 := cell_lt d0
      have e0 := ox.c0
      have e1 := ox.c1
      have e2 := ox.c2
      have e3 := ox.c3
      have lt_e0 := cell_lt e0
      go_upto_region 9 with fail
      go_upto_region 11 with fail
      go_wp2_with fail
      go_loopw [13] (fun s13 wr => ∃ d : Nat, 1 ≤ d ∧ d ≤ 301 ∧ s13 = .int .i64 d ∧ Below w9.heap.size w9 wr) (fun s13 _ => 301 - (intOf s13).toNat)
      case atStart => exact ⟨1, by omega, by omega, rfl, Below.refl _ _⟩
      case round =>
        obtain ⟨d, hd1, hd2, rfl, hbl⟩ := hrel
        replace fa := fa.below hbl
        replace fb := fb.below hbl
        replace ox := ox.below hbl
        replace d0 := keep_cell hbl d0
        replace e0 := keep_cell hbl e0
        replace e1 := keep_cell hbl e1
        replace e2 := keep_cell hbl e2
        replace e3 := keep_cell hbl e3
        replace HB := HB.trans (hbl.mono HB.size)
        replace lt_d0 := cell_lt d0
        replace lt_e0 := cell_lt e0
        by_cases hd : d ≤ 300 ∧ d < DD
        · obtain ⟨hd3, hd4⟩ := hd
          have hdi : (d : Int) ≤ 300 := by omega
          have hdj : (d : Int) < (DD : Int) := by omega
          have HIn := hid (HIN.out d (by omega) hd3 hd4)
          have q0 := fa.c0
          have q1 := fa.c1
          have q2 := fa.c2
          have q3 := fa.c3
          have r0 := fb.c0
          have r1 := fb.c1
          have r2 := fb.c2
          have r3 := fb.c3
          have lt_q := cell_lt q0
          have lt_r := cell_lt r0
          go_wp2_with fail
          refine (HIn.out _ _ _ _ _ _ _ _ _ fa.m fa.n fb.m fb.n).mono ?_
          rintro e w10 ⟨rfl, h10⟩
          go_wp2_with fail
          go_roundw
          case rel => exact ⟨d + 1, by omega, by omega, by go_num, hbl.trans (h10.mono hbl.size)⟩
          case measure => simp [intOf]; omega
        · clear HIN
          by_cases hd3 : d ≤ 300
          · have hd4 : ¬ (d : Int) < (DD : Int) := by omega
            have hd5 : (d : Int) ≤ 300 := by omega
            obtain rfl := hkx0.out
            go_wp2_with fail
            refine (HE.out _ HB).mono ?_
            rintro e we ⟨rfl, hwe⟩
            go_wp2
            go_ret
            exact ⟨rfl, bel_step HB hwe⟩
          · have hd5 : ¬ (d : Int) ≤ 300 := by omega
            obtain rfl := hkx0.out
            go_wp2_with fail
            refine (HE.out _ HB).mono ?_
            rintro e we ⟨rfl, hwe⟩
            go_wp2
            go_ret
            exact ⟨rfl, bel_step HB hwe⟩
    · have hkx1 : ((kx : Int) == 0) = false := by rw [beq_eq_false_iff_ne]; have : kx ≠ 0 := fun h => hx0 (hkx.1 h); omega
      by_cases hneg : x.1 < 0
      · have hbt : Hid (bx = true) := by unfold Hid; rw [hbx]; simpa using hneg
        have su : Sz 32 ((1 : Int), x.2) := ⟨by show (1 : Int).natAbs < 2 ^ 32; decide, hdx⟩
        have s1 : Sz 1 ((1 : Int), 1) := ⟨by decide, by decide⟩
        have sD : Sz 32 ((x.2 : Int), 1) := ⟨by simp only [Int.natAbs_natCast]; exact hdx, by show (1 : Nat) < 2 ^ 32; decide⟩
        obtain ⟨hun, hnn⟩ := div_unit 1 (by decide) hd0
        have hne := nearer_no hmin (s := 1) (by omega)
        have e33 : (2 : Nat) ^ 33 = 8589934592 := by decide
        have sn : Sz 33 (low (x.1 + 1) x.2) := low_sz (by rw [e33]; omega) (by rw [e33]; omega)
        have vn := sn.vf (by omega) (low_nf hd0)
        obtain ⟨bs_, ks_, Xs_, ls_, Ys_, Is_⟩ := fz ((1 : Int), 1)
        obtain ⟨bu_, ku_, Xu_, lu_, Yu_, Iu_⟩ := fz ((1 : Int), x.2)
        obtain ⟨bn_, kn_, Xn_, ln_, Yn_, In_⟩ := fz (low (x.1 + 1) x.2)
        have hfd : Hid (Fz ((x.2 : Int), 1) false lx Yx ls_ Ys_) := ⟨by simp, by rw [Int.natAbs_natCast]; exact Ix.out.hy, Ix.out.hl, Is_.out.hy, Is_.out.hl⟩
        have HHu := hid fun (w1 : World) (R Q R' Q' : Option Addr) (c d c' d' : Nat) (m1 : Mg w1 R c Xs_) (m2 : Mg w1 Q d Ys_) (m3 : Mg w1 R' c' Yx) (m4 : Mg w1 Q' d' Ys_) => FrDiv_f (w := w1) Is_.out hfd.out (s1.vf (by omega) (nf_int _)) (sD.vf (by omega) (nf_int _)) (by rw [divE_sz s1 sD (by omega) (by simp only; omega), hun]) Iu_.out m1 m2 m3 m4
        have HHn := hid fun (w1 : World) (R Q R' Q' : Option Addr) (c d c' d' : Nat) (m1 : Mg w1 R c Xx) (m2 : Mg w1 Q d Yx) (m3 : Mg w1 R' c' Xu_) (m4 : Mg w1 Q' d' Yu_) => FrAdd_f (w := w1) Ix.out Iu_.out vx (su.vf (by omega) hnn) (by rw [addE_sz sx su (by omega), hne.1]) In_.out m1 m2 m3 m4
        obtain ⟨z4, hz4⟩ : ∃ z, cmpF f (low (x.1 + 1) x.2) = z := ⟨_, rfl⟩
        obtain ⟨z5, hz5⟩ : ∃ z, cmpF (low (x.1 + 1) x.2) g = z := ⟨_, rfl⟩
        have HH_4 := hid fun (w1 : World) (R Q R' Q' : Option Addr) (c d c' d' : Nat) (m1 : Mg w1 R c xs) (m2 : Mg w1 Q d ys) (m3 : Mg w1 R' c' Xn_) (m4 : Mg w1 Q' d' Yn_) => FrCmp_f (w := w1) IF.out In_.out vf vn _ hz4 m1 m2 m3 m4
        have HC4 := HH_4
        have HH_5 := hid fun (w1 : World) (R Q R' Q' : Option Addr) (c d c' d' : Nat) (m1 : Mg w1 R c Xn_) (m2 : Mg w1 Q d Yn_) (m3 : Mg w1 R' c' us) (m4 : Mg w1 Q' d' vs) => FrCmp_f (w := w1) In_.out IG.out vn vg _ hz5 m1 m2 m3 m4
        have HC5 := HH_5
        have HZ : Hid (0 < z4 ∨ 0 < z5) := by rw [← hz4, ← hz5]; exact hne.2
        clear hne s1 sD sn vn
        obtain ⟨bmi_, kmi_, Xmi_, lmi_, Ymi_, Imi_⟩ := fz ((-1 : Int), 1)
        have HM1 := hid fun (w1 : World) => Lof_g (w := w1) (x := -1) (y := 1) (by omega) (by omega) (by omega) (by omega) n_m1_1 Imi_.out
        have HP1 := hid fun (w1 : World) => Lof_g (w := w1) (x := 1) (y := 1) (by omega) (by omega) (by omega) (by omega) n_1_1 Is_.out
        clear IF IG NF NG sf sg_ vf vg hsim hmin hdx hnx sx hd0 vx hDD hY Ix hlo hhi hz1 hz2 hz3 HH_1 HH_2 HH_3
        clear hx0 hkx hbx hneg Imi_ Is_ Iu_ In_ su hun hnn hz4 hz5 hfd HH_4 HH_5
        clear ma mb mc md
        generalize xs.length = ka at *
        generalize ys.length = la at *
        generalize us.length = kb at *
        generalize vs.length = lb at *
        go_enter Tryz.func11, Tryz.ntmps11
        go_wp2_with fail
        refine enterFF (P := fun u => Calls _ _ _ u _) ?_
        intro u HB q0 q1 q2 q3 r0 r1 r2 r3 z1 z2 hsz
        clear hsz
        have f_z1 := z1.fr
        have f_z2 := z2.fr
        have lt_q0 := cell_lt q0
        have lt_r0 := cell_lt r0
        refine (HT1.out _ HB).mono ?_
        rintro e w1 ⟨rfl, ht_⟩
        have hv_ : Below u.heap.size u w1 := Below.trans (b := _) (by repeat (first | assumption | exact Below.refl _ _ | refine Below.alloc ?_ (by simp; try omega) _ | refine Below.drew ?_ | refine below_drewN ?_ _)) (ht_.mono (by simp; try omega))
        replace q0 := keep_cell hv_ q0
        replace q1 := keep_cell hv_ q1
        replace q2 := keep_cell hv_ q2
        replace q3 := keep_cell hv_ q3
        replace r0 := keep_cell hv_ r0
        replace r1 := keep_cell hv_ r1
        replace r2 := keep_cell hv_ r2
        replace r3 := keep_cell hv_ r3
        have lt_q0 := cell_lt q0
        have lt_q1 := cell_lt q1
        have lt_q2 := cell_lt q2
        have lt_q3 := cell_lt q3
        have lt_r0 := cell_lt r0
        have lt_r1 := cell_lt r1
        have lt_r2 := cell_lt r2
        have lt_r3 := cell_lt r3
        replace HB := HB.trans (hv_.mono HB.size)
        clear hv_
        go_wp2_with fail
        refine (HT2.out _ HB).mono ?_
        rintro e w2 ⟨rfl, ht_⟩
        have hv_ : Below w1.heap.size w1 w2 := Below.trans (b := _) (by repeat (first | assumption | exact Below.refl _ _ | refine Below.alloc ?_ (by simp; try omega) _ | refine Below.drew ?_ | refine below_drewN ?_ _)) (ht_.mono (by simp; try omega))
        replace q0 := keep_cell hv_ q0
        replace q1 := keep_cell hv_ q1
        replace q2 := keep_cell hv_ q2
        replace q3 := keep_cell hv_ q3
        replace r0 := keep_cell hv_ r0
        replace r1 := keep_cell hv_ r1
        replace r2 := keep_cell hv_ r2
        replace r3 := keep_cell hv_ r3
        have lt_q0 := cell_lt q0
        have lt_q1 := cell_lt q1
        have lt_q2 := cell_lt q2
        have lt_q3 := cell_lt q3
        have lt_r0 := cell_lt r0
        have lt_r1 := cell_lt r1
        have lt_r2 := cell_lt r2
        have lt_r3 := cell_lt r3
        replace HB := HB.trans (hv_.mono HB.size)
        clear hv_
        go_wp2_with fail
        refine (HT3.out _ HB).mono ?_
        rintro e w3 ⟨rfl, ht_⟩
        have hv_ : Below w2.heap.size w2 w3 := Below.trans (b := _) (by repeat (first | assumption | exact Below.refl _ _ | refine Below.alloc ?_ (by simp; try omega) _ | refine Below.drew ?_ | refine below_drewN ?_ _)) (ht_.mono (by simp; try omega))
        replace q0 := keep_cell hv_ q0
        replace q1 := keep_cell hv_ q1
        replace q2 := keep_cell hv_ q2
        replace q3 := keep_cell hv_ q3
        replace r0 := keep_cell hv_ r0
        replace r1 := keep_cell hv_ r1
        replace r2 := keep_cell hv_ r2
        replace r3 := keep_cell hv_ r3
        have lt_q0 := cell_lt q0
        have lt_q1 := cell_lt q1
        have lt_q2 := cell_lt q2
        have lt_q3 := cell_lt q3
        have lt_r0 := cell_lt r0
        have lt_r1 := cell_lt r1
        have lt_r2 := cell_lt r2
        have lt_r3 := cell_lt r3
        replace HB := HB.trans (hv_.mono HB.size)
        clear hv_
        go_wp2_with fail
        refine (HT4.out _ HB).mono ?_
        rintro e w4 ⟨rfl, ht_⟩
        have hv_ : Below w3.heap.size w3 w4 := Below.trans (b := _) (by repeat (first | assumption | exact Below.refl _ _ | refine Below.alloc ?_ (by simp; try omega) _ | refine Below.drew ?_ | refine below_drewN ?_ _)) (ht_.mono (by simp; try omega))
        replace q0 := keep_cell hv_ q0
        replace q1 := keep_cell hv_ q1
        replace q2 := keep_cell hv_ q2
        replace q3 := keep_cell hv_ q3
        replace r0 := keep_cell hv_ r0
        replace r1 := keep_cell hv_ r1
        replace r2 := keep_cell hv_ r2
        replace r3 := keep_cell hv_ r3
        have lt_q0 := cell_lt q0
        have lt_q1 := cell_lt q1
        have lt_q2 := cell_lt q2
        have lt_q3 := cell_lt q3
        have lt_r0 := cell_lt r0
        have lt_r1 := cell_lt r1
        have lt_r2 := cell_lt r2
        have lt_r3 := cell_lt r3
        replace HB := HB.trans (hv_.mono HB.size)
        clear hv_
        go_wp2_with fail
        refine (HV1.out _ HB).mono ?_
        rintro e w5 ⟨rfl, ht_⟩
        have hv_ : Below w4.heap.size w4 w5 := Below.trans (b := _) (by repeat (first | assumption | exact Below.refl _ _ | refine Below.alloc ?_ (by simp; try omega) _ | refine Below.drew ?_ | refine below_drewN ?_ _)) (ht_.mono (by simp; try omega))
        replace q0 := keep_cell hv_ q0
        replace q1 := keep_cell hv_ q1
        replace q2 := keep_cell hv_ q2
        replace q3 := keep_cell hv_ q3
        replace r0 := keep_cell hv_ r0
        replace r1 := keep_cell hv_ r1
        replace r2 := keep_cell hv_ r2
        replace r3 := keep_cell hv_ r3
        have lt_q0 := cell_lt q0
        have lt_q1 := cell_lt q1
        have lt_q2 := cell_lt q2
        have lt_q3 := cell_lt q3
        have lt_r0 := cell_lt r0
        have lt_r1 := cell_lt r1
        have lt_r2 := cell_lt r2
        have lt_r3 := cell_lt r3
        replace HB := HB.trans (hv_.mono HB.size)
        clear hv_
        go_wp2_with fail
        refine (HV2.out _ HB).mono ?_
        rintro e w6 ⟨rfl, ht_⟩
        have hv_ : Below w5.heap.size w5 w6 := Below.trans (b := _) (by repeat (first | assumption | exact Below.refl _ _ | refine Below.alloc ?_ (by simp; try omega) _ | refine Below.drew ?_ | refine below_drewN ?_ _)) (ht_.mono (by simp; try omega))
        replace q0 := keep_cell hv_ q0
        replace q1 := keep_cell hv_ q1
        replace q2 := keep_cell hv_ q2
        replace q3 := keep_cell hv_ q3
        replace r0 := keep_cell hv_ r0
        replace r1 := keep_cell hv_ r1
        replace r2 := keep_cell hv_ r2
        replace r3 := keep_cell hv_ r3
        have lt_q0 := cell_lt q0
        have lt_q1 := cell_lt q1
        have lt_q2 := cell_lt q2
        have lt_q3 := cell_lt q3
        have lt_r0 := cell_lt r0
        have lt_r1 := cell_lt r1
        have lt_r2 := cell_lt r2
        have lt_r3 := cell_lt r3
        replace HB := HB.trans (hv_.mono HB.size)
        clear hv_
        obtain ⟨⟨n1_, n2_⟩, ⟨n3_, n4_⟩⟩ := MM.out _ HB
        have fa : Fb w6 w.heap.size na A ka ca xs B la cb ys := ⟨q0, q1, q2, q3, n1_, n2_⟩
        have fb : Fb w6 (w.heap.size + 1) nc C kb cc us D lb cd vs := ⟨r0, r1, r2, r3, n3_, n4_⟩
        clear q0 q1 q2 q3 r0 r1 r2 r3 n1_ n2_ n3_ n4_ MM HT1 HT2 HT3 HT4 HV1 HV2 lt_q0 lt_q1 lt_q2 lt_q3 lt_r0 lt_r1 lt_r2 lt_r3
        have e0 := fa.c0
        have e1 := fa.c1
        have e2 := fa.c2
        have e3 := fa.c3
        have f0 := fb.c0
        have f1 := fb.c1
        have f2 := fb.c2
        have f3 := fb.c3
        have lt_e0 := cell_lt e0
        have lt_f0 := cell_lt f0
        go_wp2_with fail
        refine (HHs.out _ _ _ _ _ _ _ _ _ fa.m fa.n fb.m fb.n).mono ?_
        rintro e v3 ⟨R3_, c3_, Q3_, d3_, rfl, m_, n_, h_⟩
        clear e0 e1 e2 e3 f0 f1 f2 f3 lt_e0 lt_f0
        have hv_ : Below w6.heap.size w6 v3 := Below.trans (b := _) (by repeat (first | assumption | exact Below.refl _ _ | refine Below.alloc ?_ (by simp; try omega) _ | refine Below.drew ?_ | refine below_drewN ?_ _)) (h_.mono (by simp; try omega))
        replace fa := fa.below hv_
        replace fb := fb.below hv_
        replace HB := HB.trans (hv_.mono HB.size)
        clear hv_
        go_upto_region 4 with fail
        have ox : Fb (v3.alloc (.cells #[.bool bx, .slice R3_ kx c3_, .bool false, .slice Q3_ lx d3_] 26)) v3.heap.size bx R3_ kx c3_ Xx Q3_ lx d3_ Yx := ⟨at_allocF0 rfl, at_allocF1 rfl, at_allocF2 rfl, at_allocF3 rfl, m_.alloc, n_.alloc⟩
        have hv_ : Below v3.heap.size v3 (v3.alloc (.cells #[.bool bx, .slice R3_ kx c3_, .bool false, .slice Q3_ lx d3_] 26)) := (Below.refl _ _).alloc (Nat.le_refl _) _
        generalize v3.alloc (.cells #[.bool bx, .slice R3_ kx c3_, .bool false, .slice Q3_ lx d3_] 26) = u3 at *
        replace fa := fa.below hv_
        replace fb := fb.below hv_
        replace HB := HB.trans (hv_.mono HB.size)
        clear hv_ m_ n_
        have e0 := fa.c0
        have e1 := fa.c1
        have e2 := fa.c2
        have e3 := fa.c3
        have f0 := fb.c0
        have f1 := fb.c1
        have f2 := fb.c2
        have f3 := fb.c3
        have lt_e0 := cell_lt e0
        have lt_f0 := cell_lt f0
        go_wp2_with fail
        refine (HC1.out _ _ _ _ _ _ _ _ _ fa.m fa.n fb.m fb.n).mono ?_
        rintro e w7 ⟨rfl, h_⟩
        clear e0 e1 e2 e3 f0 f1 f2 f3 lt_e0 lt_f0
        have hv_ : Below u3.heap.size u3 w7 := Below.trans (b := _) (by repeat (first | assumption | exact Below.refl _ _ | refine Below.alloc ?_ (by simp; try omega) _ | refine Below.drew ?_ | refine below_drewN ?_ _)) (h_.mono (by simp; try omega))
        replace fa := fa.below hv_
        replace fb := fb.below hv_
        replace ox := ox.below hv_
        replace HB := HB.trans (hv_.mono HB.size)
        clear hv_
        obtain rfl := hYx.out
        obtain rfl := hlx.out
        clear hYx hlx
        have e0 := fa.c0
        have e1 := fa.c1
        have e2 := fa.c2
        have e3 := fa.c3
        have f0 := ox.c0
        have f1 := ox.c1
        have f2 := ox.c2
        have f3 := ox.c3
        have lt_e0 := cell_lt e0
        have lt_f0 := cell_lt f0
        go_wp2_with fail
        refine (HC2.out _ _ _ _ _ _ _ _ _ fa.m fa.n ox.m ox.n).mono ?_
        rintro e w8 ⟨rfl, h_⟩
        clear e0 e1 e2 e3 f0 f1 f2 f3 lt_e0 lt_f0
        have hv_ : Below w7.heap.size w7 w8 := Below.trans (b := _) (by repeat (first | assumption | exact Below.refl _ _ | refine Below.alloc ?_ (by simp; try omega) _ | refine Below.drew ?_ | refine below_drewN ?_ _)) (h_.mono (by simp; try omega))
        replace fa := fa.below hv_
        replace fb := fb.below hv_
        replace ox := ox.below hv_
        replace HB := HB.trans (hv_.mono HB.size)
        clear hv_
        have e0 := ox.c0
        have e1 := ox.c1
        have e2 := ox.c2
        have e3 := ox.c3
        have f0 := fb.c0
        have f1 := fb.c1
        have f2 := fb.c2
        have f3 := fb.c3
        have lt_e0 := cell_lt e0
        have lt_f0 := cell_lt f0
        go_wp2_with fail
        refine (HC3.out _ _ _ _ _ _ _ _ _ ox.m ox.n fb.m fb.n).mono ?_
        rintro e w9 ⟨rfl, h_⟩
        clear e0 e1 e2 e3 f0 f1 f2 f3 lt_e0 lt_f0
        have hv_ : Below w8.heap.size w8 w9 := Below.trans (b := _) (by repeat (first | assumption | exact Below.refl _ _ | refine Below.alloc ?_ (by simp; try omega) _ | refine Below.drew ?_ | refine below_drewN ?_ _)) (h_.mono (by simp; try omega))
        replace fa := fa.below hv_
        replace fb := fb.below hv_
        replace ox := ox.below hv_
        replace HB := HB.trans (hv_.mono HB.size)
        clear hv_
        obtain ⟨bD, oD, hD_, _, hcD⟩ := ox.n.rd (by simp)
        have d0 := hcD 0 (by simp)
        simp only [Nat.add_zero, List.getElem_cons_zero, lim] at d0
        clear hcD
        subst hD_
        have lt_d0 := cell_lt d0
        have e0 := ox.c0
        have e1 := ox.c1
        have e2 := ox.c2
        have e3 := ox.c3
        have lt_e0 := cell_lt e0
        go_upto_region 9 with fail
        go_upto_region 11 with fail
        go_wp2_with fail
        go_loopw [13] (fun s13 wr => ∃ d : Nat, 1 ≤ d ∧ d ≤ 301 ∧ s13 = .int .i64 d ∧ Below w9.heap.size w9 wr) (fun s13 _ => 301 - (intOf s13).toNat)
        case atStart => exact ⟨1, by omega, by omega, rfl, Below.refl _ _⟩
        case round =>
          obtain ⟨d, hd1, hd2, rfl, hbl⟩ := hrel
          replace fa := fa.below hbl
          replace fb := fb.below hbl
          replace ox := ox.below hbl
          replace d0 := keep_cell hbl d0
          replace e0 := keep_cell hbl e0
          replace e1 := keep_cell hbl e1
          replace e2 := keep_cell hbl e2
          replace e3 := keep_cell hbl e3
          replace HB := HB.trans (hbl.mono HB.size)
          replace lt_d0 := cell_lt d0
          replace lt_e0 := cell_lt e0
          by_cases hd : d ≤ 300 ∧ d < DD
          · obtain ⟨hd3, hd4⟩ := hd
            have hdi : (d : Int) ≤ 300 := by omega
            have hdj : (d : Int) < (DD : Int) := by omega
            have HIn := hid (HIN.out d (by omega) hd3 hd4)
            have q0 := fa.c0
            have q1 := fa.c1
            have q2 := fa.c2
            have q3 := fa.c3
            have r0 := fb.c0
            have r1 := fb.c1
            have r2 := fb.c2
            have r3 := fb.c3
            have lt_q := cell_lt q0
            have lt_r := cell_lt r0
            go_wp2_with fail
            refine (HIn.out _ _ _ _ _ _ _ _ _ fa.m fa.n fb.m fb.n).mono ?_
            rintro e w10 ⟨rfl, h10⟩
            go_wp2_with fail
            go_roundw
            case rel => exact ⟨d + 1, by omega, by omega, by go_num, hbl.trans (h10.mono hbl.size)⟩
            case measure => simp [intOf]; omega
          · clear HIN
            by_cases hd3 : d ≤ 300
            · have hd4 : ¬ (d : Int) < (DD : Int) := by omega
              have hd5 : (d : Int) ≤ 300 := by omega
              obtain rfl := hbt.out
              go_wp2_with fail
              refine (HM1.out _).mono ?_
              rintro e w11 ⟨R11, c11, Q11, d11, rfl, m_, n_, h_⟩
              clear e0 e1 e2 e3 d0 lt_d0 lt_e0
              have hv_ : Below wr.heap.size wr w11 := Below.trans (b := _) (by repeat (first | assumption | exact Below.refl _ _ | refine Below.alloc ?_ (by simp; try omega) _ | refine Below.drew ?_ | refine below_drewN ?_ _)) (h_.mono (by simp; try omega))
              replace fa := fa.below hv_
              replace fb := fb.below hv_
              replace ox := ox.below hv_
              replace HB := HB.trans (hv_.mono HB.size)
              clear hv_
              have g1_ := cell_lt fa.c0
              have g2_ := cell_lt fb.c0
              have g3_ := cell_lt ox.c0
              go_upto_region 19 with fail
              have om : Fb (w11.alloc (.cells #[.bool bmi_, .slice R11 kmi_ c11, .bool false, .slice Q11 lmi_ d11] 26)) w11.heap.size bmi_ R11 kmi_ c11 Xmi_ Q11 lmi_ d11 Ymi_ := ⟨at_allocF0 rfl, at_allocF1 rfl, at_allocF2 rfl, at_allocF3 rfl, m_.alloc, n_.alloc⟩
              have zom : Zn (w11.alloc (.cells #[.bool bmi_, .slice R11 kmi_ c11, .bool false, .slice Q11 lmi_ d11] 26)) w11.heap.size := Zn.new rfl
              have hv_ : Below w11.heap.size w11 (w11.alloc (.cells #[.bool bmi_, .slice R11 kmi_ c11, .bool false, .slice Q11 lmi_ d11] 26)) := (Below.refl _ _).alloc (Nat.le_refl _) _
              generalize w11.alloc (.cells #[.bool bmi_, .slice R11 kmi_ c11, .bool false, .slice Q11 lmi_ d11] 26) = u11 at *
              replace fa := fa.below hv_
              replace fb := fb.below hv_
              replace ox := ox.below hv_
              replace HB := HB.trans (hv_.mono HB.size)
              clear hv_ m_ n_
              have e0 := ox.c0
              have e1 := ox.c1
              have e2 := ox.c2
              have e3 := ox.c3
              have lt_e0 := cell_lt e0
              go_wp2_with fail
              refine (HP1.out _).mono ?_
              rintro e w12 ⟨R12, c12, Q12, d12, rfl, m_, n_, h_⟩
              clear e0 e1 e2 e3 lt_e0
              have hv_ : Below u11.heap.size u11 w12 := Below.trans (b := _) (by repeat (first | assumption | exact Below.refl _ _ | refine Below.alloc ?_ (by simp; try omega) _ | refine Below.drew ?_ | refine below_drewN ?_ _)) (h_.mono (by simp; try omega))
              replace fa := fa.below hv_
              replace fb := fb.below hv_
              replace ox := ox.below hv_
              replace om := om.below hv_
              replace zom := zom.below hv_
              replace f_zom := zom.fr
              replace HB := HB.trans (hv_.mono HB.size)
              clear hv_
              have f0 := om.c0
              have f1 := om.c1
              have f2 := om.c2
              have f3 := om.c3
              have lt_f0 := cell_lt f0
              go_upto_region 21 with fail
              obtain ⟨V, hV⟩ : ∃ V, V = (((w12.setCell ⟨w11.heap.size, 0, none⟩ (.bool bs_)).setCell ⟨w11.heap.size, 1, none⟩ (.slice R12 ks_ c12)).setCell ⟨w11.heap.size, 2, none⟩ (.bool false)).setCell ⟨w11.heap.size, 3, none⟩ (.slice Q12 ls_ d12) := ⟨_, rfl⟩
              obtain ⟨p0, p1, p2, p3, hC, hM, hZ_, hBl, _⟩ := setI4F f0 f1 f2 f3 hV
              rw [← hV]
              have os : Fb V w11.heap.size bs_ R12 ks_ c12 Xs_ Q12 ls_ d12 Ys_ := ⟨p0, p1, p2, p3, hM _ _ _ m_, hM _ _ _ n_⟩
              have fa : Fb V _ _ _ _ _ _ _ _ _ _ := ⟨hC _ _ _ (by omega) fa.c0, hC _ _ _ (by omega) fa.c1, hC _ _ _ (by omega) fa.c2, hC _ _ _ (by omega) fa.c3, hM _ _ _ fa.m, hM _ _ _ fa.n⟩
              have fb : Fb V _ _ _ _ _ _ _ _ _ _ := ⟨hC _ _ _ (by omega) fb.c0, hC _ _ _ (by omega) fb.c1, hC _ _ _ (by omega) fb.c2, hC _ _ _ (by omega) fb.c3, hM _ _ _ fb.m, hM _ _ _ fb.n⟩
              have ox : Fb V _ _ _ _ _ _ _ _ _ _ := ⟨hC _ _ _ (by omega) ox.c0, hC _ _ _ (by omega) ox.c1, hC _ _ _ (by omega) ox.c2, hC _ _ _ (by omega) ox.c3, hM _ _ _ ox.m, hM _ _ _ ox.n⟩
              replace HB := hBl _ _ (by omega) HB
              clear p0 p1 p2 p3 hC hM hZ_ hBl hV f0 f1 f2 f3 lt_f0 om zom
              generalize V = u12 at *
              have e0 := ox.c0
              have e1 := ox.c1
              have e2 := ox.c2
              have e3 := ox.c3
              have f0 := os.c0
              have f1 := os.c1
              have f2 := os.c2
              have f3 := os.c3
              have lt_e0 := cell_lt e0
              have lt_f0 := cell_lt f0
              go_wp2_with fail
              refine (HHu.out _ _ _ _ _ _ _ _ _ os.m os.n ox.n os.n).mono ?_
              rintro e w12 ⟨Ru, cu, Qu, du, rfl, m_, n_, h_⟩
              clear e0 e1 e2 e3 f0 f1 f2 f3 lt_e0 lt_f0
              have hv_ : Below u12.heap.size u12 w12 := Below.trans (b := _) (by repeat (first | assumption | exact Below.refl _ _ | refine Below.alloc ?_ (by simp; try omega) _ | refine Below.drew ?_ | refine below_drewN ?_ _)) (h_.mono (by simp; try omega))
              replace fa := fa.below hv_
              replace fb := fb.below hv_
              replace ox := ox.below hv_
              replace HB := HB.trans (hv_.mono HB.size)
              clear hv_
              go_upto_region 22 with fail
              have ou : Fb (w12.alloc (.cells #[.bool bu_, .slice Ru ku_ cu, .bool false, .slice Qu lu_ du] 26)) w12.heap.size bu_ Ru ku_ cu Xu_ Qu lu_ du Yu_ := ⟨at_allocF0 rfl, at_allocF1 rfl, at_allocF2 rfl, at_allocF3 rfl, m_.alloc, n_.alloc⟩
              have hv_ : Below w12.heap.size w12 (w12.alloc (.cells #[.bool bu_, .slice Ru ku_ cu, .bool false, .slice Qu lu_ du] 26)) := (Below.refl _ _).alloc (Nat.le_refl _) _
              generalize w12.alloc (.cells #[.bool bu_, .slice Ru ku_ cu, .bool false, .slice Qu lu_ du] 26) = u13 at *
              replace fa := fa.below hv_
              replace fb := fb.below hv_
              replace ox := ox.below hv_
              replace HB := HB.trans (hv_.mono HB.size)
              clear hv_ m_ n_
              have e0 := ox.c0
              have e1 := ox.c1
              have e2 := ox.c2
              have e3 := ox.c3
              have f0 := ou.c0
              have f1 := ou.c1
              have f2 := ou.c2
              have f3 := ou.c3
              have lt_e0 := cell_lt e0
              have lt_f0 := cell_lt f0
              go_wp2_with fail
              refine (HHn.out _ _ _ _ _ _ _ _ _ ox.m ox.n ou.m ou.n).mono ?_
              rintro e v14 ⟨R22_, c22_, Q22_, d22_, rfl, m_, n_, h_⟩
              clear e0 e1 e2 e3 f0 f1 f2 f3 lt_e0 lt_f0
              have hv_ : Below u13.heap.size u13 v14 := Below.trans (b := _) (by repeat (first | assumption | exact Below.refl _ _ | refine Below.alloc ?_ (by simp; try omega) _ | refine Below.drew ?_ | refine below_drewN ?_ _)) (h_.mono (by simp; try omega))
              replace fa := fa.below hv_
              replace fb := fb.below hv_
              replace HB := HB.trans (hv_.mono HB.size)
              clear hv_
              go_upto_region 23 with fail
              have on_ : Fb (v14.alloc (.cells #[.bool bn_, .slice R22_ kn_ c22_, .bool false, .slice Q22_ ln_ d22_] 26)) v14.heap.size bn_ R22_ kn_ c22_ Xn_ Q22_ ln_ d22_ Yn_ := ⟨at_allocF0 rfl, at_allocF1 rfl, at_allocF2 rfl, at_allocF3 rfl, m_.alloc, n_.alloc⟩
              have hv_ : Below v14.heap.size v14 (v14.alloc (.cells #[.bool bn_, .slice R22_ kn_ c22_, .bool false, .slice Q22_ ln_ d22_] 26)) := (Below.refl _ _).alloc (Nat.le_refl _) _
              generalize v14.alloc (.cells #[.bool bn_, .slice R22_ kn_ c22_, .bool false, .slice Q22_ ln_ d22_] 26) = u14 at *
              replace fa := fa.below hv_
              replace fb := fb.below hv_
              replace HB := HB.trans (hv_.mono HB.size)
              clear hv_ m_ n_
              have e0 := fa.c0
              have e1 := fa.c1
              have e2 := fa.c2
              have e3 := fa.c3
              have f0 := on_.c0
              have f1 := on_.c1
              have f2 := on_.c2
              have f3 := on_.c3
              have lt_e0 := cell_lt e0
              have lt_f0 := cell_lt f0
              go_wp2_with fail
              refine (HC4.out _ _ _ _ _ _ _ _ _ fa.m fa.n on_.m on_.n).mono ?_
              rintro e w15 ⟨rfl, h_⟩
              clear e0 e1 e2 e3 f0 f1 f2 f3 lt_e0 lt_f0
              have hv_ : Below u14.heap.size u14 w15 := Below.trans (b := _) (by repeat (first | assumption | exact Below.refl _ _ | refine Below.alloc ?_ (by simp; try omega) _ | refine Below.drew ?_ | refine below_drewN ?_ _)) (h_.mono (by simp; try omega))
              replace fb := fb.below hv_
              replace on_ := on_.below hv_
              replace HB := HB.trans (hv_.mono HB.size)
              clear hv_
              have e0 := on_.c0
              have e1 := on_.c1
              have e2 := on_.c2
              have e3 := on_.c3
              have f0 := fb.c0
              have f1 := fb.c1
              have f2 := fb.c2
              have f3 := fb.c3
              have lt_e0 := cell_lt e0
              have lt_f0 := cell_lt f0
              go_wp2_with fail
              refine (HC5.out _ _ _ _ _ _ _ _ _ on_.m on_.n fb.m fb.n).mono ?_
              rintro e w16 ⟨rfl, h_⟩
              clear e0 e1 e2 e3 f0 f1 f2 f3 lt_e0 lt_f0
              have hv_ : Below w15.heap.size w15 w16 := Below.trans (b := _) (by repeat (first | assumption | exact Below.refl _ _ | refine Below.alloc ?_ (by simp; try omega) _ | refine Below.drew ?_ | refine below_drewN ?_ _)) (h_.mono (by simp; try omega))
              replace fb := fb.below hv_
              replace HB := HB.trans (hv_.mono HB.size)
              clear hv_
              rcases HZ.out with h4 | h4
              · clear HZ
                go_wp2_with fail
                refine (HE.out _ HB).mono ?_
                rintro e we ⟨rfl, hwe⟩
                go_wp2
                go_ret
                exact ⟨rfl, bel_step HB hwe⟩
              · clear HZ
                by_cases h5 : 0 < z4
                · go_wp2_with fail
                  refine (HE.out _ HB).mono ?_
                  rintro e we ⟨rfl, hwe⟩
                  go_wp2
                  go_ret
                  exact ⟨rfl, bel_step HB hwe⟩
                · go_wp2_with fail
                  refine (HE.out _ HB).mono ?_
                  rintro e we ⟨rfl, hwe⟩
                  go_wp2
                  go_ret
                  exact ⟨rfl, bel_step HB hwe⟩
            · have hd5 : ¬ (d : Int) ≤ 300 := by omega
              obtain rfl := hbt.out
              go_wp2_with fail
              refine (HM1.out _).mono ?_
              rintro e w11 ⟨R11, c11, Q11, d11, rfl, m_, n_, h_⟩
              clear e0 e1 e2 e3 d0 lt_d0 lt_e0
              have hv_ : Below wr.heap.size wr w11 := Below.trans (b := _) (by repeat (first | assumption | exact Below.refl _ _ | refine Below.alloc ?_ (by simp; try omega) _ | refine Below.drew ?_ | refine below_drewN ?_ _)) (h_.mono (by simp; try omega))
              replace fa := fa.below hv_
              replace fb := fb.below hv_
              replace ox := ox.below hv_
              replace HB := HB.trans (hv_.mono HB.size)
              clear hv_
              have g1_ := cell_lt fa.c0
              have g2_ := cell_lt fb.c0
              have g3_ := cell_lt ox.c0
              go_upto_region 19 with fail
              have om : Fb (w11.alloc (.cells #[.bool bmi_, .slice R11 kmi_ c11, .bool false, .slice Q11 lmi_ d11] 26)) w11.heap.size bmi_ R11 kmi_ c11 Xmi_ Q11 lmi_ d11 Ymi_ := ⟨at_allocF0 rfl, at_allocF1 rfl, at_allocF2 rfl, at_allocF3 rfl, m_.alloc, n_.alloc⟩
              have zom : Zn (w11.alloc (.cells #[.bool bmi_, .slice R11 kmi_ c11, .bool false, .slice Q11 lmi_ d11] 26)) w11.heap.size := Zn.new rfl
              have hv_ : Below w11.heap.size w11 (w11.alloc (.cells #[.bool bmi_, .slice R11 kmi_ c11, .bool false, .slice Q11 lmi_ d11] 26)) := (Below.refl _ _).alloc (Nat.le_refl _) _
              generalize w11.alloc (.cells #[.bool bmi_, .slice R11 kmi_ c11, .bool false, .slice Q11 lmi_ d11] 26) = u11 at *
              replace fa := fa.below hv_
              replace fb := fb.below hv_
              replace ox := ox.below hv_
              replace HB := HB.trans (hv_.mono HB.size)
              clear hv_ m_ n_
              have e0 := ox.c0
              have e1 := ox.c1
              have e2 := ox.c2
              have e3 := ox.c3
              have lt_e0 := cell_lt e0
              go_wp2_with fail
              refine (HP1.out _).mono ?_
              rintro e w12 ⟨R12, c12, Q12, d12, rfl, m_, n_, h_⟩
              clear e0 e1 e2 e3 lt_e0
              have hv_ : Below u11.heap.size u11 w12 := Below.trans (b := _) (by repeat (first | assumption | exact Below.refl _ _ | refine Below.alloc ?_ (by simp; try omega) _ | refine Below.drew ?_ | refine below_drewN ?_ _)) (h_.mono (by simp; try omega))
              replace fa := fa.below hv_
              replace fb := fb.below hv_
              replace ox := ox.below hv_
              replace om := om.below hv_
              replace zom := zom.below hv_
              replace f_zom := zom.fr
              replace HB := HB.trans (hv_.mono HB.size)
              clear hv_
              have f0 := om.c0
              have f1 := om.c1
              have f2 := om.c2
              have f3 := om.c3
              have lt_f0 := cell_lt f0
              go_upto_region 21 with fail
              obtain ⟨V, hV⟩ : ∃ V, V = (((w12.setCell ⟨w11.heap.size, 0, none⟩ (.bool bs_)).setCell ⟨w11.heap.size, 1, none⟩ (.slice R12 ks_ c12)).setCell ⟨w11.heap.size, 2, none⟩ (.bool false)).setCell ⟨w11.heap.size, 3, none⟩ (.slice Q12 ls_ d12) := ⟨_, rfl⟩
              obtain ⟨p0, p1, p2, p3, hC, hM, hZ_, hBl, _⟩ := setI4F f0 f1 f2 f3 hV
              rw [← hV]
              have os : Fb V w11.heap.size bs_ R12 ks_ c12 Xs_ Q12 ls_ d12 Ys_ := ⟨p0, p1, p2, p3, hM _ _ _ m_, hM _ _ _ n_⟩
              have fa : Fb V _ _ _ _ _ _ _ _ _ _ := ⟨hC _ _ _ (by omega) fa.c0, hC _ _ _ (by omega) fa.c1, hC _ _ _ (by omega) fa.c2, hC _ _ _ (by omega) fa.c3, hM _ _ _ fa.m, hM _ _ _ fa.n⟩
              have fb : Fb V _ _ _ _ _ _ _ _ _ _ := ⟨hC _ _ _ (by omega) fb.c0, hC _ _ _ (by omega) fb.c1, hC _ _ _ (by omega) fb.c2, hC _ _ _ (by omega) fb.c3, hM _ _ _ fb.m, hM _ _ _ fb.n⟩
              have ox : Fb V _ _ _ _ _ _ _ _ _ _ := ⟨hC _ _ _ (by omega) ox.c0, hC _ _ _ (by omega) ox.c1, hC _ _ _ (by omega) ox.c2, hC _ _ _ (by omega) ox.c3, hM _ _ _ ox.m, hM _ _ _ ox.n⟩
              replace HB := hBl _ _ (by omega) HB
              clear p0 p1 p2 p3 hC hM hZ_ hBl hV f0 f1 f2 f3 lt_f0 om zom
              generalize V = u12 at *
              have e0 := ox.c0
              have e1 := ox.c1
              have e2 := ox.c2
              have e3 := ox.c3
              have f0 := os.c0
              have f1 := os.c1
              have f2 := os.c2
              have f3 := os.c3
              have lt_e0 := cell_lt e0
              have lt_f0 := cell_lt f0
              go_wp2_with fail
              refine (HHu.out _ _ _ _ _ _ _ _ _ os.m os.n ox.n os.n).mono ?_
              rintro e w12 ⟨Ru, cu, Qu, du, rfl, m_, n_, h_⟩
              clear e0 e1 e2 e3 f0 f1 f2 f3 lt_e0 lt_f0
              have hv_ : Below u12.heap.size u12 w12 := Below.trans (b := _) (by repeat (first | assumption | exact Below.refl _ _ | refine Below.alloc ?_ (by simp; try omega) _ | refine Below.drew ?_ | refine below_drewN ?_ _)) (h_.mono (by simp; try omega))
              replace fa := fa.below hv_
              replace fb := fb.below hv_
              replace ox := ox.below hv_
              replace HB := HB.trans (hv_.mono HB.size)
              clear hv_
              go_upto_region 22 with fail
              have ou : Fb (w12.alloc (.cells #[.bool bu_, .slice Ru ku_ cu, .bool false, .slice Qu lu_ du] 26)) w12.heap.size bu_ Ru ku_ cu Xu_ Qu lu_ du Yu_ := ⟨at_allocF0 rfl, at_allocF1 rfl, at_allocF2 rfl, at_allocF3 rfl, m_.alloc, n_.alloc⟩
              have hv_ : Below w12.heap.size w12 (w12.alloc (.cells #[.bool bu_, .slice Ru ku_ cu, .bool false, .slice Qu lu_ du] 26)) := (Below.refl _ _).alloc (Nat.le_refl _) _
              generalize w12.alloc (.cells #[.bool bu_, .slice Ru ku_ cu, .bool false, .slice Qu lu_ du] 26) = u13 at *
              replace fa := fa.below hv_
              replace fb := fb.below hv_
              replace ox := ox.below hv_
              replace HB := HB.trans (hv_.mono HB.size)
              clear hv_ m_ n_
              have e0 := ox.c0
              have e1 := ox.c1
              have e2 := ox.c2
              have e3 := ox.c3
              have f0 := ou.c0
              have f1 := ou.c1
              have f2 := ou.c2
              have f3 := ou.c3
              have lt_e0 := cell_lt e0
              have lt_f0 := cell_lt f0
              go_wp2_with fail
              refine (HHn.out _ _ _ _ _ _ _ _ _ ox.m ox.n ou.m ou.n).mono ?_
              rintro e v14 ⟨R22_, c22_, Q22_, d22_, rfl, m_, n_, h_⟩
              clear e0 e1 e2 e3 f0 f1 f2 f3 lt_e0 lt_f0
              have hv_ : Below u13.heap.size u13 v14 := Below.trans (b := _) (by repeat (first | assumption | exact Below.refl _ _ | refine Below.alloc ?_ (by simp; try omega) _ | refine Below.drew ?_ | refine below_drewN ?_ _)) (h_.mono (by simp; try omega))
              replace fa := fa.below hv_
              replace fb := fb.below hv_
              replace HB := HB.trans (hv_.mono HB.size)
              clear hv_
              go_upto_region 23 with fail
              have on_ : Fb (v14.alloc (.cells #[.bool bn_, .slice R22_ kn_ c22_, .bool false, .slice Q22_ ln_ d22_] 26)) v14.heap.size bn_ R22_ kn_ c22_ Xn_ Q22_ ln_ d22_ Yn_ := ⟨at_allocF0 rfl, at_allocF1 rfl, at_allocF2 rfl, at_allocF3 rfl, m_.alloc, n_.alloc⟩
              have hv_ : Below v14.heap.size v14 (v14.alloc (.cells #[.bool bn_, .slice R22_ kn_ c22_, .bool false, .slice Q22_ ln_ d22_] 26)) := (Below.refl _ _).alloc (Nat.le_refl _) _
              generalize v14.alloc (.cells #[.bool bn_, .slice R22_ kn_ c22_, .bool false, .slice Q22_ ln_ d22_] 26) = u14 at *
              replace fa := fa.below hv_
              replace fb := fb.below hv_
              replace HB := HB.trans (hv_.mono HB.size)
              clear hv_ m_ n_
              have e0 := fa.c0
              have e1 := fa.c1
              have e2 := fa.c2
              have e3 := fa.c3
              have f0 := on_.c0
              have f1 := on_.c1
              have f2 := on_.c2
              have f3 := on_.c3
              have lt_e0 := cell_lt e0
              have lt_f0 := cell_lt f0
              go_wp2_with fail
              refine (HC4.out _ _ _ _ _ _ _ _ _ fa.m fa.n on_.m on_.n).mono ?_
              rintro e w15 ⟨rfl, h_⟩
              clear e0 e1 e2 e3 f0 f1 f2 f3 lt_e0 lt_f0
              have hv_ : Below u14.heap.size u14 w15 := Below.trans (b := _) (by repeat (first | assumption | exact Below.refl _ _ | refine Below.alloc ?_ (by simp; try omega) _ | refine Below.drew ?_ | refine below_drewN ?_ _)) (h_.mono (by simp; try omega))
              replace fb := fb.below hv_
              replace on_ := on_.below hv_
              replace HB := HB.trans (hv_.mono HB.size)
              clear hv_
              have e0 := on_.c0
              have e1 := on_.c1
              have e2 := on_.c2
              have e3 := on_.c3
              have f0 := fb.c0
              have f1 := fb.c1
              have f2 := fb.c2
              have f3 := fb.c3
              have lt_e0 := cell_lt e0
              have lt_f0 := cell_lt f0
              go_wp2_with fail
              refine (HC5.out _ _ _ _ _ _ _ _ _ on_.m on_.n fb.m fb.n).mono ?_
              rintro e w16 ⟨rfl, h_⟩
              clear e0 e1 e2 e3 f0 f1 f2 f3 lt_e0 lt_f0
              have hv_ : Below w15.heap.size w15 w16 := Below.trans (b := _) (by repeat (first | assumption | exact Below.refl _ _ | refine Below.alloc ?_ (by simp; try omega) _ | refine Below.drew ?_ | refine below_drewN ?_ _)) (h_.mono (by simp; try omega))
              replace fb := fb.below hv_
              replace HB := HB.trans (hv_.mono HB.size)
              clear hv_
              rcases HZ.out with h4 | h4
              · clear HZ
                go_wp2_with fail
                refine (HE.out _ HB).mono ?_
                rintro e we ⟨rfl, hwe⟩
                go_wp2
                go_ret
                exact ⟨rfl, bel_step HB hwe⟩
              · clear HZ
                by_cases h5 : 0 < z4
                · go_wp2_with fail
                  refine (HE.out _ HB).mono ?_
                  rintro e we ⟨rfl, hwe⟩
                  go_wp2
                  go_ret
                  exact ⟨rfl, bel_step HB hwe⟩
                · go_wp2_with fail
                  refine (HE.out _ HB).mono ?_
                  rintro e we ⟨rfl, hwe⟩
                  go_wp2
                  go_ret
                  exact ⟨rfl, bel_step HB hwe⟩
      · have hbt : Hid (bx = false) := by unfold Hid; rw [hbx]; simpa using hneg
        have su : Sz 32 (((-1) : Int), x.2) := ⟨by show ((-1) : Int).natAbs < 2 ^ 32; decide, hdx⟩
        have s1 : Sz 1 (((-1) : Int), 1) := ⟨by decide, by decide⟩
        have sD : Sz 32 ((x.2 : Int), 1) := ⟨by simp only [Int.natAbs_natCast]; exact hdx, by show (1 : Nat) < 2 ^ 32; decide⟩
        obtain ⟨hun, hnn⟩ := div_unit (-1) (by decide) hd0
        have hne := nearer_no hmin (s := (-1)) (by omega)
        have e33 : (2 : Nat) ^ 33 = 8589934592 := by decide
        have sn : Sz 33 (low (x.1 + (-1)) x.2) := low_sz (by rw [e33]; omega) (by rw [e33]; omega)
        have vn := sn.vf (by omega) (low_nf hd0)
        obtain ⟨bs_, ks_, Xs_, ls_, Ys_, Is_⟩ := fz (((-1) : Int), 1)
        obtain ⟨bu_, ku_, Xu_, lu_, Yu_, Iu_⟩ := fz (((-1) : Int), x.2)
        obtain ⟨bn_, kn_, Xn_, ln_, Yn_, In_⟩ := fz (low (x.1 + (-1)) x.2)
        have hfd : Hid (Fz ((x.2 : Int), 1) false lx Yx ls_ Ys_) := ⟨by simp, by rw [Int.natAbs_natCast]; exact Ix.out.hy, Ix.out.hl, Is_.out.hy, Is_.out.hl⟩
        have HHu := hid fun (w1 : World) (R Q R' Q' : Option Addr) (c d c' d' : Nat) (m1 : Mg w1 R c Xs_) (m2 : Mg w1 Q d Ys_) (m3 : Mg w1 R' c' Yx) (m4 : Mg w1 Q' d' Ys_) => FrDiv_f (w := w1) Is_.out hfd.out (s1.vf (by omega) (nf_int _)) (sD.vf (by omega) (nf_int _)) (by rw [divE_sz s1 sD (by omega) (by simp only; omega), hun]) Iu_.out m1 m2 m3 m4
        have HHn := hid fun (w1 : World) (R Q R' Q' : Option Addr) (c d c' d' : Nat) (m1 : Mg w1 R c Xx) (m2 : Mg w1 Q d Yx) (m3 : Mg w1 R' c' Xu_) (m4 : Mg w1 Q' d' Yu_) => FrAdd_f (w := w1) Ix.out Iu_.out vx (su.vf (by omega) hnn) (by rw [addE_sz sx su (by omega), hne.1]) In_.out m1 m2 m3 m4
        obtain ⟨z4, hz4⟩ : ∃ z, cmpF f (low (x.1 + (-1)) x.2) = z := ⟨_, rfl⟩
        obtain ⟨z5, hz5⟩ : ∃ z, cmpF (low (x.1 + (-1)) x.2) g = z := ⟨_, rfl⟩
        have HH_4 := hid fun (w1 : World) (R Q R' Q' : Option Addr) (c d c' d' : Nat) (m1 : Mg w1 R c xs) (m2 : Mg w1 Q d ys) (m3 : Mg w1 R' c' Xn_) (m4 : Mg w1 Q' d' Yn_) => FrCmp_f (w := w1) IF.out In_.out vf vn _ hz4 m1 m2 m3 m4
        have HC4 := HH_4
        have HH_5 := hid fun (w1 : World) (R Q R' Q' : Option Addr) (c d c' d' : Nat) (m1 : Mg w1 R c Xn_) (m2 : Mg w1 Q d Yn_) (m3 : Mg w1 R' c' us) (m4 : Mg w1 Q' d' vs) => FrCmp_f (w := w1) In_.out IG.out vn vg _ hz5 m1 m2 m3 m4
        have HC5 := HH_5
        have HZ : Hid (0 < z4 ∨ 0 < z5) := by rw [← hz4, ← hz5]; exact hne.2
        clear hne s1 sD sn vn
        have HM1 := hid fun (w1 : World) => Lof_g (w := w1) (x := -1) (y := 1) (by omega) (by omega) (by omega) (by omega) n_m1_1 Is_.out
        clear IF IG NF NG sf sg_ vf vg hsim hmin hdx hnx sx hd0 vx hDD hY Ix hlo hhi hz1 hz2 hz3 HH_1 HH_2 HH_3
        clear hx0 hkx hbx hneg Is_ Iu_ In_ su hun hnn hz4 hz5 hfd HH_4 HH_5
        clear ma mb mc md
        generalize xs.length = ka at *
        generalize ys.length = la at *
        generalize us.length = kb at *
        generalize vs.length = lb at *
        go_enter Tryz.func11, Tryz.ntmps11
        go_wp2_with fail
        refine enterFF (P := fun u => Calls _ _ _ u _) ?_
        intro u HB q0 q1 q2 q3 r0 r1 r2 r3 z1 z2 hsz
        clear hsz
        have f_z1 := z1.fr
        have f_z2 := z2.fr
        have lt_q0 := cell_lt q0
        have lt_r0 := cell_lt r0
        refine (HT1.out _ HB).mono ?_
        rintro e w1 ⟨rfl, ht_⟩
        have hv_ : Below u.heap.size u w1 := Below.trans (b := _) (by repeat (first | assumption | exact Below.refl _ _ | refine Below.alloc ?_ (by simp; try omega) _ | refine Below.drew ?_ | refine below_drewN ?_ _)) (ht_.mono (by simp; try omega))
        replace q0 := keep_cell hv_ q0
        replace q1 := keep_cell hv_ q1
        replace q2 := keep_cell hv_ q2
        replace q3 := keep_cell hv_ q3
        replace r0 := keep_cell hv_ r0
        replace r1 := keep_cell hv_ r1
        replace r2 := keep_cell hv_ r2
        replace r3 := keep_cell hv_ r3
        have lt_q0 := cell_lt q0
        have lt_q1 := cell_lt q1
        have lt_q2 := cell_lt q2
        have lt_q3 := cell_lt q3
        have lt_r0 := cell_lt r0
        have lt_r1 := cell_lt r1
        have lt_r2 := cell_lt r2
        have lt_r3 := cell_lt r3
        replace HB := HB.trans (hv_.mono HB.size)
        clear hv_
        go_wp2_with fail
        refine (HT2.out _ HB).mono ?_
        rintro e w2 ⟨rfl, ht_⟩
        have hv_ : Below w1.heap.size w1 w2 := Below.trans (b := _) (by repeat (first | assumption | exact Below.refl _ _ | refine Below.alloc ?_ (by simp; try omega) _ | refine Below.drew ?_ | refine below_drewN ?_ _)) (ht_.mono (by simp; try omega))
        replace q0 := keep_cell hv_ q0
        replace q1 := keep_cell hv_ q1
        replace q2 := keep_cell hv_ q2
        replace q3 := keep_cell hv_ q3
        replace r0 := keep_cell hv_ r0
        replace r1 := keep_cell hv_ r1
        replace r2 := keep_cell hv_ r2
        replace r3 := keep_cell hv_ r3
        have lt_q0 := cell_lt q0
        have lt_q1 := cell_lt q1
        have lt_q2 := cell_lt q2
        have lt_q3 := cell_lt q3
        have lt_r0 := cell_lt r0
        have lt_r1 := cell_lt r1
        have lt_r2 := cell_lt r2
        have lt_r3 := cell_lt r3
        replace HB := HB.trans (hv_.mono HB.size)
        clear hv_
        go_wp2_with fail
        refine (HT3.out _ HB).mono ?_
        rintro e w3 ⟨rfl, ht_⟩
        have hv_ : Below w2.heap.size w2 w3 := Below.trans (b := _) (by repeat (first | assumption | exact Below.refl _ _ | refine Below.alloc ?_ (by simp; try omega) _ | refine Below.drew ?_ | refine below_drewN ?_ _)) (ht_.mono (by simp; try omega))
        replace q0 := keep_cell hv_ q0
        replace q1 := keep_cell hv_ q1
        replace q2 := keep_cell hv_ q2
        replace q3 := keep_cell hv_ q3
        replace r0 := keep_cell hv_ r0
        replace r1 := keep_cell hv_ r1
        replace r2 := keep_cell hv_ r2
        replace r3 := keep_cell hv_ r3
        have lt_q0 := cell_lt q0
        have lt_q1 := cell_lt q1
        have lt_q2 := cell_lt q2
        have lt_q3 := cell_lt q3
        have lt_r0 := cell_lt r0
        have lt_r1 := cell_lt r1
        have lt_r2 := cell_lt r2
        have lt_r3 := cell_lt r3
        replace HB := HB.trans (hv_.mono HB.size)
        clear hv_
        go_wp2_with fail
        refine (HT4.out _ HB).mono ?_
        rintro e w4 ⟨rfl, ht_⟩
        have hv_ : Below w3.heap.size w3 w4 := Below.trans (b := _) (by repeat (first | assumption | exact Below.refl _ _ | refine Below.alloc ?_ (by simp; try omega) _ | refine Below.drew ?_ | refine below_drewN ?_ _)) (ht_.mono (by simp; try omega))
        replace q0 := keep_cell hv_ q0
        replace q1 := keep_cell hv_ q1
        replace q2 := keep_cell hv_ q2
        replace q3 := keep_cell hv_ q3
        replace r0 := keep_cell hv_ r0
        replace r1 := keep_cell hv_ r1
        replace r2 := keep_cell hv_ r2
        replace r3 := keep_cell hv_ r3
        have lt_q0 := cell_lt q0
        have lt_q1 := cell_lt q1
        have lt_q2 := cell_lt q2
        have lt_q3 := cell_lt q3
        have lt_r0 := cell_lt r0
        have lt_r1 := cell_lt r1
        have lt_r2 := cell_lt r2
        have lt_r3 := cell_lt r3
        replace HB := HB.trans (hv_.mono HB.size)
        clear hv_
        go_wp2_with fail
        refine (HV1.out _ HB).mono ?_
        rintro e w5 ⟨rfl, ht_⟩
        have hv_ : Below w4.heap.size w4 w5 := Below.trans (b := _) (by repeat (first | assumption | exact Below.refl _ _ | refine Below.alloc ?_ (by simp; try omega) _ | refine Below.drew ?_ | refine below_drewN ?_ _)) (ht_.mono (by simp; try omega))
        replace q0 := keep_cell hv_ q0
        replace q1 := keep_cell hv_ q1
        replace q2 := keep_cell hv_ q2
        replace q3 := keep_cell hv_ q3
        replace r0 := keep_cell hv_ r0
        replace r1 := keep_cell hv_ r1
        replace r2 := keep_cell hv_ r2
        replace r3 := keep_cell hv_ r3
        have lt_q0 := cell_lt q0
        have lt_q1 := cell_lt q1
        have lt_q2 := cell_lt q2
        have lt_q3 := cell_lt q3
        have lt_r0 := cell_lt r0
        have lt_r1 := cell_lt r1
        have lt_r2 := cell_lt r2
        have lt_r3 := cell_lt r3
        replace HB := HB.trans (hv_.mono HB.size)
        clear hv_
        go_wp2_with fail
        refine (HV2.out _ HB).mono ?_
        rintro e w6 ⟨rfl, ht_⟩
        have hv_ : Below w5.heap.size w5 w6 := Below.trans (b := _) (by repeat (first | assumption | exact Below.refl _ _ | refine Below.alloc ?_ (by simp; try omega) _ | refine Below.drew ?_ | refine below_drewN ?_ _)) (ht_.mono (by simp; try omega))
        replace q0 := keep_cell hv_ q0
        replace q1 := keep_cell hv_ q1
        replace q2 := keep_cell hv_ q2
        replace q3 := keep_cell hv_ q3
        replace r0 := keep_cell hv_ r0
        replace r1 := keep_cell hv_ r1
        replace r2 := keep_cell hv_ r2
        replace r3 := keep_cell hv_ r3
        have lt_q0 := cell_lt q0
        have lt_q1 := cell_lt q1
        have lt_q2 := cell_lt q2
        have lt_q3 := cell_lt q3
        have lt_r0 := cell_lt r0
        have lt_r1 := cell_lt r1
        have lt_r2 := cell_lt r2
        have lt_r3 := cell_lt r3
        replace HB := HB.trans (hv_.mono HB.size)
        clear hv_
        obtain ⟨⟨n1_, n2_⟩, ⟨n3_, n4_⟩⟩ := MM.out _ HB
        have fa : Fb w6 w.heap.size na A ka ca xs B la cb ys := ⟨q0, q1, q2, q3, n1_, n2_⟩
        have fb : Fb w6 (w.heap.size + 1) nc C kb cc us D lb cd vs := ⟨r0, r1, r2, r3, n3_, n4_⟩
        clear q0 q1 q2 q3 r0 r1 r2 r3 n1_ n2_ n3_ n4_ MM HT1 HT2 HT3 HT4 HV1 HV2 lt_q0 lt_q1 lt_q2 lt_q3 lt_r0 lt_r1 lt_r2 lt_r3
        have e0 := fa.c0
        have e1 := fa.c1
        have e2 := fa.c2
        have e3 := fa.c3
        have f0 := fb.c0
        have f1 := fb.c1
        have f2 := fb.c2
        have f3 := fb.c3
        have lt_e0 := cell_lt e0
        have lt_f0 := cell_lt f0
        go_wp2_with fail
        refine (HHs.out _ _ _ _ _ _ _ _ _ fa.m fa.n fb.m fb.n).mono ?_
        rintro e v3 ⟨R3_, c3_, Q3_, d3_, rfl, m_, n_, h_⟩
        clear e0 e1 e2 e3 f0 f1 f2 f3 lt_e0 lt_f0
        have hv_ : Below w6.heap.size w6 v3 := Below.trans (b := _) (by repeat (first | assumption | exact Below.refl _ _ | refine Below.alloc ?_ (by simp; try omega) _ | refine Below.drew ?_ | refine below_drewN ?_ _)) (h_.mono (by simp; try omega))
        replace fa := fa.below hv_
        replace fb := fb.below hv_
        replace HB := HB.trans (hv_.mono HB.size)
        clear hv_
        go_upto_region 4 with fail
        have ox : Fb (v3.alloc (.cells #[.bool bx, .slice R3_ kx c3_, .bool false, .slice Q3_ lx d3_] 26)) v3.heap.size bx R3_ kx c3_ Xx Q3_ lx d3_ Yx := ⟨at_allocF0 rfl, at_allocF1 rfl, at_allocF2 rfl, at_allocF3 rfl, m_.alloc, n_.alloc⟩
        have hv_ : Below v3.heap.size v3 (v3.alloc (.cells #[.bool bx, .slice R3_ kx c3_, .bool false, .slice Q3_ lx d3_] 26)) := (Below.refl _ _).alloc (Nat.le_refl _) _
        generalize v3.alloc (.cells #[.bool bx, .slice R3_ kx c3_, .bool false, .slice Q3_ lx d3_] 26) = u3 at *
        replace fa := fa.below hv_
        replace fb := fb.below hv_
        replace HB := HB.trans (hv_.mono HB.size)
        clear hv_ m_ n_
        have e0 := fa.c0
        have e1 := fa.c1
        have e2 := fa.c2
        have e3 := fa.c3
        have f0 := fb.c0
        have f1 := fb.c1
        have f2 := fb.c2
        have f3 := fb.c3
        have lt_e0 := cell_lt e0
        have lt_f0 := cell_lt f0
        go_wp2_with fail
        refine (HC1.out _ _ _ _ _ _ _ _ _ fa.m fa.n fb.m fb.n).mono ?_
        rintro e w7 ⟨rfl, h_⟩
        clear e0 e1 e2 e3 f0 f1 f2 f3 lt_e0 lt_f0
        have hv_ : Below u3.heap.size u3 w7 := Below.trans (b := _) (by repeat (first | assumption | exact Below.refl _ _ | refine Below.alloc ?_ (by simp; try omega) _ | refine Below.drew ?_ | refine below_drewN ?_ _)) (h_.mono (by simp; try omega))
        replace fa := fa.below hv_
        replace fb := fb.below hv_
        replace ox := ox.below hv_
        replace HB := HB.trans (hv_.mono HB.size)
        clear hv_
        obtain rfl := hYx.out
        obtain rfl := hlx.out
        clear hYx hlx
        have e0 := fa.c0
        have e1 := fa.c1
        have e2 := fa.c2
        have e3 := fa.c3
        have f0 := ox.c0
        have f1 := ox.c1
        have f2 := ox.c2
        have f3 := ox.c3
        have lt_e0 := cell_lt e0
        have lt_f0 := cell_lt f0
        go_wp2_with fail
        refine (HC2.out _ _ _ _ _ _ _ _ _ fa.m fa.n ox.m ox.n).mono ?_
        rintro e w8 ⟨rfl, h_⟩
        clear e0 e1 e2 e3 f0 f1 f2 f3 lt_e0 lt_f0
        have hv_ : Below w7.heap.size w7 w8 := Below.trans (b := _) (by repeat (first | assumption | exact Below.refl _ _ | refine Below.alloc ?_ (by simp; try omega) _ | refine Below.drew ?_ | refine below_drewN ?_ _)) (h_.mono (by simp; try omega))
        replace fa := fa.below hv_
        replace fb := fb.below hv_
        replace ox := ox.below hv_
        replace HB := HB.trans (hv_.mono HB.size)
        clear hv_
        have e0 := ox.c0
        have e1 := ox.c1
        have e2 := ox.c2
        have e3 := ox.c3
        have f0 := fb.c0
        have f1 := fb.c1
        have f2 := fb.c2
        have f3 := fb.c3
        have lt_e0 := cell_lt e0
        have lt_f0 := cell_lt f0
        go_wp2_with fail
        refine (HC3.out _ _ _ _ _ _ _ _ _ ox.m ox.n fb.m fb.n).mono ?_
        rintro e w9 ⟨rfl, h_⟩
        clear e0 e1 e2 e3 f0 f1 f2 f3 lt_e0 lt_f0
        have hv_ : Below w8.heap.size w8 w9 := Below.trans (b := _) (by repeat (first | assumption | exact Below.refl _ _ | refine Below.alloc ?_ (by simp; try omega) _ | refine Below.drew ?_ | refine below_drewN ?_ _)) (h_.mono (by simp; try omega))
        replace fa := fa.below hv_
        replace fb := fb.below hv_
        replace ox := ox.below hv_
        replace HB := HB.trans (hv_.mono HB.size)
        clear hv_
        obtain ⟨bD, oD, hD_, _, hcD⟩ := ox.n.rd (by simp)
        have d0 := hcD 0 (by simp)
        simp only [Nat.add_zero, List.getElem_cons_zero, lim] at d0
        clear hcD
        subst hD_
        have lt_d0 := cell_lt d0
        have e0 := ox.c0
        have e1 := ox.c1
        have e2 := ox.c2
        have e3 := ox.c3
        have lt_e0 := cell_lt e0
        go_upto_region 9 with fail
        go_upto_region 11 with fail
        go_wp2_with fail
        go_loopw [13] (fun s13 wr => ∃ d : Nat, 1 ≤ d ∧ d ≤ 301 ∧ s13 = .int .i64 d ∧ Below w9.heap.size w9 wr) (fun s13 _ => 301 - (intOf s13).toNat)
        case atStart => exact ⟨1, by omega, by omega, rfl, Below.refl _ _⟩
        case round =>
          obtain ⟨d, hd1, hd2, rfl, hbl⟩ := hrel
          replace fa := fa.below hbl
          replace fb := fb.below hbl
          replace ox := ox.below hbl
          replace d0 := keep_cell hbl d0
          replace e0 := keep_cell hbl e0
          replace e1 := keep_cell hbl e1
          replace e2 := keep_cell hbl e2
          replace e3 := keep_cell hbl e3
          replace HB := HB.trans (hbl.mono HB.size)
          replace lt_d0 := cell_lt d0
          replace lt_e0 := cell_lt e0
          by_cases hd : d ≤ 300 ∧ d < DD
          · obtain ⟨hd3, hd4⟩ := hd
            have hdi : (d : Int) ≤ 300 := by omega
            have hdj : (d : Int) < (DD : Int) := by omega
            have HIn := hid (HIN.out d (by omega) hd3 hd4)
            have q0 := fa.c0
            have q1 := fa.c1
            have q2 := fa.c2
            have q3 := fa.c3
            have r0 := fb.c0
            have r1 := fb.c1
            have r2 := fb.c2
            have r3 := fb.c3
            have lt_q := cell_lt q0
            have lt_r := cell_lt r0
            go_wp2_with fail
            refine (HIn.out _ _ _ _ _ _ _ _ _ fa.m fa.n fb.m fb.n).mono ?_
            rintro e w10 ⟨rfl, h10⟩
            go_wp2_with fail
            go_roundw
            case rel => exact ⟨d + 1, by omega, by omega, by go_num, hbl.trans (h10.mono hbl.size)⟩
            case measure => simp [intOf]; omega
          · clear HIN
            by_cases hd3 : d ≤ 300
            · have hd4 : ¬ (d : Int) < (DD : Int) := by omega
              have hd5 : (d : Int) ≤ 300 := by omega
              obtain rfl := hbt.out
              go_wp2_with fail
              refine (HM1.out _).mono ?_
              rintro e w11 ⟨R11, c11, Q11, d11, rfl, m_, n_, h_⟩
              clear e0 e1 e2 e3 d0 lt_d0 lt_e0
              have hv_ : Below wr.heap.size wr w11 := Below.trans (b := _) (by repeat (first | assumption | exact Below.refl _ _ | refine Below.alloc ?_ (by simp; try omega) _ | refine Below.drew ?_ | refine below_drewN ?_ _)) (h_.mono (by simp; try omega))
              replace fa := fa.below hv_
              replace fb := fb.below hv_
              replace ox := ox.below hv_
              replace HB := HB.trans (hv_.mono HB.size)
              clear hv_
              go_upto_region 19 with fail
              have os : Fb (w11.alloc (.cells #[.bool bs_, .slice R11 ks_ c11, .bool false, .slice Q11 ls_ d11] 26)) w11.heap.size bs_ R11 ks_ c11 Xs_ Q11 ls_ d11 Ys_ := ⟨at_allocF0 rfl, at_allocF1 rfl, at_allocF2 rfl, at_allocF3 rfl, m_.alloc, n_.alloc⟩
              have hv_ : Below w11.heap.size w11 (w11.alloc (.cells #[.bool bs_, .slice R11 ks_ c11, .bool false, .slice Q11 ls_ d11] 26)) := (Below.refl _ _).alloc (Nat.le_refl _) _
              generalize w11.alloc (.cells #[.bool bs_, .slice R11 ks_ c11, .bool false, .slice Q11 ls_ d11] 26) = u12 at *
              replace fa := fa.below hv_
              replace fb := fb.below hv_
              replace ox := ox.below hv_
              replace HB := HB.trans (hv_.mono HB.size)
              clear hv_ m_ n_
              have e0 := ox.c0
              have e1 := ox.c1
              have e2 := ox.c2
              have e3 := ox.c3
              have f0 := os.c0
              have f1 := os.c1
              have f2 := os.c2
              have f3 := os.c3
              have lt_e0 := cell_lt e0
              have lt_f0 := cell_lt f0
              go_wp2_with fail
              refine (HHu.out _ _ _ _ _ _ _ _ _ os.m os.n ox.n os.n).mono ?_
              rintro e w12 ⟨Ru, cu, Qu, du, rfl, m_, n_, h_⟩
              clear e0 e1 e2 e3 f0 f1 f2 f3 lt_e0 lt_f0
              have hv_ : Below u12.heap.size u12 w12 := Below.trans (b := _) (by repeat (first | assumption | exact Below.refl _ _ | refine Below.alloc ?_ (by simp; try omega) _ | refine Below.drew ?_ | refine below_drewN ?_ _)) (h_.mono (by simp; try omega))
              replace fa := fa.below hv_
              replace fb := fb.below hv_
              replace ox := ox.below hv_
              replace HB := HB.trans (hv_.mono HB.size)
              clear hv_
              go_upto_region 22 with fail
              have ou : Fb (w12.alloc (.cells #[.bool bu_, .slice Ru ku_ cu, .bool false, .slice Qu lu_ du] 26)) w12.heap.size bu_ Ru ku_ cu Xu_ Qu lu_ du Yu_ := ⟨at_allocF0 rfl, at_allocF1 rfl, at_allocF2 rfl, at_allocF3 rfl, m_.alloc, n_.alloc⟩
              have hv_ : Below w12.heap.size w12 (w12.alloc (.cells #[.bool bu_, .slice Ru ku_ cu, .bool false, .slice Qu lu_ du] 26)) := (Below.refl _ _).alloc (Nat.le_refl _) _
              generalize w12.alloc (.cells #[.bool bu_, .slice Ru ku_ cu, .bool false, .slice Qu lu_ du] 26) = u13 at *
              replace fa := fa.below hv_
              replace fb := fb.below hv_
              replace ox := ox.below hv_
              replace HB := HB.trans (hv_.mono HB.size)
              clear hv_ m_ n_
              have e0 := ox.c0
              have e1 := ox.c1
              have e2 := ox.c2
              have e3 := ox.c3
              have f0 := ou.c0
              have f1 := ou.c1
              have f2 := ou.c2
              have f3 := ou.c3
              have lt_e0 := cell_lt e0
              have lt_f0 := cell_lt f0
              go_wp2_with fail
              refine (HHn.out _ _ _ _ _ _ _ _ _ ox.m ox.n ou.m ou.n).mono ?_
              rintro e v14 ⟨R22_, c22_, Q22_, d22_, rfl, m_, n_, h_⟩
              clear e0 e1 e2 e3 f0 f1 f2 f3 lt_e0 lt_f0
              have hv_ : Below u13.heap.size u13 v14 := Below.trans (b := _) (by repeat (first | assumption | exact Below.refl _ _ | refine Below.alloc ?_ (by simp; try omega) _ | refine Below.drew ?_ | refine below_drewN ?_ _)) (h_.mono (by simp; try omega))
              replace fa := fa.below hv_
              replace fb := fb.below hv_
              replace HB := HB.trans (hv_.mono HB.size)
              clear hv_
              go_upto_region 23 with fail
              have on_ : Fb (v14.alloc (.cells #[.bool bn_, .slice R22_ kn_ c22_, .bool false, .slice Q22_ ln_ d22_] 26)) v14.heap.size bn_ R22_ kn_ c22_ Xn_ Q22_ ln_ d22_ Yn_ := ⟨at_allocF0 rfl, at_allocF1 rfl, at_allocF2 rfl, at_allocF3 rfl, m_.alloc, n_.alloc⟩
              have hv_ : Below v14.heap.size v14 (v14.alloc (.cells #[.bool bn_, .slice R22_ kn_ c22_, .bool false, .slice Q22_ ln_ d22_] 26)) := (Below.refl _ _).alloc (Nat.le_refl _) _
              generalize v14.alloc (.cells #[.bool bn_, .slice R22_ kn_ c22_, .bool false, .slice Q22_ ln_ d22_] 26) = u14 at *
              replace fa := fa.below hv_
              replace fb := fb.below hv_
              replace HB := HB.trans (hv_.mono HB.size)
              clear hv_ m_ n_
              have e0 := fa.c0
              have e1 := fa.c1
              have e2 := fa.c2
              have e3 := fa.c3
              have f0 := on_.c0
              have f1 := on_.c1
              have f2 := on_.c2
              have f3 := on_.c3
              have lt_e0 := cell_lt e0
              have lt_f0 := cell_lt f0
              go_wp2_with fail
              refine (HC4.out _ _ _ _ _ _ _ _ _ fa.m fa.n on_.m on_.n).mono ?_
              rintro e w15 ⟨rfl, h_⟩
              clear e0 e1 e2 e3 f0 f1 f2 f3 lt_e0 lt_f0
              have hv_ : Below u14.heap.size u14 w15 := Below.trans (b := _) (by repeat (first | assumption | exact Below.refl _ _ | refine Below.alloc ?_ (by simp; try omega) _ | refine Below.drew ?_ | refine below_drewN ?_ _)) (h_.mono (by simp; try omega))
              replace fb := fb.below hv_
              replace on_ := on_.below hv_
              replace HB := HB.trans (hv_.mono HB.size)
              clear hv_
              have e0 := on_.c0
              have e1 := on_.c1
              have e2 := on_.c2
              have e3 := on_.c3
              have f0 := fb.c0
              have f1 := fb.c1
              have f2 := fb.c2
              have f3 := fb.c3
              have lt_e0 := cell_lt e0
              have lt_f0 := cell_lt f0
              go_wp2_with fail
              refine (HC5.out _ _ _ _ _ _ _ _ _ on_.m on_.n fb.m fb.n).mono ?_
              rintro e w16 ⟨rfl, h_⟩
              clear e0 e1 e2 e3 f0 f1 f2 f3 lt_e0 lt_f0
              have hv_ : Below w15.heap.size w15 w16 := Below.trans (b := _) (by repeat (first | assumption | exact Below.refl _ _ | refine Below.alloc ?_ (by simp; try omega) _ | refine Below.drew ?_ | refine below_drewN ?_ _)) (h_.mono (by simp; try omega))
              replace fb := fb.below hv_
              replace HB := HB.trans (hv_.mono HB.size)
              clear hv_
              rcases HZ.out with h4 | h4
              · clear HZ
                go_wp2_with fail
                refine (HE.out _ HB).mono ?_
                rintro e we ⟨rfl, hwe⟩
                go_wp2
                go_ret
                exact ⟨rfl, bel_step HB hwe⟩
              · clear HZ
                by_cases h5 : 0 < z4
                · go_wp2_with fail
                  refine (HE.out _ HB).mono ?_
                  rintro e we ⟨rfl, hwe⟩
                  go_wp2
                  go_ret
                  exact ⟨rfl, bel_step HB hwe⟩
                · go_wp2_with fail
                  refine (HE.out _ HB).mono ?_
                  rintro e we ⟨rfl, hwe⟩
                  go_wp2
                  go_ret
                  exact ⟨rfl, bel_step HB hwe⟩
            · have hd5 : ¬ (d : Int) ≤ 300 := by omega
              obtain rfl := hbt.out
              go_wp2_with fail
              refine (HM1.out _).mono ?_
              rintro e w11 ⟨R11, c11, Q11, d11, rfl, m_, n_, h_⟩
              clear e0 e1 e2 e3 d0 lt_d0 lt_e0
              have hv_ : Below wr.heap.size wr w11 := Below.trans (b := _) (by repeat (first | assumption | exact Below.refl _ _ | refine Below.alloc ?_ (by simp; try omega) _ | refine Below.drew ?_ | refine below_drewN ?_ _)) (h_.mono (by simp; try omega))
              replace fa := fa.below hv_
              replace fb := fb.below hv_
              replace ox := ox.below hv_
              replace HB := HB.trans (hv_.mono HB.size)
              clear hv_
              go_upto_region 19 with fail
              have os : Fb (w11.alloc (.cells #[.bool bs_, .slice R11 ks_ c11, .bool false, .slice Q11 ls_ d11] 26)) w11.heap.size bs_ R11 ks_ c11 Xs_ Q11 ls_ d11 Ys_ := ⟨at_allocF0 rfl, at_allocF1 rfl, at_allocF2 rfl, at_allocF3 rfl, m_.alloc, n_.alloc⟩
              have hv_ : Below w11.heap.size w11 (w11.alloc (.cells #[.bool bs_, .slice R11 ks_ c11, .bool false, .slice Q11 ls_ d11] 26)) := (Below.refl _ _).alloc (Nat.le_refl _) _
              generalize w11.alloc (.cells #[.bool bs_, .slice R11 ks_ c11, .bool false, .slice Q11 ls_ d11] 26) = u12 at *
              replace fa := fa.below hv_
              replace fb := fb.below hv_
              replace ox := ox.below hv_
              replace HB := HB.trans (hv_.mono HB.size)
              clear hv_ m_ n_
              have e0 := ox.c0
              have e1 := ox.c1
              have e2 := ox.c2
              have e3 := ox.c3
              have f0 := os.c0
              have f1 := os.c1
              have f2 := os.c2
              have f3 := os.c3
              have lt_e0 := cell_lt e0
              have lt_f0 := cell_lt f0
              go_wp2_with fail
              refine (HHu.out _ _ _ _ _ _ _ _ _ os.m os.n ox.n os.n).mono ?_
              rintro e w12 ⟨Ru, cu, Qu, du, rfl, m_, n_, h_⟩
              clear e0 e1 e2 e3 f0 f1 f2 f3 lt_e0 lt_f0
              have hv_ : Below u12.heap.size u12 w12 := Below.trans (b := _) (by repeat (first | assumption | exact Below.refl _ _ | refine Below.alloc ?_ (by simp; try omega) _ | refine Below.drew ?_ | refine below_drewN ?_ _)) (h_.mono (by simp; try omega))
              replace fa := fa.below hv_
              replace fb := fb.below hv_
              replace ox := ox.below hv_
              replace HB := HB.trans (hv_.mono HB.size)
              clear hv_
              go_upto_region 22 with fail
              have ou : Fb (w12.alloc (.cells #[.bool bu_, .slice Ru ku_ cu, .bool false, .slice Qu lu_ du] 26)) w12.heap.size bu_ Ru ku_ cu Xu_ Qu lu_ du Yu_ := ⟨at_allocF0 rfl, at_allocF1 rfl, at_allocF2 rfl, at_allocF3 rfl, m_.alloc, n_.alloc⟩
              have hv_ : Below w12.heap.size w12 (w12.alloc (.cells #[.bool bu_, .slice Ru ku_ cu, .bool false, .slice Qu lu_ du] 26)) := (Below.refl _ _).alloc (Nat.le_refl _) _
              generalize w12.alloc (.cells #[.bool bu_, .slice Ru ku_ cu, .bool false, .slice Qu lu_ du] 26) = u13 at *
              replace fa := fa.below hv_
              replace fb := fb.below hv_
              replace ox := ox.below hv_
              replace HB := HB.trans (hv_.mono HB.size)
              clear hv_ m_ n_
              have e0 := ox.c0
              have e1 := ox.c1
              have e2 := ox.c2
              have e3 := ox.c3
              have f0 := ou.c0
              have f1 := ou.c1
              have f2 := ou.c2
              have f3 := ou.c3
              have lt_e0 := cell_lt e0
              have lt_f0 := cell_lt f0
              go_wp2_with fail
              refine (HHn.out _ _ _ _ _ _ _ _ _ ox.m ox.n ou.m ou.n).mono ?_
              rintro e v14 ⟨R22_, c22_, Q22_, d22_, rfl, m_, n_, h_⟩
              clear e0 e1 e2 e3 f0 f1 f2 f3 lt_e0 lt_f0
              have hv_ : Below u13.heap.size u13 v14 := Below.trans (b := _) (by repeat (first | assumption | exact Below.refl _ _ | refine Below.alloc ?_ (by simp; try omega) _ | refine Below.drew ?_ | refine below_drewN ?_ _)) (h_.mono (by simp; try omega))
              replace fa := fa.below hv_
              replace fb := fb.below hv_
              replace HB := HB.trans (hv_.mono HB.size)
              clear hv_
              go_upto_region 23 with fail
              have on_ : Fb (v14.alloc (.cells #[.bool bn_, .slice R22_ kn_ c22_, .bool false, .slice Q22_ ln_ d22_] 26)) v14.heap.size bn_ R22_ kn_ c22_ Xn_ Q22_ ln_ d22_ Yn_ := ⟨at_allocF0 rfl, at_allocF1 rfl, at_allocF2 rfl, at_allocF3 rfl, m_.alloc, n_.alloc⟩
              have hv_ : Below v14.heap.size v14 (v14.alloc (.cells #[.bool bn_, .slice R22_ kn_ c22_, .bool false, .slice Q22_ ln_ d22_] 26)) := (Below.refl _ _).alloc (Nat.le_refl _) _
              generalize v14.alloc (.cells #[.bool bn_, .slice R22_ kn_ c22_, .bool false, .slice Q22_ ln_ d22_] 26) = u14 at *
              replace fa := fa.below hv_
              replace fb := fb.below hv_
              replace HB := HB.trans (hv_.mono HB.size)
              clear hv_ m_ n_
              have e0 := fa.c0
              have e1 := fa.c1
              have e2 := fa.c2
              have e3 := fa.c3
              have f0 := on_.c0
              have f1 := on_.c1
              have f2 := on_.c2
              have f3 := on_.c3
              have lt_e0 := cell_lt e0
              have lt_f0 := cell_lt f0
              go_wp2_with fail
              refine (HC4.out _ _ _ _ _ _ _ _ _ fa.m fa.n on_.m on_.n).mono ?_
              rintro e w15 ⟨rfl, h_⟩
              clear e0 e1 e2 e3 f0 f1 f2 f3 lt_e0 lt_f0
              have hv_ : Below u14.heap.size u14 w15 := Below.trans (b := _) (by repeat (first | assumption | exact Below.refl _ _ | refine Below.alloc ?_ (by simp; try omega) _ | refine Below.drew ?_ | refine below_drewN ?_ _)) (h_.mono (by simp; try omega))
              replace fb := fb.below hv_
              replace on_ := on_.below hv_
              replace HB := HB.trans (hv_.mono HB.size)
              clear hv_
              have e0 := on_.c0
              have e1 := on_.c1
              have e2 := on_.c2
              have e3 := on_.c3
              have f0 := fb.c0
              have f1 := fb.c1
              have f2 := fb.c2
              have f3 := fb.c3
              have lt_e0 := cell_lt e0
              have lt_f0 := cell_lt f0
              go_wp2_with fail
              refine (HC5.out _ _ _ _ _ _ _ _ _ on_.m on_.n fb.m fb.n).mono ?_
              rintro e w16 ⟨rfl, h_⟩
              clear e0 e1 e2 e3 f0 f1 f2 f3 lt_e0 lt_f0
              have hv_ : Below w15.heap.size w15 w16 := Below.trans (b := _) (by repeat (first | assumption | exact Below.refl _ _ | refine Below.alloc ?_ (by simp; try omega) _ | refine Below.drew ?_ | refine below_drewN ?_ _)) (h_.mono (by simp; try omega))
              replace fb := fb.below hv_
              replace HB := HB.trans (hv_.mono HB.size)
              clear hv_
              rcases HZ.out with h4 | h4
              · clear HZ
                go_wp2_with fail
                refine (HE.out _ HB).mono ?_
                rintro e we ⟨rfl, hwe⟩
                go_wp2
                go_ret
                exact ⟨rfl, bel_step HB hwe⟩
              · clear HZ
                by_cases h5 : 0 < z4
                · go_wp2_with fail
                  refine (HE.out _ HB).mono ?_
                  rintro e we ⟨rfl, hwe⟩
                  go_wp2
                  go_ret
                  exact ⟨rfl, bel_step HB hwe⟩
                · go_wp2_with fail
                  refine (HE.out _ HB).mono ?_
                  rintro e we ⟨rfl, hwe⟩
                  go_wp2
                  go_ret
                  exact ⟨rfl, bel_step HB hwe⟩
end Go.Proofs.YtfhbigfbeppinaaGreatDoor
