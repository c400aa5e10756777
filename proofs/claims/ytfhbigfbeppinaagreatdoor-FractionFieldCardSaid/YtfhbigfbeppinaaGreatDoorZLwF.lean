/- The law FractionField: its walk. Conditions: none. -/
import Derived.Test.YtfhbigfbeppinaaGreatDoorZYS
import Derived.Test.YtfhbigfbeppinaaGreatDoorZNtS
set_option linter.unusedVariables false
set_option linter.unusedSimpArgs false
namespace Go.Proofs.YtfhbigfbeppinaaGreatDoor
open Go.RowKit Big

set_option maxRecDepth 100000 in
set_option maxHeartbeats 16000000 in
theorem FractionField_law {na nb nc nd ne nf : Bool} {xs ys us vs ps qs : List Nat} {A B C D E F : Option Addr} {ca cb cc cd ce cf : Nat} {w : World} (ma : Mg w A ca xs) (mb : Mg w B cb ys) (mc : Mg w C cc us) (md : Mg w D cd vs) (me : Mg w E ce ps) (mf : Mg w F cf qs) (htab : PowTab w) (hlen : LenAt w) :
    Calls Tryz.prog 9 #[.agg #[.bool na, .slice A xs.length ca, .bool nb, .slice B ys.length cb], .agg #[.bool nc, .slice C us.length cc, .bool nd, .slice D vs.length cd], .agg #[.bool ne, .slice E ps.length ce, .bool nf, .slice F qs.length cf]] w (RetB w true) := by
  have HE := hid fun (w1 : World) (h : Below w.heap.size w w1) => Lex_ok w1 (htab.below h) (hlen.below h)
  obtain ⟨t1, ht1⟩ : ∃ t, (decide (xs.length ≤ 3) && decide (ys.length ≤ 3)) = t := ⟨_, rfl⟩
  obtain ⟨t2, ht2⟩ : ∃ t, (decide (us.length ≤ 3) && decide (vs.length ≤ 3)) = t := ⟨_, rfl⟩
  obtain ⟨t3, ht3⟩ : ∃ t, (decide (ps.length ≤ 3) && decide (qs.length ≤ 3)) = t := ⟨_, rfl⟩
  have HT1 := hid fun (w1 : World) (h : Below w.heap.size w w1) => Ltiny_g (na := na) (nb := nb) (A := A) (B := B) (ca := ca) (cb := cb) (w := w1) t1 ht1
  have HT2 := hid fun (w1 : World) (h : Below w.heap.size w w1) => Ltiny_g (na := nc) (nb := nd) (A := C) (B := D) (ca := cc) (cb := cd) (w := w1) t2 ht2
  have HT3 := hid fun (w1 : World) (h : Below w.heap.size w w1) => Ltiny_g (na := ne) (nb := nf) (A := E) (B := F) (ca := ce) (cb := cf) (w := w1) t3 ht3
  have HV1 := hid fun (w1 : World) (h : Below w.heap.size w w1) => FrValid_any (na := na) (nb := nb) (w := w1) (ma.below h) (mb.below h)
  have HV2 := hid fun (w1 : World) (h : Below w.heap.size w w1) => FrValid_any (na := nc) (nb := nd) (w := w1) (mc.below h) (md.below h)
  have HV3 := hid fun (w1 : World) (h : Below w.heap.size w w1) => FrValid_any (na := ne) (nb := nf) (w := w1) (me.below h) (mf.below h)
  cases t1
  · clear HT2 HT3 HV1 HV2 HV3 ht1 ht2 ht3
    clear ma mb mc md me mf
    generalize xs.length = ka at *
    generalize ys.length = la at *
    generalize us.length = kb at *
    generalize vs.length = lb at *
    generalize ps.length = kc at *
    generalize qs.length = lc at *
    go_enter Tryz.func9, Tryz.ntmps9
    go_wp2_with fail
    refine enterFFF (P := fun u => Calls _ _ _ u _) ?_
    intro u HB q0 q1 q2 q3 r0 r1 r2 r3 s0 s1 s2 s3 z1 z2 z3 hsz
    clear hsz
    have f_z1 := z1.fr
    have f_z2 := z2.fr
    have f_z3 := z3.fr
    have lt_q0 := cell_lt q0
    have lt_r0 := cell_lt r0
    have lt_s0 := cell_lt s0
    refine (HT1.out _ HB).mono ?_
    rintro e w1 ⟨rfl, ht_⟩
    have hv_ : Below u.heap.size u w1 := Below.trans (b := _) (by repeat (first | assumption | exact Below.refl _ _ | refine Below.alloc ?_ (by simp; try omega) _ | refine Below.drew ?_ | refine below_drewN ?_ _)) (ht_.mono (by simp; try omega))
    replace HB := HB.trans (hv_.mono HB.size)
    clear hv_
    go_wp2_with fail
    refine (HE.out _ HB).mono ?_
    rintro e we ⟨rfl, hwe⟩
    go_wp2
    go_ret
    exact ⟨rfl, bel_step HB hwe⟩
  cases t2
  · clear HT3 HV1 HV2 HV3 ht1 ht2 ht3
    clear ma mb mc md me mf
    generalize xs.length = ka at *
    generalize ys.length = la at *
    generalize us.length = kb at *
    generalize vs.length = lb at *
    generalize ps.length = kc at *
    generalize qs.length = lc at *
    go_enter Tryz.func9, Tryz.ntmps9
    go_wp2_with fail
    refine enterFFF (P := fun u => Calls _ _ _ u _) ?_
    intro u HB q0 q1 q2 q3 r0 r1 r2 r3 s0 s1 s2 s3 z1 z2 z3 hsz
    clear hsz
    have f_z1 := z1.fr
    have f_z2 := z2.fr
    have f_z3 := z3.fr
    have lt_q0 := cell_lt q0
    have lt_r0 := cell_lt r0
    have lt_s0 := cell_lt s0
    refine (HT1.out _ HB).mono ?_
    rintro e w1 ⟨rfl, ht_⟩
    have hv_ : Below u.heap.size u w1 := Below.trans (b := _) (by repeat (first | assumption | exact Below.refl _ _ | refine Below.alloc ?_ (by simp; try omega) _ | refine Below.drew ?_ | refine below_drewN ?_ _)) (ht_.mono (by simp; try omega))
    replace r0 := keep_cell hv_ r0
    replace r1 := keep_cell hv_ r1
    replace r2 := keep_cell hv_ r2
    replace r3 := keep_cell hv_ r3
    have lt_r0 := cell_lt r0
    have lt_r1 := cell_lt r1
    have lt_r2 := cell_lt r2
    have lt_r3 := cell_lt r3
    replace HB := HB.trans (hv_.mono HB.size)
    clear hv_
    go_wp2_with fail
    refine (HT2.out _ HB).mono ?_
    rintro e w2 ⟨rfl, ht_⟩
    have hv_ : Below w1.heap.size w1 w2 := Below.trans (b := _) (by repeat (first | assumption | exact Below.refl _ _ | refine Below.alloc ?_ (by simp; try omega) _ | refine Below.drew ?_ | refine below_drewN ?_ _)) (ht_.mono (by simp; try omega))
    replace HB := HB.trans (hv_.mono HB.size)
    clear hv_
    go_wp2_with fail
    refine (HE.out _ HB).mono ?_
    rintro e we ⟨rfl, hwe⟩
    go_wp2
    go_ret
    exact ⟨rfl, bel_step HB hwe⟩
  cases t3
  · clear HV1 HV2 HV3 ht1 ht2 ht3
    clear ma mb mc md me mf
    generalize xs.length = ka at *
    generalize ys.length = la at *
    generalize us.length = kb at *
    generalize vs.length = lb at *
    generalize ps.length = kc at *
    generalize qs.length = lc at *
    go_enter Tryz.func9, Tryz.ntmps9
    go_wp2_with fail
    refine enterFFF (P := fun u => Calls _ _ _ u _) ?_
    intro u HB q0 q1 q2 q3 r0 r1 r2 r3 s0 s1 s2 s3 z1 z2 z3 hsz
    clear hsz
    have f_z1 := z1.fr
    have f_z2 := z2.fr
    have f_z3 := z3.fr
    have lt_q0 := cell_lt q0
    have lt_r0 := cell_lt r0
    have lt_s0 := cell_lt s0
    refine (HT1.out _ HB).mono ?_
    rintro e w1 ⟨rfl, ht_⟩
    have hv_ : Below u.heap.size u w1 := Below.trans (b := _) (by repeat (first | assumption | exact Below.refl _ _ | refine Below.alloc ?_ (by simp; try omega) _ | refine Below.drew ?_ | refine below_drewN ?_ _)) (ht_.mono (by simp; try omega))
    replace r0 := keep_cell hv_ r0
    replace r1 := keep_cell hv_ r1
    replace r2 := keep_cell hv_ r2
    replace r3 := keep_cell hv_ r3
    replace s0 := keep_cell hv_ s0
    replace s1 := keep_cell hv_ s1
    replace s2 := keep_cell hv_ s2
    replace s3 := keep_cell hv_ s3
    have lt_r0 := cell_lt r0
    have lt_r1 := cell_lt r1
    have lt_r2 := cell_lt r2
    have lt_r3 := cell_lt r3
    have lt_s0 := cell_lt s0
    have lt_s1 := cell_lt s1
    have lt_s2 := cell_lt s2
    have lt_s3 := cell_lt s3
    replace HB := HB.trans (hv_.mono HB.size)
    clear hv_
    go_wp2_with fail
    refine (HT2.out _ HB).mono ?_
    rintro e w2 ⟨rfl, ht_⟩
    have hv_ : Below w1.heap.size w1 w2 := Below.trans (b := _) (by repeat (first | assumption | exact Below.refl _ _ | refine Below.alloc ?_ (by simp; try omega) _ | refine Below.drew ?_ | refine below_drewN ?_ _)) (ht_.mono (by simp; try omega))
    replace s0 := keep_cell hv_ s0
    replace s1 := keep_cell hv_ s1
    replace s2 := keep_cell hv_ s2
    replace s3 := keep_cell hv_ s3
    have lt_s0 := cell_lt s0
    have lt_s1 := cell_lt s1
    have lt_s2 := cell_lt s2
    have lt_s3 := cell_lt s3
    replace HB := HB.trans (hv_.mono HB.size)
    clear hv_
    go_wp2_with fail
    refine (HT3.out _ HB).mono ?_
    rintro e w3 ⟨rfl, ht_⟩
    have hv_ : Below w2.heap.size w2 w3 := Below.trans (b := _) (by repeat (first | assumption | exact Below.refl _ _ | refine Below.alloc ?_ (by simp; try omega) _ | refine Below.drew ?_ | refine below_drewN ?_ _)) (ht_.mono (by simp; try omega))
    replace HB := HB.trans (hv_.mono HB.size)
    clear hv_
    go_wp2_with fail
    refine (HE.out _ HB).mono ?_
    rintro e we ⟨rfl, hwe⟩
    go_wp2
    go_ret
    exact ⟨rfl, bel_step HB hwe⟩
  cases v1 : fvB na xs nb ys
  · rw [v1] at HV1
    clear HV2 HV3 ht1 ht2 ht3 v1
    clear ma mb mc md me mf
    generalize xs.length = ka at *
    generalize ys.length = la at *
    generalize us.length = kb at *
    generalize vs.length = lb at *
    generalize ps.length = kc at *
    generalize qs.length = lc at *
    go_enter Tryz.func9, Tryz.ntmps9
    go_wp2_with fail
    refine enterFFF (P := fun u => Calls _ _ _ u _) ?_
    intro u HB q0 q1 q2 q3 r0 r1 r2 r3 s0 s1 s2 s3 z1 z2 z3 hsz
    clear hsz
    have f_z1 := z1.fr
    have f_z2 := z2.fr
    have f_z3 := z3.fr
    have lt_q0 := cell_lt q0
    have lt_r0 := cell_lt r0
    have lt_s0 := cell_lt s0
    refine (HT1.out _ HB).mono ?_
    rintro e w1 ⟨rfl, ht_⟩
    have hv_ : Below u.heap.size u w1 := Below.trans (b := _) (by repeat (first | assumption | exact Below.refl _ _ | refine Below.alloc ?_ (by simp; try omega) _ | refine Below.drew ?_ | refine below_drewN ?_ _)) (ht_.mono (by simp; try omega))
    replace q0 := keep_cell hv_ q0
    replace q1 := keep_cell hv_ q1
    replace q2 := keep_cell hv_ q2
    replace q3 := keep_cell hv_ q3
    replace r0 := keep_cell hv_ r0
    replace r1 := keep_cell hv_ r1
    replace r2 := keep_cell hv_ r2
    replace r3 := keep_cell hv_ r3
    replace s0 := keep_cell hv_ s0
    replace s1 := keep_cell hv_ s1
    replace s2 := keep_cell hv_ s2
    replace s3 := keep_cell hv_ s3
    have lt_q0 := cell_lt q0
    have lt_q1 := cell_lt q1
    have lt_q2 := cell_lt q2
    have lt_q3 := cell_lt q3
    have lt_r0 := cell_lt r0
    have lt_r1 := cell_lt r1
    have lt_r2 := cell_lt r2
    have lt_r3 := cell_lt r3
    have lt_s0 := cell_lt s0
    have lt_s1 := cell_lt s1
    have lt_s2 := cell_lt s2
    have lt_s3 := cell_lt s3
    replace HB := HB.trans (hv_.mono HB.size)
    clear hv_
    go_wp2_with fail
    refine (HT2.out _ HB).mono ?_
    rintro e w2 ⟨rfl, ht_⟩
    have hv_ : Below w1.heap.size w1 w2 := Below.trans (b := _) (by repeat (first | assumption | exact Below.refl _ _ | refine Below.alloc ?_ (by simp; try omega) _ | refine Below.drew ?_ | refine below_drewN ?_ _)) (ht_.mono (by simp; try omega))
    replace q0 := keep_cell hv_ q0
    replace q1 := keep_cell hv_ q1
    replace q2 := keep_cell hv_ q2
    replace q3 := keep_cell hv_ q3
    replace s0 := keep_cell hv_ s0
    replace s1 := keep_cell hv_ s1
    replace s2 := keep_cell hv_ s2
    replace s3 := keep_cell hv_ s3
    have lt_q0 := cell_lt q0
    have lt_q1 := cell_lt q1
    have lt_q2 := cell_lt q2
    have lt_q3 := cell_lt q3
    have lt_s0 := cell_lt s0
    have lt_s1 := cell_lt s1
    have lt_s2 := cell_lt s2
    have lt_s3 := cell_lt s3
    replace HB := HB.trans (hv_.mono HB.size)
    clear hv_
    go_wp2_with fail
    refine (HT3.out _ HB).mono ?_
    rintro e w3 ⟨rfl, ht_⟩
    have hv_ : Below w2.heap.size w2 w3 := Below.trans (b := _) (by repeat (first | assumption | exact Below.refl _ _ | refine Below.alloc ?_ (by simp; try omega) _ | refine Below.drew ?_ | refine below_drewN ?_ _)) (ht_.mono (by simp; try omega))
    replace q0 := keep_cell hv_ q0
    replace q1 := keep_cell hv_ q1
    replace q2 := keep_cell hv_ q2
    replace q3 := keep_cell hv_ q3
    have lt_q0 := cell_lt q0
    have lt_q1 := cell_lt q1
    have lt_q2 := cell_lt q2
    have lt_q3 := cell_lt q3
    replace HB := HB.trans (hv_.mono HB.size)
    clear hv_
    go_wp2_with fail
    refine (HV1.out _ HB).mono ?_
    rintro e w4 ⟨rfl, ht_⟩
    have hv_ : Below w3.heap.size w3 w4 := Below.trans (b := _) (by repeat (first | assumption | exact Below.refl _ _ | refine Below.alloc ?_ (by simp; try omega) _ | refine Below.drew ?_ | refine below_drewN ?_ _)) (ht_.mono (by simp; try omega))
    replace HB := HB.trans (hv_.mono HB.size)
    clear hv_
    go_wp2_with fail
    refine (HE.out _ HB).mono ?_
    rintro e we ⟨rfl, hwe⟩
    go_wp2
    go_ret
    exact ⟨rfl, bel_step HB hwe⟩
  rw [v1] at HV1
  cases v2 : fvB nc us nd vs
  · rw [v2] at HV2
    clear HV3 ht1 ht2 ht3 v1 v2
    clear ma mb mc md me mf
    generalize xs.length = ka at *
    generalize ys.length = la at *
    generalize us.length = kb at *
    generalize vs.length = lb at *
    generalize ps.length = kc at *
    generalize qs.length = lc at *
    go_enter Tryz.func9, Tryz.ntmps9
    go_wp2_with fail
    refine enterFFF (P := fun u => Calls _ _ _ u _) ?_
    intro u HB q0 q1 q2 q3 r0 r1 r2 r3 s0 s1 s2 s3 z1 z2 z3 hsz
    clear hsz
    have f_z1 := z1.fr
    have f_z2 := z2.fr
    have f_z3 := z3.fr
    have lt_q0 := cell_lt q0
    have lt_r0 := cell_lt r0
    have lt_s0 := cell_lt s0
    refine (HT1.out _ HB).mono ?_
    rintro e w1 ⟨rfl, ht_⟩
    have hv_ : Below u.heap.size u w1 := Below.trans (b := _) (by repeat (first | assumption | exact Below.refl _ _ | refine Below.alloc ?_ (by simp; try omega) _ | refine Below.drew ?_ | refine below_drewN ?_ _)) (ht_.mono (by simp; try omega))
    replace q0 := keep_cell hv_ q0
    replace q1 := keep_cell hv_ q1
    replace q2 := keep_cell hv_ q2
    replace q3 := keep_cell hv_ q3
    replace r0 := keep_cell hv_ r0
    replace r1 := keep_cell hv_ r1
    replace r2 := keep_cell hv_ r2
    replace r3 := keep_cell hv_ r3
    replace s0 := keep_cell hv_ s0
    replace s1 := keep_cell hv_ s1
    replace s2 := keep_cell hv_ s2
    replace s3 := keep_cell hv_ s3
    have lt_q0 := cell_lt q0
    have lt_q1 := cell_lt q1
    have lt_q2 := cell_lt q2
    have lt_q3 := cell_lt q3
    have lt_r0 := cell_lt r0
    have lt_r1 := cell_lt r1
    have lt_r2 := cell_lt r2
    have lt_r3 := cell_lt r3
    have lt_s0 := cell_lt s0
    have lt_s1 := cell_lt s1
    have lt_s2 := cell_lt s2
    have lt_s3 := cell_lt s3
    replace HB := HB.trans (hv_.mono HB.size)
    clear hv_
    go_wp2_with fail
    refine (HT2.out _ HB).mono ?_
    rintro e w2 ⟨rfl, ht_⟩
    have hv_ : Below w1.heap.size w1 w2 := Below.trans (b := _) (by repeat (first | assumption | exact Below.refl _ _ | refine Below.alloc ?_ (by simp; try omega) _ | refine Below.drew ?_ | refine below_drewN ?_ _)) (ht_.mono (by simp; try omega))
    replace q0 := keep_cell hv_ q0
    replace q1 := keep_cell hv_ q1
    replace q2 := keep_cell hv_ q2
    replace q3 := keep_cell hv_ q3
    replace r0 := keep_cell hv_ r0
    replace r1 := keep_cell hv_ r1
    replace r2 := keep_cell hv_ r2
    replace r3 := keep_cell hv_ r3
    replace s0 := keep_cell hv_ s0
    replace s1 := keep_cell hv_ s1
    replace s2 := keep_cell hv_ s2
    replace s3 := keep_cell hv_ s3
    have lt_q0 := cell_lt q0
    have lt_q1 := cell_lt q1
    have lt_q2 := cell_lt q2
    have lt_q3 := cell_lt q3
    have lt_r0 := cell_lt r0
    have lt_r1 := cell_lt r1
    have lt_r2 := cell_lt r2
    have lt_r3 := cell_lt r3
    have lt_s0 := cell_lt s0
    have lt_s1 := cell_lt s1
    have lt_s2 := cell_lt s2
    have lt_s3 := cell_lt s3
    replace HB := HB.trans (hv_.mono HB.size)
    clear hv_
    go_wp2_with fail
    refine (HT3.out _ HB).mono ?_
    rintro e w3 ⟨rfl, ht_⟩
    have hv_ : Below w2.heap.size w2 w3 := Below.trans (b := _) (by repeat (first | assumption | exact Below.refl _ _ | refine Below.alloc ?_ (by simp; try omega) _ | refine Below.drew ?_ | refine below_drewN ?_ _)) (ht_.mono (by simp; try omega))
    replace q0 := keep_cell hv_ q0
    replace q1 := keep_cell hv_ q1
    replace q2 := keep_cell hv_ q2
    replace q3 := keep_cell hv_ q3
    replace r0 := keep_cell hv_ r0
    replace r1 := keep_cell hv_ r1
    replace r2 := keep_cell hv_ r2
    replace r3 := keep_cell hv_ r3
    have lt_q0 := cell_lt q0
    have lt_q1 := cell_lt q1
    have lt_q2 := cell_lt q2
    have lt_q3 := cell_lt q3
    have lt_r0 := cell_lt r0
    have lt_r1 := cell_lt r1
    have lt_r2 := cell_lt r2
    have lt_r3 := cell_lt r3
    replace HB := HB.trans (hv_.mono HB.size)
    clear hv_
    go_wp2_with fail
    refine (HV1.out _ HB).mono ?_
    rintro e w4 ⟨rfl, ht_⟩
    have hv_ : Below w3.heap.size w3 w4 := Below.trans (b := _) (by repeat (first | assumption | exact Below.refl _ _ | refine Below.alloc ?_ (by simp; try omega) _ | refine Below.drew ?_ | refine below_drewN ?_ _)) (ht_.mono (by simp; try omega))
    replace r0 := keep_cell hv_ r0
    replace r1 := keep_cell hv_ r1
    replace r2 := keep_cell hv_ r2
    replace r3 := keep_cell hv_ r3
    have lt_r0 := cell_lt r0
    have lt_r1 := cell_lt r1
    have lt_r2 := cell_lt r2
    have lt_r3 := cell_lt r3
    replace HB := HB.trans (hv_.mono HB.size)
    clear hv_
    go_wp2_with fail
    refine (HV2.out _ HB).mono ?_
    rintro e w5 ⟨rfl, ht_⟩
    have hv_ : Below w4.heap.size w4 w5 := Below.trans (b := _) (by repeat (first | assumption | exact Below.refl _ _ | refine Below.alloc ?_ (by simp; try omega) _ | refine Below.drew ?_ | refine below_drewN ?_ _)) (ht_.mono (by simp; try omega))
    replace HB := HB.trans (hv_.mono HB.size)
    clear hv_
    go_wp2_with fail
    refine (HE.out _ HB).mono ?_
    rintro e we ⟨rfl, hwe⟩
    go_wp2
    go_ret
    exact ⟨rfl, bel_step HB hwe⟩
  rw [v2] at HV2
  cases v3 : fvB ne ps nf qs
  · rw [v3] at HV3
    clear ht1 ht2 ht3 v1 v2 v3
    clear ma mb mc md me mf
    generalize xs.length = ka at *
    generalize ys.length = la at *
    generalize us.length = kb at *
    generalize vs.length = lb at *
    generalize ps.length = kc at *
    generalize qs.length = lc at *
    go_enter Tryz.func9, Tryz.ntmps9
    go_wp2_with fail
    refine enterFFF (P := fun u => Calls _ _ _ u _) ?_
    intro u HB q0 q1 q2 q3 r0 r1 r2 r3 s0 s1 s2 s3 z1 z2 z3 hsz
    clear hsz
    have f_z1 := z1.fr
    have f_z2 := z2.fr
    have f_z3 := z3.fr
    have lt_q0 := cell_lt q0
    have lt_r0 := cell_lt r0
    have lt_s0 := cell_lt s0
    refine (HT1.out _ HB).mono ?_
    rintro e w1 ⟨rfl, ht_⟩
    have hv_ : Below u.heap.size u w1 := Below.trans (b := _) (by repeat (first | assumption | exact Below.refl _ _ | refine Below.alloc ?_ (by simp; try omega) _ | refine Below.drew ?_ | refine below_drewN ?_ _)) (ht_.mono (by simp; try omega))
    replace q0 := keep_cell hv_ q0
    replace q1 := keep_cell hv_ q1
    replace q2 := keep_cell hv_ q2
    replace q3 := keep_cell hv_ q3
    replace r0 := keep_cell hv_ r0
    replace r1 := keep_cell hv_ r1
    replace r2 := keep_cell hv_ r2
    replace r3 := keep_cell hv_ r3
    replace s0 := keep_cell hv_ s0
    replace s1 := keep_cell hv_ s1
    replace s2 := keep_cell hv_ s2
    replace s3 := keep_cell hv_ s3
    have lt_q0 := cell_lt q0
    have lt_q1 := cell_lt q1
    have lt_q2 := cell_lt q2
    have lt_q3 := cell_lt q3
    have lt_r0 := cell_lt r0
    have lt_r1 := cell_lt r1
    have lt_r2 := cell_lt r2
    have lt_r3 := cell_lt r3
    have lt_s0 := cell_lt s0
    have lt_s1 := cell_lt s1
    have lt_s2 := cell_lt s2
    have lt_s3 := cell_lt s3
    replace HB := HB.trans (hv_.mono HB.size)
    clear hv_
    go_wp2_with fail
    refine (HT2.out _ HB).mono ?_
    rintro e w2 ⟨rfl, ht_⟩
    have hv_ : Below w1.heap.size w1 w2 := Below.trans (b := _) (by repeat (first | assumption | exact Below.refl _ _ | refine Below.alloc ?_ (by simp; try omega) _ | refine Below.drew ?_ | refine below_drewN ?_ _)) (ht_.mono (by simp; try omega))
    replace q0 := keep_cell hv_ q0
    replace q1 := keep_cell hv_ q1
    replace q2 := keep_cell hv_ q2
    replace q3 := keep_cell hv_ q3
    replace r0 := keep_cell hv_ r0
    replace r1 := keep_cell hv_ r1
    replace r2 := keep_cell hv_ r2
    replace r3 := keep_cell hv_ r3
    replace s0 := keep_cell hv_ s0
    replace s1 := keep_cell hv_ s1
    replace s2 := keep_cell hv_ s2
    replace s3 := keep_cell hv_ s3
    have lt_q0 := cell_lt q0
    have lt_q1 := cell_lt q1
    have lt_q2 := cell_lt q2
    have lt_q3 := cell_lt q3
    have lt_r0 := cell_lt r0
    have lt_r1 := cell_lt r1
    have lt_r2 := cell_lt r2
    have lt_r3 := cell_lt r3
    have lt_s0 := cell_lt s0
    have lt_s1 := cell_lt s1
    have lt_s2 := cell_lt s2
    have lt_s3 := cell_lt s3
    replace HB := HB.trans (hv_.mono HB.size)
    clear hv_
    go_wp2_with fail
    refine (HT3.out _ HB).mono ?_
    rintro e w3 ⟨rfl, ht_⟩
    have hv_ : Below w2.heap.size w2 w3 := Below.trans (b := _) (by repeat (first | assumption | exact Below.refl _ _ | refine Below.alloc ?_ (by simp; try omega) _ | refine Below.drew ?_ | refine below_drewN ?_ _)) (ht_.mono (by simp; try omega))
    replace q0 := keep_cell hv_ q0
    replace q1 := keep_cell hv_ q1
    replace q2 := keep_cell hv_ q2
    replace q3 := keep_cell hv_ q3
    replace r0 := keep_cell hv_ r0
    replace r1 := keep_cell hv_ r1
    replace r2 := keep_cell hv_ r2
    replace r3 := keep_cell hv_ r3
    replace s0 := keep_cell hv_ s0
    replace s1 := keep_cell hv_ s1
    replace s2 := keep_cell hv_ s2
    replace s3 := keep_cell hv_ s3
    have lt_q0 := cell_lt q0
    have lt_q1 := cell_lt q1
    have lt_q2 := cell_lt q2
    have lt_q3 := cell_lt q3
    have lt_r0 := cell_lt r0
    have lt_r1 := cell_lt r1
    have lt_r2 := cell_lt r2
    have lt_r3 := cell_lt r3
    have lt_s0 := cell_lt s0
    have lt_s1 := cell_lt s1
    have lt_s2 := cell_lt s2
    have lt_s3 := cell_lt s3
    replace HB := HB.trans (hv_.mono HB.size)
    clear hv_
    go_wp2_with fail
    refine (HV1.out _ HB).mono ?_
    rintro e w4 ⟨rfl, ht_⟩
    have hv_ : Below w3.heap.size w3 w4 := Below.trans (b := _) (by repeat (first | assumption | exact Below.refl _ _ | refine Below.alloc ?_ (by simp; try omega) _ | refine Below.drew ?_ | refine below_drewN ?_ _)) (ht_.mono (by simp; try omega))
    replace r0 := keep_cell hv_ r0
    replace r1 := keep_cell hv_ r1
    replace r2 := keep_cell hv_ r2
    replace r3 := keep_cell hv_ r3
    replace s0 := keep_cell hv_ s0
    replace s1 := keep_cell hv_ s1
    replace s2 := keep_cell hv_ s2
    replace s3 := keep_cell hv_ s3
    have lt_r0 := cell_lt r0
    have lt_r1 := cell_lt r1
    have lt_r2 := cell_lt r2
    have lt_r3 := cell_lt r3
    have lt_s0 := cell_lt s0
    have lt_s1 := cell_lt s1
    have lt_s2 := cell_lt s2
    have lt_s3 := cell_lt s3
    replace HB := HB.trans (hv_.mono HB.size)
    clear hv_
    go_wp2_with fail
    refine (HV2.out _ HB).mono ?_
    rintro e w5 ⟨rfl, ht_⟩
    have hv_ : Below w4.heap.size w4 w5 := Below.trans (b := _) (by repeat (first | assumption | exact Below.refl _ _ | refine Below.alloc ?_ (by simp; try omega) _ | refine Below.drew ?_ | refine below_drewN ?_ _)) (ht_.mono (by simp; try omega))
    replace s0 := keep_cell hv_ s0
    replace s1 := keep_cell hv_ s1
    replace s2 := keep_cell hv_ s2
    replace s3 := keep_cell hv_ s3
    have lt_s0 := cell_lt s0
    have lt_s1 := cell_lt s1
    have lt_s2 := cell_lt s2
    have lt_s3 := cell_lt s3
    replace HB := HB.trans (hv_.mono HB.size)
    clear hv_
    go_wp2_with fail
    refine (HV3.out _ HB).mono ?_
    rintro e w6 ⟨rfl, ht_⟩
    have hv_ : Below w5.heap.size w5 w6 := Below.trans (b := _) (by repeat (first | assumption | exact Below.refl _ _ | refine Below.alloc ?_ (by simp; try omega) _ | refine Below.drew ?_ | refine below_drewN ?_ _)) (ht_.mono (by simp; try omega))
    replace HB := HB.trans (hv_.mono HB.size)
    clear hv_
    go_wp2_with fail
    refine (HE.out _ HB).mono ?_
    rintro e we ⟨rfl, hwe⟩
    go_wp2
    go_ret
    exact ⟨rfl, bel_step HB hwe⟩
  rw [v3] at HV3
  obtain ⟨rfl, p1, p2, p3, p4, p5, p6⟩ := fvB_ok ma.ok mb.ok v1
  have IF : Hid (Fz (sg na (val xs), val ys) na xs.length xs ys.length ys) := ⟨p1, by rw [natAbs_sg]; exact p2, rfl, p3, rfl⟩
  obtain ⟨f, hf⟩ : ∃ f, (sg na (val xs), val ys) = f := ⟨_, rfl⟩
  rw [hf] at IF p4
  have NF := p4
  simp only [Bool.and_eq_true, decide_eq_true_eq] at ht1
  have sf : Sz 96 f := Sz.of_limbs (m := 3) (by rw [IF.out.n.len]; exact ht1.1) (by rw [IF.out.d.len]; exact ht1.2)
  clear hf v1 p1 p2 p3 p4 p5 p6
  obtain ⟨rfl, p1, p2, p3, p4, p5, p6⟩ := fvB_ok mc.ok md.ok v2
  have IG : Hid (Fz (sg nc (val us), val vs) nc us.length us vs.length vs) := ⟨p1, by rw [natAbs_sg]; exact p2, rfl, p3, rfl⟩
  obtain ⟨g, hg⟩ : ∃ f, (sg nc (val us), val vs) = f := ⟨_, rfl⟩
  rw [hg] at IG p4
  have NG := p4
  simp only [Bool.and_eq_true, decide_eq_true_eq] at ht2
  have sg_ : Sz 96 g := Sz.of_limbs (m := 3) (by rw [IG.out.n.len]; exact ht2.1) (by rw [IG.out.d.len]; exact ht2.2)
  clear hg v2 p1 p2 p3 p4 p5 p6
  obtain ⟨rfl, p1, p2, p3, p4, p5, p6⟩ := fvB_ok me.ok mf.ok v3
  have IH : Hid (Fz (sg ne (val ps), val qs) ne ps.length ps qs.length qs) := ⟨p1, by rw [natAbs_sg]; exact p2, rfl, p3, rfl⟩
  obtain ⟨h, hh⟩ : ∃ f, (sg ne (val ps), val qs) = f := ⟨_, rfl⟩
  rw [hh] at IH p4
  have NH := p4
  simp only [Bool.and_eq_true, decide_eq_true_eq] at ht3
  have sh : Sz 96 h := Sz.of_limbs (m := 3) (by rw [IH.out.n.len]; exact ht3.1) (by rw [IH.out.d.len]; exact ht3.2)
  clear hh v3 p1 p2 p3 p4 p5 p6
  have sab := fadd_sz sf sg_
  have sbc := fadd_sz sg_ sh
  have sp := fmul_sz sf sg_
  have spb := fmul_sz sg_ sh
  have spa := fmul_sz sf sh
  have vf := sf.vf (by omega) NF
  have vg := sg_.vf (by omega) NG
  have vh := sh.vf (by omega) NH
  have vab := sab.vf (by omega) (fadd_nf NF NG)
  have vbc := sbc.vf (by omega) (fadd_nf NG NH)
  have vp := sp.vf (by omega) (fmul_nf NF NG)
  have vpb := spb.vf (by omega) (fmul_nf NG NH)
  have vpa := spa.vf (by omega) (fmul_nf NF NH)
  obtain ⟨bab, kab, Xab, lab, Yab, Iab⟩ := fz (fadd f g)
  obtain ⟨bbc, kbc, Xbc, lbc, Ybc, Ibc⟩ := fz (fadd g h)
  obtain ⟨bl, kl, Xl, ll, Yl, Il⟩ := fz (fadd (fadd f g) h)
  obtain ⟨bp, kp, Xp, lp, Yp, Ip⟩ := fz (fmul f g)
  obtain ⟨bpb, kpb, Xpb, lpb, Ypb, Ipb⟩ := fz (fmul g h)
  obtain ⟨bpl, kpl, Xpl, lpl, Ypl, Ipl⟩ := fz (fmul (fmul f g) h)
  obtain ⟨bpa, kpa, Xpa, lpa, Ypa, Ipa⟩ := fz (fmul f h)
  obtain ⟨bov, kov, Xov, lov, Yov, Iov⟩ := fz (fmul f (fadd g h))
  obtain ⟨baa, kaa, Xaa, laa, Yaa, Iaa⟩ := fz f
  have HH3 := hid fun (w1 : World) (R Q R' Q' : Option Addr) (c d c' d' : Nat) (m1 : Mg w1 R c xs) (m2 : Mg w1 Q d ys) (m3 : Mg w1 R' c' us) (m4 : Mg w1 Q' d' vs) => FrAdd_f (w := w1) IF.out IG.out vf vg (addE_sz sf sg_ (by omega)) Iab.out m1 m2 m3 m4
  have HH4 := hid fun (w1 : World) (R Q R' Q' : Option Addr) (c d c' d' : Nat) (m1 : Mg w1 R c us) (m2 : Mg w1 Q d vs) (m3 : Mg w1 R' c' xs) (m4 : Mg w1 Q' d' ys) => FrAdd_f (w := w1) IG.out IF.out vg vf (by rw [addE_sz sg_ sf (by omega), fadd_comm]) Iab.out m1 m2 m3 m4
  have HH5 := hid fun (w1 : World) (R Q R' Q' : Option Addr) (c d c' d' : Nat) (m1 : Mg w1 R c us) (m2 : Mg w1 Q d vs) (m3 : Mg w1 R' c' ps) (m4 : Mg w1 Q' d' qs) => FrAdd_f (w := w1) IG.out IH.out vg vh (addE_sz sg_ sh (by omega)) Ibc.out m1 m2 m3 m4
  have HH6 := hid fun (w1 : World) (R Q R' Q' : Option Addr) (c d c' d' : Nat) (m1 : Mg w1 R c Xab) (m2 : Mg w1 Q d Yab) (m3 : Mg w1 R' c' ps) (m4 : Mg w1 Q' d' qs) => FrAdd_f (w := w1) Iab.out IH.out vab vh (addE_sz sab sh (by omega)) Il.out m1 m2 m3 m4
  have HH7 := hid fun (w1 : World) (R Q R' Q' : Option Addr) (c d c' d' : Nat) (m1 : Mg w1 R c xs) (m2 : Mg w1 Q d ys) (m3 : Mg w1 R' c' Xbc) (m4 : Mg w1 Q' d' Ybc) => FrAdd_f (w := w1) IF.out Ibc.out vf vbc (by rw [addE_sz sf sbc (by omega), fadd_assoc NF NG NH]) Il.out m1 m2 m3 m4
  have HH8 := hid fun (w1 : World) (R Q R' Q' : Option Addr) (c d c' d' : Nat) (m1 : Mg w1 R c xs) (m2 : Mg w1 Q d ys) (m3 : Mg w1 R' c' us) (m4 : Mg w1 Q' d' vs) => FrMul_f (w := w1) IF.out IG.out vf vg (mulE_sz sf sg_ (by omega)) Ip.out m1 m2 m3 m4
  have HH9 := hid fun (w1 : World) (R Q R' Q' : Option Addr) (c d c' d' : Nat) (m1 : Mg w1 R c us) (m2 : Mg w1 Q d vs) (m3 : Mg w1 R' c' xs) (m4 : Mg w1 Q' d' ys) => FrMul_f (w := w1) IG.out IF.out vg vf (by rw [mulE_sz sg_ sf (by omega), fmul_comm]) Ip.out m1 m2 m3 m4
  have HH10 := hid fun (w1 : World) (R Q R' Q' : Option Addr) (c d c' d' : Nat) (m1 : Mg w1 R c us) (m2 : Mg w1 Q d vs) (m3 : Mg w1 R' c' ps) (m4 : Mg w1 Q' d' qs) => FrMul_f (w := w1) IG.out IH.out vg vh (mulE_sz sg_ sh (by omega)) Ipb.out m1 m2 m3 m4
  have HH11 := hid fun (w1 : World) (R Q R' Q' : Option Addr) (c d c' d' : Nat) (m1 : Mg w1 R c Xp) (m2 : Mg w1 Q d Yp) (m3 : Mg w1 R' c' ps) (m4 : Mg w1 Q' d' qs) => FrMul_f (w := w1) Ip.out IH.out vp vh (mulE_sz sp sh (by omega)) Ipl.out m1 m2 m3 m4
  have HH12 := hid fun (w1 : World) (R Q R' Q' : Option Addr) (c d c' d' : Nat) (m1 : Mg w1 R c xs) (m2 : Mg w1 Q d ys) (m3 : Mg w1 R' c' Xpb) (m4 : Mg w1 Q' d' Ypb) => FrMul_f (w := w1) IF.out Ipb.out vf vpb (by rw [mulE_sz sf spb (by omega), fmul_assoc NF NG NH]) Ipl.out m1 m2 m3 m4
  have HH13 := hid fun (w1 : World) (R Q R' Q' : Option Addr) (c d c' d' : Nat) (m1 : Mg w1 R c xs) (m2 : Mg w1 Q d ys) (m3 : Mg w1 R' c' ps) (m4 : Mg w1 Q' d' qs) => FrMul_f (w := w1) IF.out IH.out vf vh (mulE_sz sf sh (by omega)) Ipa.out m1 m2 m3 m4
  have HH14 := hid fun (w1 : World) (R Q R' Q' : Option Addr) (c d c' d' : Nat) (m1 : Mg w1 R c xs) (m2 : Mg w1 Q d ys) (m3 : Mg w1 R' c' Xbc) (m4 : Mg w1 Q' d' Ybc) => FrMul_f (w := w1) IF.out Ibc.out vf vbc (mulE_sz sf sbc (by omega)) Iov.out m1 m2 m3 m4
  have HH15 := hid fun (w1 : World) (R Q R' Q' : Option Addr) (c d c' d' : Nat) (m1 : Mg w1 R c Xp) (m2 : Mg w1 Q d Yp) (m3 : Mg w1 R' c' Xpa) (m4 : Mg w1 Q' d' Ypa) => FrAdd_f (w := w1) Ip.out Ipa.out vp vpa (by rw [addE_sz sp spa (by omega), fmul_fadd NF NG NH]) Iov.out m1 m2 m3 m4
  have HH16 := hid fun (w1 : World) (R Q R' Q' : Option Addr) (c d c' d' : Nat) (m1 : Mg w1 R c Xab) (m2 : Mg w1 Q d Yab) (m3 : Mg w1 R' c' us) (m4 : Mg w1 Q' d' vs) => FrSub_f (w := w1) Iab.out IG.out vab vg (by rw [subE_sz sab sg_ (by omega), fsub_fadd NF NG]) Iaa.out m1 m2 m3 m4
  have HS1 := hid fun (w1 : World) (R Q R' Q' : Option Addr) (c d c' d' : Nat) (m1 : Mg w1 R c Xab) (m2 : Mg w1 Q d Yab) (m3 : Mg w1 R' c' Xab) (m4 : Mg w1 Q' d' Yab) => QSame_g (w := w1) Iab.out Iab.out m1 m2 m3 m4 true (by simp)
  have HS2 := hid fun (w1 : World) (R Q R' Q' : Option Addr) (c d c' d' : Nat) (m1 : Mg w1 R c Xl) (m2 : Mg w1 Q d Yl) (m3 : Mg w1 R' c' Xl) (m4 : Mg w1 Q' d' Yl) => QSame_g (w := w1) Il.out Il.out m1 m2 m3 m4 true (by simp)
  have HS3 := hid fun (w1 : World) (R Q R' Q' : Option Addr) (c d c' d' : Nat) (m1 : Mg w1 R c Xp) (m2 : Mg w1 Q d Yp) (m3 : Mg w1 R' c' Xp) (m4 : Mg w1 Q' d' Yp) => QSame_g (w := w1) Ip.out Ip.out m1 m2 m3 m4 true (by simp)
  have HS4 := hid fun (w1 : World) (R Q R' Q' : Option Addr) (c d c' d' : Nat) (m1 : Mg w1 R c Xpl) (m2 : Mg w1 Q d Ypl) (m3 : Mg w1 R' c' Xpl) (m4 : Mg w1 Q' d' Ypl) => QSame_g (w := w1) Ipl.out Ipl.out m1 m2 m3 m4 true (by simp)
  have HS5 := hid fun (w1 : World) (R Q R' Q' : Option Addr) (c d c' d' : Nat) (m1 : Mg w1 R c Xov) (m2 : Mg w1 Q d Yov) (m3 : Mg w1 R' c' Xov) (m4 : Mg w1 Q' d' Yov) => QSame_g (w := w1) Iov.out Iov.out m1 m2 m3 m4 true (by simp)
  have HS6 := hid fun (w1 : World) (R Q R' Q' : Option Addr) (c d c' d' : Nat) (m1 : Mg w1 R c Xaa) (m2 : Mg w1 Q d Yaa) (m3 : Mg w1 R' c' xs) (m4 : Mg w1 Q' d' ys) => QSame_g (w := w1) Iaa.out IF.out m1 m2 m3 m4 true (by simp)
  have MM := hid fun (w1 : World) (h : Below w.heap.size w w1) => And.intro (And.intro (ma.below h) (mb.below h)) (And.intro (And.intro (mc.below h) (md.below h)) (And.intro (me.below h) (mf.below h)))
  obtain ⟨⟨pq, eq⟩, hqq⟩ : ∃ q, divE (fmul f g) g = q := ⟨_, rfl⟩
  obtain ⟨bq, kq, Xq, lq, Yq, Iq⟩ := fz pq
  have HH19 := hid fun (w1 : World) (R Q R' Q' : Option Addr) (c d c' d' : Nat) (m1 : Mg w1 R c Xp) (m2 : Mg w1 Q d Yp) (m3 : Mg w1 R' c' us) (m4 : Mg w1 Q' d' vs) => FrDiv_f (w := w1) Ip.out IG.out vp vg hqq Iq.out m1 m2 m3 m4
  have HS7 := hid fun (he : pq = f) (w1 : World) (R Q R' Q' : Option Addr) (c d c' d' : Nat) (m1 : Mg w1 R c Xq) (m2 : Mg w1 Q d Yq) (m3 : Mg w1 R' c' xs) (m4 : Mg w1 Q' d' ys) => QSame_g (w := w1) Iq.out IF.out m1 m2 m3 m4 true (by simpa using he)
  have HZ : Hid ((us.length = 0 ∧ eq = 12) ∨ (((us.length : Int) == 0) = false ∧ eq = 0 ∧ pq = f)) := by
    by_cases h0 : g.1 = 0
    · left
      rw [divE_zero h0, Prod.mk.injEq] at hqq
      exact ⟨IG.out.num.zero.2 h0, hqq.2.symm⟩
    · right
      rw [divE_sz sp sg_ (by omega) h0, fdiv_fmul NF NG h0, Prod.mk.injEq] at hqq
      exact ⟨by rw [beq_eq_false_iff_ne]; have : us.length ≠ 0 := fun h => h0 (IG.out.num.zero.1 h); omega, hqq.2.symm, hqq.1.symm⟩
  clear ht1 ht2 ht3 IF IG IH NF NG NH sf sg_ sh sab sbc sp spb spa vf vg vh vab vbc vp vpb vpa hqq Iab Ibc Il Ip Ipb Ipl Ipa Iov Iaa Iq
  clear ma mb mc md me mf
  generalize xs.length = ka at *
  generalize ys.length = la at *
  generalize us.length = kb at *
  generalize vs.length = lb at *
  generalize ps.length = kc at *
  generalize qs.length = lc at *
  go_enter Tryz.func9, Tryz.ntmps9
  go_wp2_with fail
  refine enterFFF (P := fun u => Calls _ _ _ u _) ?_
  intro u HB q0 q1 q2 q3 r0 r1 r2 r3 s0 s1 s2 s3 z1 z2 z3 hsz
  clear hsz
  have f_z1 := z1.fr
  have f_z2 := z2.fr
  have f_z3 := z3.fr
  have lt_q0 := cell_lt q0
  have lt_r0 := cell_lt r0
  have lt_s0 := cell_lt s0
  refine (HT1.out _ HB).mono ?_
  rintro e w1 ⟨rfl, ht_⟩
  have hv_ : Below u.heap.size u w1 := Below.trans (b := _) (by repeat (first | assumption | exact Below.refl _ _ | refine Below.alloc ?_ (by simp; try omega) _ | refine Below.drew ?_ | refine below_drewN ?_ _)) (ht_.mono (by simp; try omega))
  replace q0 := keep_cell hv_ q0
  replace q1 := keep_cell hv_ q1
  replace q2 := keep_cell hv_ q2
  replace q3 := keep_cell hv_ q3
  replace r0 := keep_cell hv_ r0
  replace r1 := keep_cell hv_ r1
  replace r2 := keep_cell hv_ r2
  replace r3 := keep_cell hv_ r3
  replace s0 := keep_cell hv_ s0
  replace s1 := keep_cell hv_ s1
  replace s2 := keep_cell hv_ s2
  replace s3 := keep_cell hv_ s3
  have lt_q0 := cell_lt q0
  have lt_q1 := cell_lt q1
  have lt_q2 := cell_lt q2
  have lt_q3 := cell_lt q3
  have lt_r0 := cell_lt r0
  have lt_r1 := cell_lt r1
  have lt_r2 := cell_lt r2
  have lt_r3 := cell_lt r3
  have lt_s0 := cell_lt s0
  have lt_s1 := cell_lt s1
  have lt_s2 := cell_lt s2
  have lt_s3 := cell_lt s3
  replace HB := HB.trans (hv_.mono HB.size)
  clear hv_
  go_wp2_with fail
  refine (HT2.out _ HB).mono ?_
  rintro e w2 ⟨rfl, ht_⟩
  have hv_ : Below w1.heap.size w1 w2 := Below.trans (b := _) (by repeat (first | assumption | exact Below.refl _ _ | refine Below.alloc ?_ (by simp; try omega) _ | refine Below.drew ?_ | refine below_drewN ?_ _)) (ht_.mono (by simp; try omega))
  replace q0 := keep_cell hv_ q0
  replace q1 := keep_cell hv_ q1
  replace q2 := keep_cell hv_ q2
  replace q3 := keep_cell hv_ q3
  replace r0 := keep_cell hv_ r0
  replace r1 := keep_cell hv_ r1
  replace r2 := keep_cell hv_ r2
  replace r3 := keep_cell hv_ r3
  replace s0 := keep_cell hv_ s0
  replace s1 := keep_cell hv_ s1
  replace s2 := keep_cell hv_ s2
  replace s3 := keep_cell hv_ s3
  have lt_q0 := cell_lt q0
  have lt_q1 := cell_lt q1
  have lt_q2 := cell_lt q2
  have lt_q3 := cell_lt q3
  have lt_r0 := cell_lt r0
  have lt_r1 := cell_lt r1
  have lt_r2 := cell_lt r2
  have lt_r3 := cell_lt r3
  have lt_s0 := cell_lt s0
  have lt_s1 := cell_lt s1
  have lt_s2 := cell_lt s2
  have lt_s3 := cell_lt s3
  replace HB := HB.trans (hv_.mono HB.size)
  clear hv_
  go_wp2_with fail
  refine (HT3.out _ HB).mono ?_
  rintro e w3 ⟨rfl, ht_⟩
  have hv_ : Below w2.heap.size w2 w3 := Below.trans (b := _) (by repeat (first | assumption | exact Below.refl _ _ | refine Below.alloc ?_ (by simp; try omega) _ | refine Below.drew ?_ | refine below_drewN ?_ _)) (ht_.mono (by simp; try omega))
  replace q0 := keep_cell hv_ q0
  replace q1 := keep_cell hv_ q1
  replace q2 := keep_cell hv_ q2
  replace q3 := keep_cell hv_ q3
  replace r0 := keep_cell hv_ r0
  replace r1 := keep_cell hv_ r1
  replace r2 := keep_cell hv_ r2
  replace r3 := keep_cell hv_ r3
  replace s0 := keep_cell hv_ s0
  replace s1 := keep_cell hv_ s1
  replace s2 := keep_cell hv_ s2
  replace s3 := keep_cell hv_ s3
  have lt_q0 := cell_lt q0
  have lt_q1 := cell_lt q1
  have lt_q2 := cell_lt q2
  have lt_q3 := cell_lt q3
  have lt_r0 := cell_lt r0
  have lt_r1 := cell_lt r1
  have lt_r2 := cell_lt r2
  have lt_r3 := cell_lt r3
  have lt_s0 := cell_lt s0
  have lt_s1 := cell_lt s1
  have lt_s2 := cell_lt s2
  have lt_s3 := cell_lt s3
  replace HB := HB.trans (hv_.mono HB.size)
  clear hv_
  go_wp2_with fail
  refine (HV1.out _ HB).mono ?_
  rintro e w4 ⟨rfl, ht_⟩
  have hv_ : Below w3.heap.size w3 w4 := Below.trans (b := _) (by repeat (first | assumption | exact Below.refl _ _ | refine Below.alloc ?_ (by simp; try omega) _ | refine Below.drew ?_ | refine below_drewN ?_ _)) (ht_.mono (by simp; try omega))
  replace q0 := keep_cell hv_ q0
  replace q1 := keep_cell hv_ q1
  replace q2 := keep_cell hv_ q2
  replace q3 := keep_cell hv_ q3
  replace r0 := keep_cell hv_ r0
  replace r1 := keep_cell hv_ r1
  replace r2 := keep_cell hv_ r2
  replace r3 := keep_cell hv_ r3
  replace s0 := keep_cell hv_ s0
  replace s1 := keep_cell hv_ s1
  replace s2 := keep_cell hv_ s2
  replace s3 := keep_cell hv_ s3
  have lt_q0 := cell_lt q0
  have lt_q1 := cell_lt q1
  have lt_q2 := cell_lt q2
  have lt_q3 := cell_lt q3
  have lt_r0 := cell_lt r0
  have lt_r1 := cell_lt r1
  have lt_r2 := cell_lt r2
  have lt_r3 := cell_lt r3
  have lt_s0 := cell_lt s0
  have lt_s1 := cell_lt s1
  have lt_s2 := cell_lt s2
  have lt_s3 := cell_lt s3
  replace HB := HB.trans (hv_.mono HB.size)
  clear hv_
  go_wp2_with fail
  refine (HV2.out _ HB).mono ?_
  rintro e w5 ⟨rfl, ht_⟩
  have hv_ : Below w4.heap.size w4 w5 := Below.trans (b := _) (by repeat (first | assumption | exact Below.refl _ _ | refine Below.alloc ?_ (by simp; try omega) _ | refine Below.drew ?_ | refine below_drewN ?_ _)) (ht_.mono (by simp; try omega))
  replace q0 := keep_cell hv_ q0
  replace q1 := keep_cell hv_ q1
  replace q2 := keep_cell hv_ q2
  replace q3 := keep_cell hv_ q3
  replace r0 := keep_cell hv_ r0
  replace r1 := keep_cell hv_ r1
  replace r2 := keep_cell hv_ r2
  replace r3 := keep_cell hv_ r3
  replace s0 := keep_cell hv_ s0
  replace s1 := keep_cell hv_ s1
  replace s2 := keep_cell hv_ s2
  replace s3 := keep_cell hv_ s3
  have lt_q0 := cell_lt q0
  have lt_q1 := cell_lt q1
  have lt_q2 := cell_lt q2
  have lt_q3 := cell_lt q3
  have lt_r0 := cell_lt r0
  have lt_r1 := cell_lt r1
  have lt_r2 := cell_lt r2
  have lt_r3 := cell_lt r3
  have lt_s0 := cell_lt s0
  have lt_s1 := cell_lt s1
  have lt_s2 := cell_lt s2
  have lt_s3 := cell_lt s3
  replace HB := HB.trans (hv_.mono HB.size)
  clear hv_
  go_wp2_with fail
  refine (HV3.out _ HB).mono ?_
  rintro e w6 ⟨rfl, ht_⟩
  have hv_ : Below w5.heap.size w5 w6 := Below.trans (b := _) (by repeat (first | assumption | exact Below.refl _ _ | refine Below.alloc ?_ (by simp; try omega) _ | refine Below.drew ?_ | refine below_drewN ?_ _)) (ht_.mono (by simp; try omega))
  replace q0 := keep_cell hv_ q0
  replace q1 := keep_cell hv_ q1
  replace q2 := keep_cell hv_ q2
  replace q3 := keep_cell hv_ q3
  replace r0 := keep_cell hv_ r0
  replace r1 := keep_cell hv_ r1
  replace r2 := keep_cell hv_ r2
  replace r3 := keep_cell hv_ r3
  replace s0 := keep_cell hv_ s0
  replace s1 := keep_cell hv_ s1
  replace s2 := keep_cell hv_ s2
  replace s3 := keep_cell hv_ s3
  have lt_q0 := cell_lt q0
  have lt_q1 := cell_lt q1
  have lt_q2 := cell_lt q2
  have lt_q3 := cell_lt q3
  have lt_r0 := cell_lt r0
  have lt_r1 := cell_lt r1
  have lt_r2 := cell_lt r2
  have lt_r3 := cell_lt r3
  have lt_s0 := cell_lt s0
  have lt_s1 := cell_lt s1
  have lt_s2 := cell_lt s2
  have lt_s3 := cell_lt s3
  replace HB := HB.trans (hv_.mono HB.size)
  clear hv_
  obtain ⟨⟨n1_, n2_⟩, ⟨n3_, n4_⟩, ⟨n5_, n6_⟩⟩ := MM.out _ HB
  have fa : Fb w6 w.heap.size na A ka ca xs B la cb ys := ⟨q0, q1, q2, q3, n1_, n2_⟩
  have fb : Fb w6 (w.heap.size + 1) nc C kb cc us D lb cd vs := ⟨r0, r1, r2, r3, n3_, n4_⟩
  have fc : Fb w6 (w.heap.size + 1 + 1) ne E kc ce ps F lc cf qs := ⟨s0, s1, s2, s3, n5_, n6_⟩
  clear q0 q1 q2 q3 r0 r1 r2 r3 s0 s1 s2 s3 n1_ n2_ n3_ n4_ n5_ n6_ HT1 HT2 HT3 HV1 HV2 HV3 MM lt_q0 lt_q1 lt_q2 lt_q3 lt_r0 lt_r1 lt_r2 lt_r3 lt_s0 lt_s1 lt_s2 lt_s3
  have e0 := fa.c0
  have e1 := fa.c1
  have e2 := fa.c2
  have e3 := fa.c3
  have f0 := fb.c0
  have f1 := fb.c1
  have f2 := fb.c2
  have f3 := fb.c3
  have lt_e0 := cell_lt e0
  have lt_f0 := cell_lt f0
  go_wp2_with fail
  refine (HH3.out _ _ _ _ _ _ _ _ _ fa.m fa.n fb.m fb.n).mono ?_
  rintro e v3 ⟨R3_, c3_, Q3_, d3_, rfl, m_, n_, h_⟩
  clear e0 e1 e2 e3 f0 f1 f2 f3 lt_e0 lt_f0
  have hv_ : Below w6.heap.size w6 v3 := Below.trans (b := _) (by repeat (first | assumption | exact Below.refl _ _ | refine Below.alloc ?_ (by simp; try omega) _ | refine Below.drew ?_ | refine below_drewN ?_ _)) (h_.mono (by simp; try omega))
  replace fa := fa.below hv_
  replace fb := fb.below hv_
  replace fc := fc.below hv_
  replace HB := HB.trans (hv_.mono HB.size)
  clear hv_
  go_upto_region 4 with fail
  have o3 : Fb (v3.alloc (.cells #[.bool bab, .slice R3_ kab c3_, .bool false, .slice Q3_ lab d3_] 26)) v3.heap.size bab R3_ kab c3_ Xab Q3_ lab d3_ Yab := ⟨at_allocF0 rfl, at_allocF1 rfl, at_allocF2 rfl, at_allocF3 rfl, m_.alloc, n_.alloc⟩
  have hv_ : Below v3.heap.size v3 (v3.alloc (.cells #[.bool bab, .slice R3_ kab c3_, .bool false, .slice Q3_ lab d3_] 26)) := (Below.refl _ _).alloc (Nat.le_refl _) _
  generalize v3.alloc (.cells #[.bool bab, .slice R3_ kab c3_, .bool false, .slice Q3_ lab d3_] 26) = u3 at *
  replace fa := fa.below hv_
  replace fb := fb.below hv_
  replace fc := fc.below hv_
  replace HB := HB.trans (hv_.mono HB.size)
  clear hv_ m_ n_
  have e0 := fb.c0
  have e1 := fb.c1
  have e2 := fb.c2
  have e3 := fb.c3
  have f0 := fa.c0
  have f1 := fa.c1
  have f2 := fa.c2
  have f3 := fa.c3
  have lt_e0 := cell_lt e0
  have lt_f0 := cell_lt f0
  go_wp2_with fail
  refine (HH4.out _ _ _ _ _ _ _ _ _ fb.m fb.n fa.m fa.n).mono ?_
  rintro e v4 ⟨R4_, c4_, Q4_, d4_, rfl, m_, n_, h_⟩
  clear e0 e1 e2 e3 f0 f1 f2 f3 lt_e0 lt_f0
  have hv_ : Below u3.heap.size u3 v4 := Below.trans (b := _) (by repeat (first | assumption | exact Below.refl _ _ | refine Below.alloc ?_ (by simp; try omega) _ | refine Below.drew ?_ | refine below_drewN ?_ _)) (h_.mono (by simp; try omega))
  replace fa := fa.below hv_
  replace fb := fb.below hv_
  replace fc := fc.below hv_
  replace o3 := o3.below hv_
  replace HB := HB.trans (hv_.mono HB.size)
  clear hv_
  go_upto_region 5 with fail
  have o4 : Fb (v4.alloc (.cells #[.bool bab, .slice R4_ kab c4_, .bool false, .slice Q4_ lab d4_] 26)) v4.heap.size bab R4_ kab c4_ Xab Q4_ lab d4_ Yab := ⟨at_allocF0 rfl, at_allocF1 rfl, at_allocF2 rfl, at_allocF3 rfl, m_.alloc, n_.alloc⟩
  have hv_ : Below v4.heap.size v4 (v4.alloc (.cells #[.bool bab, .slice R4_ kab c4_, .bool false, .slice Q4_ lab d4_] 26)) := (Below.refl _ _).alloc (Nat.le_refl _) _
  generalize v4.alloc (.cells #[.bool bab, .slice R4_ kab c4_, .bool false, .slice Q4_ lab d4_] 26) = u4 at *
  replace fa := fa.below hv_
  replace fb := fb.below hv_
  replace fc := fc.below hv_
  replace o3 := o3.below hv_
  replace HB := HB.trans (hv_.mono HB.size)
  clear hv_ m_ n_
  have e0 := fb.c0
  have e1 := fb.c1
  have e2 := fb.c2
  have e3 := fb.c3
  have f0 := fc.c0
  have f1 := fc.c1
  have f2 := fc.c2
  have f3 := fc.c3
  have lt_e0 := cell_lt e0
  have lt_f0 := cell_lt f0
  go_wp2_with fail
  refine (HH5.out _ _ _ _ _ _ _ _ _ fb.m fb.n fc.m fc.n).mono ?_
  rintro e v5 ⟨R5_, c5_, Q5_, d5_, rfl, m_, n_, h_⟩
  clear e0 e1 e2 e3 f0 f1 f2 f3 lt_e0 lt_f0
  have hv_ : Below u4.heap.size u4 v5 := Below.trans (b := _) (by repeat (first | assumption | exact Below.refl _ _ | refine Below.alloc ?_ (by simp; try omega) _ | refine Below.drew ?_ | refine below_drewN ?_ _)) (h_.mono (by simp; try omega))
  replace fa := fa.below hv_
  replace fb := fb.below hv_
  replace fc := fc.below hv_
  replace o3 := o3.below hv_
  replace o4 := o4.below hv_
  replace HB := HB.trans (hv_.mono HB.size)
  clear hv_
  go_upto_region 6 with fail
  have o5 : Fb (v5.alloc (.cells #[.bool bbc, .slice R5_ kbc c5_, .bool false, .slice Q5_ lbc d5_] 26)) v5.heap.size bbc R5_ kbc c5_ Xbc Q5_ lbc d5_ Ybc := ⟨at_allocF0 rfl, at_allocF1 rfl, at_allocF2 rfl, at_allocF3 rfl, m_.alloc, n_.alloc⟩
  have hv_ : Below v5.heap.size v5 (v5.alloc (.cells #[.bool bbc, .slice R5_ kbc c5_, .bool false, .slice Q5_ lbc d5_] 26)) := (Below.refl _ _).alloc (Nat.le_refl _) _
  generalize v5.alloc (.cells #[.bool bbc, .slice R5_ kbc c5_, .bool false, .slice Q5_ lbc d5_] 26) = u5 at *
  replace fa := fa.below hv_
  replace fb := fb.below hv_
  replace fc := fc.below hv_
  replace o3 := o3.below hv_
  replace o4 := o4.below hv_
  replace HB := HB.trans (hv_.mono HB.size)
  clear hv_ m_ n_
  have e0 := o3.c0
  have e1 := o3.c1
  have e2 := o3.c2
  have e3 := o3.c3
  have f0 := fc.c0
  have f1 := fc.c1
  have f2 := fc.c2
  have f3 := fc.c3
  have lt_e0 := cell_lt e0
  have lt_f0 := cell_lt f0
  go_wp2_with fail
  refine (HH6.out _ _ _ _ _ _ _ _ _ o3.m o3.n fc.m fc.n).mono ?_
  rintro e v6 ⟨R6_, c6_, Q6_, d6_, rfl, m_, n_, h_⟩
  clear e0 e1 e2 e3 f0 f1 f2 f3 lt_e0 lt_f0
  have hv_ : Below u5.heap.size u5 v6 := Below.trans (b := _) (by repeat (first | assumption | exact Below.refl _ _ | refine Below.alloc ?_ (by simp; try omega) _ | refine Below.drew ?_ | refine below_drewN ?_ _)) (h_.mono (by simp; try omega))
  replace fa := fa.below hv_
  replace fb := fb.below hv_
  replace fc := fc.below hv_
  replace o3 := o3.below hv_
  replace o4 := o4.below hv_
  replace o5 := o5.below hv_
  replace HB := HB.trans (hv_.mono HB.size)
  clear hv_
  go_upto_region 7 with fail
  have o6 : Fb (v6.alloc (.cells #[.bool bl, .slice R6_ kl c6_, .bool false, .slice Q6_ ll d6_] 26)) v6.heap.size bl R6_ kl c6_ Xl Q6_ ll d6_ Yl := ⟨at_allocF0 rfl, at_allocF1 rfl, at_allocF2 rfl, at_allocF3 rfl, m_.alloc, n_.alloc⟩
  have hv_ : Below v6.heap.size v6 (v6.alloc (.cells #[.bool bl, .slice R6_ kl c6_, .bool false, .slice Q6_ ll d6_] 26)) := (Below.refl _ _).alloc (Nat.le_refl _) _
  generalize v6.alloc (.cells #[.bool bl, .slice R6_ kl c6_, .bool false, .slice Q6_ ll d6_] 26) = u6 at *
  replace fa := fa.below hv_
  replace fb := fb.below hv_
  replace fc := fc.below hv_
  replace o3 := o3.below hv_
  replace o4 := o4.below hv_
  replace o5 := o5.below hv_
  replace HB := HB.trans (hv_.mono HB.size)
  clear hv_ m_ n_
  have e0 := fa.c0
  have e1 := fa.c1
  have e2 := fa.c2
  have e3 := fa.c3
  have f0 := o5.c0
  have f1 := o5.c1
  have f2 := o5.c2
  have f3 := o5.c3
  have lt_e0 := cell_lt e0
  have lt_f0 := cell_lt f0
  go_wp2_with fail
  refine (HH7.out _ _ _ _ _ _ _ _ _ fa.m fa.n o5.m o5.n).mono ?_
  rintro e v7 ⟨R7_, c7_, Q7_, d7_, rfl, m_, n_, h_⟩
  clear e0 e1 e2 e3 f0 f1 f2 f3 lt_e0 lt_f0
  have hv_ : Below u6.heap.size u6 v7 := Below.trans (b := _) (by repeat (first | assumption | exact Below.refl _ _ | refine Below.alloc ?_ (by simp; try omega) _ | refine Below.drew ?_ | refine below_drewN ?_ _)) (h_.mono (by simp; try omega))
  replace fa := fa.below hv_
  replace fb := fb.below hv_
  replace fc := fc.below hv_
  replace o3 := o3.below hv_
  replace o4 := o4.below hv_
  replace o5 := o5.below hv_
  replace o6 := o6.below hv_
  replace HB := HB.trans (hv_.mono HB.size)
  clear hv_
  go_upto_region 8 with fail
  have o7 : Fb (v7.alloc (.cells #[.bool bl, .slice R7_ kl c7_, .bool false, .slice Q7_ ll d7_] 26)) v7.heap.size bl R7_ kl c7_ Xl Q7_ ll d7_ Yl := ⟨at_allocF0 rfl, at_allocF1 rfl, at_allocF2 rfl, at_allocF3 rfl, m_.alloc, n_.alloc⟩
  have hv_ : Below v7.heap.size v7 (v7.alloc (.cells #[.bool bl, .slice R7_ kl c7_, .bool false, .slice Q7_ ll d7_] 26)) := (Below.refl _ _).alloc (Nat.le_refl _) _
  generalize v7.alloc (.cells #[.bool bl, .slice R7_ kl c7_, .bool false, .slice Q7_ ll d7_] 26) = u7 at *
  replace fa := fa.below hv_
  replace fb := fb.below hv_
  replace fc := fc.below hv_
  replace o3 := o3.below hv_
  replace o4 := o4.below hv_
  replace o5 := o5.below hv_
  replace o6 := o6.below hv_
  replace HB := HB.trans (hv_.mono HB.size)
  clear hv_ m_ n_
  have e0 := fa.c0
  have e1 := fa.c1
  have e2 := fa.c2
  have e3 := fa.c3
  have f0 := fb.c0
  have f1 := fb.c1
  have f2 := fb.c2
  have f3 := fb.c3
  have lt_e0 := cell_lt e0
  have lt_f0 := cell_lt f0
  go_wp2_with fail
  refine (HH8.out _ _ _ _ _ _ _ _ _ fa.m fa.n fb.m fb.n).mono ?_
  rintro e v8 ⟨R8_, c8_, Q8_, d8_, rfl, m_, n_, h_⟩
  clear e0 e1 e2 e3 f0 f1 f2 f3 lt_e0 lt_f0
  have hv_ : Below u7.heap.size u7 v8 := Below.trans (b := _) (by repeat (first | assumption | exact Below.refl _ _ | refine Below.alloc ?_ (by simp; try omega) _ | refine Below.drew ?_ | refine below_drewN ?_ _)) (h_.mono (by simp; try omega))
  replace fa := fa.below hv_
  replace fb := fb.below hv_
  replace fc := fc.below hv_
  replace o3 := o3.below hv_
  replace o4 := o4.below hv_
  replace o5 := o5.below hv_
  replace o6 := o6.below hv_
  replace o7 := o7.below hv_
  replace HB := HB.trans (hv_.mono HB.size)
  clear hv_
  go_upto_region 9 with fail
  have o8 : Fb (v8.alloc (.cells #[.bool bp, .slice R8_ kp c8_, .bool false, .slice Q8_ lp d8_] 26)) v8.heap.size bp R8_ kp c8_ Xp Q8_ lp d8_ Yp := ⟨at_allocF0 rfl, at_allocF1 rfl, at_allocF2 rfl, at_allocF3 rfl, m_.alloc, n_.alloc⟩
  have hv_ : Below v8.heap.size v8 (v8.alloc (.cells #[.bool bp, .slice R8_ kp c8_, .bool false, .slice Q8_ lp d8_] 26)) := (Below.refl _ _).alloc (Nat.le_refl _) _
  generalize v8.alloc (.cells #[.bool bp, .slice R8_ kp c8_, .bool false, .slice Q8_ lp d8_] 26) = u8 at *
  replace fa := fa.below hv_
  replace fb := fb.below hv_
  replace fc := fc.below hv_
  replace o3 := o3.below hv_
  replace o4 := o4.below hv_
  replace o5 := o5.below hv_
  replace o6 := o6.below hv_
  replace o7 := o7.below hv_
  replace HB := HB.trans (hv_.mono HB.size)
  clear hv_ m_ n_
  have e0 := fb.c0
  have e1 := fb.c1
  have e2 := fb.c2
  have e3 := fb.c3
  have f0 := fa.c0
  have f1 := fa.c1
  have f2 := fa.c2
  have f3 := fa.c3
  have lt_e0 := cell_lt e0
  have lt_f0 := cell_lt f0
  go_wp2_with fail
  refine (HH9.out _ _ _ _ _ _ _ _ _ fb.m fb.n fa.m fa.n).mono ?_
  rintro e v9 ⟨R9_, c9_, Q9_, d9_, rfl, m_, n_, h_⟩
  clear e0 e1 e2 e3 f0 f1 f2 f3 lt_e0 lt_f0
  have hv_ : Below u8.heap.size u8 v9 := Below.trans (b := _) (by repeat (first | assumption | exact Below.refl _ _ | refine Below.alloc ?_ (by simp; try omega) _ | refine Below.drew ?_ | refine below_drewN ?_ _)) (h_.mono (by simp; try omega))
  replace fa := fa.below hv_
  replace fb := fb.below hv_
  replace fc := fc.below hv_
  replace o3 := o3.below hv_
  replace o4 := o4.below hv_
  replace o5 := o5.below hv_
  replace o6 := o6.below hv_
  replace o7 := o7.below hv_
  replace o8 := o8.below hv_
  replace HB := HB.trans (hv_.mono HB.size)
  clear hv_
  go_upto_region 10 with fail
  have o9 : Fb (v9.alloc (.cells #[.bool bp, .slice R9_ kp c9_, .bool false, .slice Q9_ lp d9_] 26)) v9.heap.size bp R9_ kp c9_ Xp Q9_ lp d9_ Yp := ⟨at_allocF0 rfl, at_allocF1 rfl, at_allocF2 rfl, at_allocF3 rfl, m_.alloc, n_.alloc⟩
  have hv_ : Below v9.heap.size v9 (v9.alloc (.cells #[.bool bp, .slice R9_ kp c9_, .bool false, .slice Q9_ lp d9_] 26)) := (Below.refl _ _).alloc (Nat.le_refl _) _
  generalize v9.alloc (.cells #[.bool bp, .slice R9_ kp c9_, .bool false, .slice Q9_ lp d9_] 26) = u9 at *
  replace fa := fa.below hv_
  replace fb := fb.below hv_
  replace fc := fc.below hv_
  replace o3 := o3.below hv_
  replace o4 := o4.below hv_
  replace o5 := o5.below hv_
  replace o6 := o6.below hv_
  replace o7 := o7.below hv_
  replace o8 := o8.below hv_
  replace HB := HB.trans (hv_.mono HB.size)
  clear hv_ m_ n_
  have e0 := fb.c0
  have e1 := fb.c1
  have e2 := fb.c2
  have e3 := fb.c3
  have f0 := fc.c0
  have f1 := fc.c1
  have f2 := fc.c2
  have f3 := fc.c3
  have lt_e0 := cell_lt e0
  have lt_f0 := cell_lt f0
  go_wp2_with fail
  refine (HH10.out _ _ _ _ _ _ _ _ _ fb.m fb.n fc.m fc.n).mono ?_
  rintro e v10 ⟨R10_, c10_, Q10_, d10_, rfl, m_, n_, h_⟩
  clear e0 e1 e2 e3 f0 f1 f2 f3 lt_e0 lt_f0
  have hv_ : Below u9.heap.size u9 v10 := Below.trans (b := _) (by repeat (first | assumption | exact Below.refl _ _ | refine Below.alloc ?_ (by simp; try omega) _ | refine Below.drew ?_ | refine below_drewN ?_ _)) (h_.mono (by simp; try omega))
  replace fa := fa.below hv_
  replace fb := fb.below hv_
  replace fc := fc.below hv_
  replace o3 := o3.below hv_
  replace o4 := o4.below hv_
  replace o5 := o5.below hv_
  replace o6 := o6.below hv_
  replace o7 := o7.below hv_
  replace o8 := o8.below hv_
  replace o9 := o9.below hv_
  replace HB := HB.trans (hv_.mono HB.size)
  clear hv_
  go_upto_region 11 with fail
  have o10 : Fb (v10.alloc (.cells #[.bool bpb, .slice R10_ kpb c10_, .bool false, .slice Q10_ lpb d10_] 26)) v10.heap.size bpb R10_ kpb c10_ Xpb Q10_ lpb d10_ Ypb := ⟨at_allocF0 rfl, at_allocF1 rfl, at_allocF2 rfl, at_allocF3 rfl, m_.alloc, n_.alloc⟩
  have hv_ : Below v10.heap.size v10 (v10.alloc (.cells #[.bool bpb, .slice R10_ kpb c10_, .bool false, .slice Q10_ lpb d10_] 26)) := (Below.refl _ _).alloc (Nat.le_refl _) _
  generalize v10.alloc (.cells #[.bool bpb, .slice R10_ kpb c10_, .bool false, .slice Q10_ lpb d10_] 26) = u10 at *
  replace fa := fa.below hv_
  replace fb := fb.below hv_
  replace fc := fc.below hv_
  replace o3 := o3.below hv_
  replace o4 := o4.below hv_
  replace o5 := o5.below hv_
  replace o6 := o6.below hv_
  replace o7 := o7.below hv_
  replace o8 := o8.below hv_
  replace o9 := o9.below hv_
  replace HB := HB.trans (hv_.mono HB.size)
  clear hv_ m_ n_
  have e0 := o8.c0
  have e1 := o8.c1
  have e2 := o8.c2
  have e3 := o8.c3
  have f0 := fc.c0
  have f1 := fc.c1
  have f2 := fc.c2
  have f3 := fc.c3
  have lt_e0 := cell_lt e0
  have lt_f0 := cell_lt f0
  go_wp2_with fail
  refine (HH11.out _ _ _ _ _ _ _ _ _ o8.m o8.n fc.m fc.n).mono ?_
  rintro e v11 ⟨R11_, c11_, Q11_, d11_, rfl, m_, n_, h_⟩
  clear e0 e1 e2 e3 f0 f1 f2 f3 lt_e0 lt_f0
  have hv_ : Below u10.heap.size u10 v11 := Below.trans (b := _) (by repeat (first | assumption | exact Below.refl _ _ | refine Below.alloc ?_ (by simp; try omega) _ | refine Below.drew ?_ | refine below_drewN ?_ _)) (h_.mono (by simp; try omega))
  replace fa := fa.below hv_
  replace fb := fb.below hv_
  replace fc := fc.below hv_
  replace o3 := o3.below hv_
  replace o4 := o4.below hv_
  replace o5 := o5.below hv_
  replace o6 := o6.below hv_
  replace o7 := o7.below hv_
  replace o8 := o8.below hv_
  replace o9 := o9.below hv_
  replace o10 := o10.below hv_
  replace HB := HB.trans (hv_.mono HB.size)
  clear hv_
  go_upto_region 12 with fail
  have o11 : Fb (v11.alloc (.cells #[.bool bpl, .slice R11_ kpl c11_, .bool false, .slice Q11_ lpl d11_] 26)) v11.heap.size bpl R11_ kpl c11_ Xpl Q11_ lpl d11_ Ypl := ⟨at_allocF0 rfl, at_allocF1 rfl, at_allocF2 rfl, at_allocF3 rfl, m_.alloc, n_.alloc⟩
  have hv_ : Below v11.heap.size v11 (v11.alloc (.cells #[.bool bpl, .slice R11_ kpl c11_, .bool false, .slice Q11_ lpl d11_] 26)) := (Below.refl _ _).alloc (Nat.le_refl _) _
  generalize v11.alloc (.cells #[.bool bpl, .slice R11_ kpl c11_, .bool false, .slice Q11_ lpl d11_] 26) = u11 at *
  replace fa := fa.below hv_
  replace fb := fb.below hv_
  replace fc := fc.below hv_
  replace o3 := o3.below hv_
  replace o4 := o4.below hv_
  replace o5 := o5.below hv_
  replace o6 := o6.below hv_
  replace o7 := o7.below hv_
  replace o8 := o8.below hv_
  replace o9 := o9.below hv_
  replace o10 := o10.below hv_
  replace HB := HB.trans (hv_.mono HB.size)
  clear hv_ m_ n_
  have e0 := fa.c0
  have e1 := fa.c1
  have e2 := fa.c2
  have e3 := fa.c3
  have f0 := o10.c0
  have f1 := o10.c1
  have f2 := o10.c2
  have f3 := o10.c3
  have lt_e0 := cell_lt e0
  have lt_f0 := cell_lt f0
  go_wp2_with fail
  refine (HH12.out _ _ _ _ _ _ _ _ _ fa.m fa.n o10.m o10.n).mono ?_
  rintro e v12 ⟨R12_, c12_, Q12_, d12_, rfl, m_, n_, h_⟩
  clear e0 e1 e2 e3 f0 f1 f2 f3 lt_e0 lt_f0
  have hv_ : Below u11.heap.size u11 v12 := Below.trans (b := _) (by repeat (first | assumption | exact Below.refl _ _ | refine Below.alloc ?_ (by simp; try omega) _ | refine Below.drew ?_ | refine below_drewN ?_ _)) (h_.mono (by simp; try omega))
  replace fa := fa.below hv_
  replace fb := fb.below hv_
  replace fc := fc.below hv_
  replace o3 := o3.below hv_
  replace o4 := o4.below hv_
  replace o5 := o5.below hv_
  replace o6 := o6.below hv_
  replace o7 := o7.below hv_
  replace o8 := o8.below hv_
  replace o9 := o9.below hv_
  replace o11 := o11.below hv_
  replace HB := HB.trans (hv_.mono HB.size)
  clear hv_
  go_upto_region 13 with fail
  have o12 : Fb (v12.alloc (.cells #[.bool bpl, .slice R12_ kpl c12_, .bool false, .slice Q12_ lpl d12_] 26)) v12.heap.size bpl R12_ kpl c12_ Xpl Q12_ lpl d12_ Ypl := ⟨at_allocF0 rfl, at_allocF1 rfl, at_allocF2 rfl, at_allocF3 rfl, m_.alloc, n_.alloc⟩
  have hv_ : Below v12.heap.size v12 (v12.alloc (.cells #[.bool bpl, .slice R12_ kpl c12_, .bool false, .slice Q12_ lpl d12_] 26)) := (Below.refl _ _).alloc (Nat.le_refl _) _
  generalize v12.alloc (.cells #[.bool bpl, .slice R12_ kpl c12_, .bool false, .slice Q12_ lpl d12_] 26) = u12 at *
  replace fa := fa.below hv_
  replace fb := fb.below hv_
  replace fc := fc.below hv_
  replace o3 := o3.below hv_
  replace o4 := o4.below hv_
  replace o5 := o5.below hv_
  replace o6 := o6.below hv_
  replace o7 := o7.below hv_
  replace o8 := o8.below hv_
  replace o9 := o9.below hv_
  replace o11 := o11.below hv_
  replace HB := HB.trans (hv_.mono HB.size)
  clear hv_ m_ n_
  have e0 := fa.c0
  have e1 := fa.c1
  have e2 := fa.c2
  have e3 := fa.c3
  have f0 := fc.c0
  have f1 := fc.c1
  have f2 := fc.c2
  have f3 := fc.c3
  have lt_e0 := cell_lt e0
  have lt_f0 := cell_lt f0
  go_wp2_with fail
  refine (HH13.out _ _ _ _ _ _ _ _ _ fa.m fa.n fc.m fc.n).mono ?_
  rintro e v13 ⟨R13_, c13_, Q13_, d13_, rfl, m_, n_, h_⟩
  clear e0 e1 e2 e3 f0 f1 f2 f3 lt_e0 lt_f0
  have hv_ : Below u12.heap.size u12 v13 := Below.trans (b := _) (by repeat (first | assumption | exact Below.refl _ _ | refine Below.alloc ?_ (by simp; try omega) _ | refine Below.drew ?_ | refine below_drewN ?_ _)) (h_.mono (by simp; try omega))
  replace fa := fa.below hv_
  replace fb := fb.below hv_
  replace o3 := o3.below hv_
  replace o4 := o4.below hv_
  replace o5 := o5.below hv_
  replace o6 := o6.below hv_
  replace o7 := o7.below hv_
  replace o8 := o8.below hv_
  replace o9 := o9.below hv_
  replace o11 := o11.below hv_
  replace o12 := o12.below hv_
  replace HB := HB.trans (hv_.mono HB.size)
  clear hv_
  go_upto_region 14 with fail
  have o13 : Fb (v13.alloc (.cells #[.bool bpa, .slice R13_ kpa c13_, .bool false, .slice Q13_ lpa d13_] 26)) v13.heap.size bpa R13_ kpa c13_ Xpa Q13_ lpa d13_ Ypa := ⟨at_allocF0 rfl, at_allocF1 rfl, at_allocF2 rfl, at_allocF3 rfl, m_.alloc, n_.alloc⟩
  have hv_ : Below v13.heap.size v13 (v13.alloc (.cells #[.bool bpa, .slice R13_ kpa c13_, .bool false, .slice Q13_ lpa d13_] 26)) := (Below.refl _ _).alloc (Nat.le_refl _) _
  generalize v13.alloc (.cells #[.bool bpa, .slice R13_ kpa c13_, .bool false, .slice Q13_ lpa d13_] 26) = u13 at *
  replace fa := fa.below hv_
  replace fb := fb.below hv_
  replace o3 := o3.below hv_
  replace o4 := o4.below hv_
  replace o5 := o5.below hv_
  replace o6 := o6.below hv_
  replace o7 := o7.below hv_
  replace o8 := o8.below hv_
  replace o9 := o9.below hv_
  replace o11 := o11.below hv_
  replace o12 := o12.below hv_
  replace HB := HB.trans (hv_.mono HB.size)
  clear hv_ m_ n_
  have e0 := fa.c0
  have e1 := fa.c1
  have e2 := fa.c2
  have e3 := fa.c3
  have f0 := o5.c0
  have f1 := o5.c1
  have f2 := o5.c2
  have f3 := o5.c3
  have lt_e0 := cell_lt e0
  have lt_f0 := cell_lt f0
  go_wp2_with fail
  refine (HH14.out _ _ _ _ _ _ _ _ _ fa.m fa.n o5.m o5.n).mono ?_
  rintro e v14 ⟨R14_, c14_, Q14_, d14_, rfl, m_, n_, h_⟩
  clear e0 e1 e2 e3 f0 f1 f2 f3 lt_e0 lt_f0
  have hv_ : Below u13.heap.size u13 v14 := Below.trans (b := _) (by repeat (first | assumption | exact Below.refl _ _ | refine Below.alloc ?_ (by simp; try omega) _ | refine Below.drew ?_ | refine below_drewN ?_ _)) (h_.mono (by simp; try omega))
  replace fa := fa.below hv_
  replace fb := fb.below hv_
  replace o3 := o3.below hv_
  replace o4 := o4.below hv_
  replace o6 := o6.below hv_
  replace o7 := o7.below hv_
  replace o8 := o8.below hv_
  replace o9 := o9.below hv_
  replace o11 := o11.below hv_
  replace o12 := o12.below hv_
  replace o13 := o13.below hv_
  replace HB := HB.trans (hv_.mono HB.size)
  clear hv_
  go_upto_region 15 with fail
  have o14 : Fb (v14.alloc (.cells #[.bool bov, .slice R14_ kov c14_, .bool false, .slice Q14_ lov d14_] 26)) v14.heap.size bov R14_ kov c14_ Xov Q14_ lov d14_ Yov := ⟨at_allocF0 rfl, at_allocF1 rfl, at_allocF2 rfl, at_allocF3 rfl, m_.alloc, n_.alloc⟩
  have hv_ : Below v14.heap.size v14 (v14.alloc (.cells #[.bool bov, .slice R14_ kov c14_, .bool false, .slice Q14_ lov d14_] 26)) := (Below.refl _ _).alloc (Nat.le_refl _) _
  generalize v14.alloc (.cells #[.bool bov, .slice R14_ kov c14_, .bool false, .slice Q14_ lov d14_] 26) = u14 at *
  replace fa := fa.below hv_
  replace fb := fb.below hv_
  replace o3 := o3.below hv_
  replace o4 := o4.below hv_
  replace o6 := o6.below hv_
  replace o7 := o7.below hv_
  replace o8 := o8.below hv_
  replace o9 := o9.below hv_
  replace o11 := o11.below hv_
  replace o12 := o12.below hv_
  replace o13 := o13.below hv_
  replace HB := HB.trans (hv_.mono HB.size)
  clear hv_ m_ n_
  have e0 := o8.c0
  have e1 := o8.c1
  have e2 := o8.c2
  have e3 := o8.c3
  have f0 := o13.c0
  have f1 := o13.c1
  have f2 := o13.c2
  have f3 := o13.c3
  have lt_e0 := cell_lt e0
  have lt_f0 := cell_lt f0
  go_wp2_with fail
  refine (HH15.out _ _ _ _ _ _ _ _ _ o8.m o8.n o13.m o13.n).mono ?_
  rintro e v15 ⟨R15_, c15_, Q15_, d15_, rfl, m_, n_, h_⟩
  clear e0 e1 e2 e3 f0 f1 f2 f3 lt_e0 lt_f0
  have hv_ : Below u14.heap.size u14 v15 := Below.trans (b := _) (by repeat (first | assumption | exact Below.refl _ _ | refine Below.alloc ?_ (by simp; try omega) _ | refine Below.drew ?_ | refine below_drewN ?_ _)) (h_.mono (by simp; try omega))
  replace fa := fa.below hv_
  replace fb := fb.below hv_
  replace o3 := o3.below hv_
  replace o4 := o4.below hv_
  replace o6 := o6.below hv_
  replace o7 := o7.below hv_
  replace o8 := o8.below hv_
  replace o9 := o9.below hv_
  replace o11 := o11.below hv_
  replace o12 := o12.below hv_
  replace o14 := o14.below hv_
  replace HB := HB.trans (hv_.mono HB.size)
  clear hv_
  go_upto_region 16 with fail
  have o15 : Fb (v15.alloc (.cells #[.bool bov, .slice R15_ kov c15_, .bool false, .slice Q15_ lov d15_] 26)) v15.heap.size bov R15_ kov c15_ Xov Q15_ lov d15_ Yov := ⟨at_allocF0 rfl, at_allocF1 rfl, at_allocF2 rfl, at_allocF3 rfl, m_.alloc, n_.alloc⟩
  have hv_ : Below v15.heap.size v15 (v15.alloc (.cells #[.bool bov, .slice R15_ kov c15_, .bool false, .slice Q15_ lov d15_] 26)) := (Below.refl _ _).alloc (Nat.le_refl _) _
  generalize v15.alloc (.cells #[.bool bov, .slice R15_ kov c15_, .bool false, .slice Q15_ lov d15_] 26) = u15 at *
  replace fa := fa.below hv_
  replace fb := fb.below hv_
  replace o3 := o3.below hv_
  replace o4 := o4.below hv_
  replace o6 := o6.below hv_
  replace o7 := o7.below hv_
  replace o8 := o8.below hv_
  replace o9 := o9.below hv_
  replace o11 := o11.below hv_
  replace o12 := o12.below hv_
  replace o14 := o14.below hv_
  replace HB := HB.trans (hv_.mono HB.size)
  clear hv_ m_ n_
  have e0 := o3.c0
  have e1 := o3.c1
  have e2 := o3.c2
  have e3 := o3.c3
  have f0 := fb.c0
  have f1 := fb.c1
  have f2 := fb.c2
  have f3 := fb.c3
  have lt_e0 := cell_lt e0
  have lt_f0 := cell_lt f0
  go_wp2_with fail
  refine (HH16.out _ _ _ _ _ _ _ _ _ o3.m o3.n fb.m fb.n).mono ?_
  rintro e v16 ⟨R16_, c16_, Q16_, d16_, rfl, m_, n_, h_⟩
  clear e0 e1 e2 e3 f0 f1 f2 f3 lt_e0 lt_f0
  have hv_ : Below u15.heap.size u15 v16 := Below.trans (b := _) (by repeat (first | assumption | exact Below.refl _ _ | refine Below.alloc ?_ (by simp; try omega) _ | refine Below.drew ?_ | refine below_drewN ?_ _)) (h_.mono (by simp; try omega))
  replace fa := fa.below hv_
  replace fb := fb.below hv_
  replace o3 := o3.below hv_
  replace o4 := o4.below hv_
  replace o6 := o6.below hv_
  replace o7 := o7.below hv_
  replace o8 := o8.below hv_
  replace o9 := o9.below hv_
  replace o11 := o11.below hv_
  replace o12 := o12.below hv_
  replace o14 := o14.below hv_
  replace o15 := o15.below hv_
  replace HB := HB.trans (hv_.mono HB.size)
  clear hv_
  go_upto_region 17 with fail
  have o16 : Fb (v16.alloc (.cells #[.bool baa, .slice R16_ kaa c16_, .bool false, .slice Q16_ laa d16_] 26)) v16.heap.size baa R16_ kaa c16_ Xaa Q16_ laa d16_ Yaa := ⟨at_allocF0 rfl, at_allocF1 rfl, at_allocF2 rfl, at_allocF3 rfl, m_.alloc, n_.alloc⟩
  have hv_ : Below v16.heap.size v16 (v16.alloc (.cells #[.bool baa, .slice R16_ kaa c16_, .bool false, .slice Q16_ laa d16_] 26)) := (Below.refl _ _).alloc (Nat.le_refl _) _
  generalize v16.alloc (.cells #[.bool baa, .slice R16_ kaa c16_, .bool false, .slice Q16_ laa d16_] 26) = u16 at *
  replace fa := fa.below hv_
  replace fb := fb.below hv_
  replace o3 := o3.below hv_
  replace o4 := o4.below hv_
  replace o6 := o6.below hv_
  replace o7 := o7.below hv_
  replace o8 := o8.below hv_
  replace o9 := o9.below hv_
  replace o11 := o11.below hv_
  replace o12 := o12.below hv_
  replace o14 := o14.below hv_
  replace o15 := o15.below hv_
  replace HB := HB.trans (hv_.mono HB.size)
  clear hv_ m_ n_
  clear HH3 HH4 HH5 HH6 HH7 HH8 HH9 HH10 HH11 HH12 HH13 HH14 HH15 HH16
  have e0 := o3.c0
  have e1 := o3.c1
  have e2 := o3.c2
  have e3 := o3.c3
  have f0 := o4.c0
  have f1 := o4.c1
  have f2 := o4.c2
  have f3 := o4.c3
  have lt_e0 := cell_lt e0
  have lt_f0 := cell_lt f0
  go_wp2_with fail
  refine (HS1.out _ _ _ _ _ _ _ _ _ o3.m o3.n o4.m o4.n).mono ?_
  rintro e x1 ⟨rfl, h_⟩
  clear e0 e1 e2 e3 f0 f1 f2 f3 lt_e0 lt_f0
  have hv_ : Below u16.heap.size u16 x1 := Below.trans (b := _) (by repeat (first | assumption | exact Below.refl _ _ | refine Below.alloc ?_ (by simp; try omega) _ | refine Below.drew ?_ | refine below_drewN ?_ _)) (h_.mono (by simp; try omega))
  replace fa := fa.below hv_
  replace fb := fb.below hv_
  replace o6 := o6.below hv_
  replace o7 := o7.below hv_
  replace o8 := o8.below hv_
  replace o9 := o9.below hv_
  replace o11 := o11.below hv_
  replace o12 := o12.below hv_
  replace o14 := o14.below hv_
  replace o15 := o15.below hv_
  replace o16 := o16.below hv_
  replace HB := HB.trans (hv_.mono HB.size)
  clear hv_
  have e0 := o6.c0
  have e1 := o6.c1
  have e2 := o6.c2
  have e3 := o6.c3
  have f0 := o7.c0
  have f1 := o7.c1
  have f2 := o7.c2
  have f3 := o7.c3
  have lt_e0 := cell_lt e0
  have lt_f0 := cell_lt f0
  go_wp2_with fail
  refine (HS2.out _ _ _ _ _ _ _ _ _ o6.m o6.n o7.m o7.n).mono ?_
  rintro e x2 ⟨rfl, h_⟩
  clear e0 e1 e2 e3 f0 f1 f2 f3 lt_e0 lt_f0
  have hv_ : Below x1.heap.size x1 x2 := Below.trans (b := _) (by repeat (first | assumption | exact Below.refl _ _ | refine Below.alloc ?_ (by simp; try omega) _ | refine Below.drew ?_ | refine below_drewN ?_ _)) (h_.mono (by simp; try omega))
  replace fa := fa.below hv_
  replace fb := fb.below hv_
  replace o8 := o8.below hv_
  replace o9 := o9.below hv_
  replace o11 := o11.below hv_
  replace o12 := o12.below hv_
  replace o14 := o14.below hv_
  replace o15 := o15.below hv_
  replace o16 := o16.below hv_
  replace HB := HB.trans (hv_.mono HB.size)
  clear hv_
  have e0 := o8.c0
  have e1 := o8.c1
  have e2 := o8.c2
  have e3 := o8.c3
  have f0 := o9.c0
  have f1 := o9.c1
  have f2 := o9.c2
  have f3 := o9.c3
  have lt_e0 := cell_lt e0
  have lt_f0 := cell_lt f0
  go_wp2_with fail
  refine (HS3.out _ _ _ _ _ _ _ _ _ o8.m o8.n o9.m o9.n).mono ?_
  rintro e x3 ⟨rfl, h_⟩
  clear e0 e1 e2 e3 f0 f1 f2 f3 lt_e0 lt_f0
  have hv_ : Below x2.heap.size x2 x3 := Below.trans (b := _) (by repeat (first | assumption | exact Below.refl _ _ | refine Below.alloc ?_ (by simp; try omega) _ | refine Below.drew ?_ | refine below_drewN ?_ _)) (h_.mono (by simp; try omega))
  replace fa := fa.below hv_
  replace fb := fb.below hv_
  replace o8 := o8.below hv_
  replace o11 := o11.below hv_
  replace o12 := o12.below hv_
  replace o14 := o14.below hv_
  replace o15 := o15.below hv_
  replace o16 := o16.below hv_
  replace HB := HB.trans (hv_.mono HB.size)
  clear hv_
  have e0 := o11.c0
  have e1 := o11.c1
  have e2 := o11.c2
  have e3 := o11.c3
  have f0 := o12.c0
  have f1 := o12.c1
  have f2 := o12.c2
  have f3 := o12.c3
  have lt_e0 := cell_lt e0
  have lt_f0 := cell_lt f0
  go_wp2_with fail
  refine (HS4.out _ _ _ _ _ _ _ _ _ o11.m o11.n o12.m o12.n).mono ?_
  rintro e x4 ⟨rfl, h_⟩
  clear e0 e1 e2 e3 f0 f1 f2 f3 lt_e0 lt_f0
  have hv_ : Below x3.heap.size x3 x4 := Below.trans (b := _) (by repeat (first | assumption | exact Below.refl _ _ | refine Below.alloc ?_ (by simp; try omega) _ | refine Below.drew ?_ | refine below_drewN ?_ _)) (h_.mono (by simp; try omega))
  replace fa := fa.below hv_
  replace fb := fb.below hv_
  replace o8 := o8.below hv_
  replace o14 := o14.below hv_
  replace o15 := o15.below hv_
  replace o16 := o16.below hv_
  replace HB := HB.trans (hv_.mono HB.size)
  clear hv_
  have e0 := o14.c0
  have e1 := o14.c1
  have e2 := o14.c2
  have e3 := o14.c3
  have f0 := o15.c0
  have f1 := o15.c1
  have f2 := o15.c2
  have f3 := o15.c3
  have lt_e0 := cell_lt e0
  have lt_f0 := cell_lt f0
  go_wp2_with fail
  refine (HS5.out _ _ _ _ _ _ _ _ _ o14.m o14.n o15.m o15.n).mono ?_
  rintro e x5 ⟨rfl, h_⟩
  clear e0 e1 e2 e3 f0 f1 f2 f3 lt_e0 lt_f0
  have hv_ : Below x4.heap.size x4 x5 := Below.trans (b := _) (by repeat (first | assumption | exact Below.refl _ _ | refine Below.alloc ?_ (by simp; try omega) _ | refine Below.drew ?_ | refine below_drewN ?_ _)) (h_.mono (by simp; try omega))
  replace fa := fa.below hv_
  replace fb := fb.below hv_
  replace o8 := o8.below hv_
  replace o16 := o16.below hv_
  replace HB := HB.trans (hv_.mono HB.size)
  clear hv_
  have e0 := o16.c0
  have e1 := o16.c1
  have e2 := o16.c2
  have e3 := o16.c3
  have f0 := fa.c0
  have f1 := fa.c1
  have f2 := fa.c2
  have f3 := fa.c3
  have lt_e0 := cell_lt e0
  have lt_f0 := cell_lt f0
  go_wp2_with fail
  refine (HS6.out _ _ _ _ _ _ _ _ _ o16.m o16.n fa.m fa.n).mono ?_
  rintro e x6 ⟨rfl, h_⟩
  clear e0 e1 e2 e3 f0 f1 f2 f3 lt_e0 lt_f0
  have hv_ : Below x5.heap.size x5 x6 := Below.trans (b := _) (by repeat (first | assumption | exact Below.refl _ _ | refine Below.alloc ?_ (by simp; try omega) _ | refine Below.drew ?_ | refine below_drewN ?_ _)) (h_.mono (by simp; try omega))
  replace fa := fa.below hv_
  replace fb := fb.below hv_
  replace o8 := o8.below hv_
  replace HB := HB.trans (hv_.mono HB.size)
  clear hv_
  have e0 := o8.c0
  have e1 := o8.c1
  have e2 := o8.c2
  have e3 := o8.c3
  have f0 := fb.c0
  have f1 := fb.c1
  have f2 := fb.c2
  have f3 := fb.c3
  have lt_e0 := cell_lt e0
  have lt_f0 := cell_lt f0
  go_wp2_with fail
  refine (HH19.out _ _ _ _ _ _ _ _ _ o8.m o8.n fb.m fb.n).mono ?_
  rintro e x7 ⟨R19_, c19_, Q19_, d19_, rfl, m_, n_, h_⟩
  clear e0 e1 e2 e3 f0 f1 f2 f3 lt_e0 lt_f0
  have hv_ : Below x6.heap.size x6 x7 := Below.trans (b := _) (by repeat (first | assumption | exact Below.refl _ _ | refine Below.alloc ?_ (by simp; try omega) _ | refine Below.drew ?_ | refine below_drewN ?_ _)) (h_.mono (by simp; try omega))
  replace fa := fa.below hv_
  replace fb := fb.below hv_
  replace HB := HB.trans (hv_.mono HB.size)
  clear hv_
  go_upto_region 20 with fail
  have o19 : Fb (x7.alloc (.cells #[.bool bq, .slice R19_ kq c19_, .bool false, .slice Q19_ lq d19_] 26)) x7.heap.size bq R19_ kq c19_ Xq Q19_ lq d19_ Yq := ⟨at_allocF0 rfl, at_allocF1 rfl, at_allocF2 rfl, at_allocF3 rfl, m_.alloc, n_.alloc⟩
  have hv_ : Below x7.heap.size x7 (x7.alloc (.cells #[.bool bq, .slice R19_ kq c19_, .bool false, .slice Q19_ lq d19_] 26)) := (Below.refl _ _).alloc (Nat.le_refl _) _
  generalize x7.alloc (.cells #[.bool bq, .slice R19_ kq c19_, .bool false, .slice Q19_ lq d19_] 26) = u17 at *
  replace fa := fa.below hv_
  replace fb := fb.below hv_
  replace HB := HB.trans (hv_.mono HB.size)
  clear hv_ m_ n_
  have f0 := fb.c0
  have f1 := fb.c1
  have f2 := fb.c2
  have f3 := fb.c3
  have lt_f0 := cell_lt f0
  rcases HZ.out with ⟨hk, he⟩ | ⟨hk, he, hp⟩
  · subst hk
    subst he
    clear HZ
    go_wp2_with fail
    refine (HE.out _ HB).mono ?_
    rintro e we ⟨rfl, hwe⟩
    go_wp2
    go_ret
    exact ⟨rfl, bel_step HB hwe⟩
  · subst he
    clear HZ
    have HS8 := hid (HS7.out hp)
    clear HS7 hp
    have q0 := fa.c0
    have q1 := fa.c1
    have q2 := fa.c2
    have q3 := fa.c3
    have e0 := o19.c0
    have e1 := o19.c1
    have e2 := o19.c2
    have e3 := o19.c3
    have lt_q0 := cell_lt q0
    have lt_e0 := cell_lt e0
    go_wp2_with fail
    refine (HS8.out _ _ _ _ _ _ _ _ _ o19.m o19.n fa.m fa.n).mono ?_
    rintro e x8 ⟨rfl, h_⟩
    have hv_ : Below u17.heap.size u17 x8 := Below.trans (b := _) (by repeat (first | assumption | exact Below.refl _ _ | refine Below.alloc ?_ (by simp; try omega) _ | refine Below.drew ?_ | refine below_drewN ?_ _)) (h_.mono (by simp; try omega))
    replace HB := HB.trans (hv_.mono HB.size)
    clear hv_
    go_wp2_with fail
    refine (HE.out _ HB).mono ?_
    rintro e we ⟨rfl, hwe⟩
    go_wp2
    go_ret
    exact ⟨rfl, bel_step HB hwe⟩
end Go.Proofs.YtfhbigfbeppinaaGreatDoor
