/- The law FractionOrder: its walk. Conditions: none. -/
import Derived.Test.YtfhbigfbeppinaaGreatDoorZYS
import Derived.Test.YtfhbigfbeppinaaGreatDoorZNtT
set_option linter.unusedVariables false
set_option linter.unusedSimpArgs false
namespace Go.Proofs.YtfhbigfbeppinaaGreatDoor
open Go.RowKit Big

set_option maxRecDepth 100000 in
set_option maxHeartbeats 16000000 in
theorem FractionOrder_law {na nb nc nd ne nf : Bool} {xs ys us vs ps qs : List Nat} {A B C D E F : Option Addr} {ca cb cc cd ce cf : Nat} {w : World} (ma : Mg w A ca xs) (mb : Mg w B cb ys) (mc : Mg w C cc us) (md : Mg w D cd vs) (me : Mg w E ce ps) (mf : Mg w F cf qs) (htab : PowTab w) (hlen : LenAt w) :
    Calls Tryz.prog 10 #[.agg #[.bool na, .slice A xs.length ca, .bool nb, .slice B ys.length cb], .agg #[.bool nc, .slice C us.length cc, .bool nd, .slice D vs.length cd], .agg #[.bool ne, .slice E ps.length ce, .bool nf, .slice F qs.length cf]] w (RetB w true) := by
  have HE := hid fun (w1 : World) (h : Below w.heap.size w w1) => Lex_ok w1 (htab.below h) (hlen.below h)
  obtain ⟨t1, ht1⟩ : ∃ t, (decide (xs.length ≤ 3) && decide (ys.length ≤ 3)) = t := ⟨_, rfl⟩
  obtain ⟨t2, ht2⟩ : ∃ t, (decide (us.length ≤ 3) && decide (vs.length ≤ 3)) = t := ⟨_, rfl⟩
  obtain ⟨t3, ht3⟩ : ∃ t, (decide (ps.length ≤ 3) && decide (qs.length ≤ 3)) = t := ⟨_, rfl⟩
  have HT1 := hid fun (w1 : World) (h : Below w.heap.size w w1) => Ltiny_g (na := na) (nb := nb) (A := A) (B := B) (ca := ca) (cb := cb) (w := w1) t1 ht1
  have HT2 := hid fun (w1 : World) (h : Below w.heap.size w w1) => Ltiny_g (na := nc) (nb := nd) (A := C) (B := D) (ca := cc) (cb := cd) (w := w1) t2 ht2
  have HT3 := hid fun (w1 : World) (h : Below w.heap.size w w1) => Ltiny_g (na := ne) (nb := nf) (A := E) (B := F) (ca := ce) (cb := cf) (w := w1) t3 ht3
  have HV1 := hid fun (w1 : World) (h : Below w.heap.size w w1) => FrValid_any (na := na) (nb := nb) (w := w1) (ma.below h) (mb.below h)
  have HV2 := hid fun (w1 : World) (h : Below w.heap.size w w1) => FrValid_any (na := nc) (nb := nd) (w := w1) (mc.below h) (md.below h)
  have HV3 := hid fun (w1 : World) (h : Below w.heap.size w w1) => FrValid_any (na := ne) (nb := nf) (w := w1) (me.below h) (mf.below h)
  cases t1
  · clear HT2 HT3 HV1 HV2 HV3 ht1 ht2 ht3
    clear ma mb mc md me mf
    generalize xs.length = ka at *
    generalize ys.length = la at *
    generalize us.length = kb at *
    generalize vs.length = lb at *
    generalize ps.length = kc at *
    generalize qs.length = lc at *
    go_enter Tryz.func10, Tryz.ntmps10
    go_wp2_with fail
    refine enterFFF (P := fun u => Calls _ _ _ u _) ?_
    intro u HB q0 q1 q2 q3 r0 r1 r2 r3 s0 s1 s2 s3 z1 z2 z3 hsz
    clear hsz
    have f_z1 := z1.fr
    have f_z2 := z2.fr
    have f_z3 := z3.fr
    have lt_q0 := cell_lt q0
    have lt_r0 := cell_lt r0
    have lt_s0 := cell_lt s0
    refine (HT1.out _ HB).mono ?_
    rintro e w1 ⟨rfl, ht_⟩
    have hv_ : Below u.heap.size u w1 := Below.trans (b := _) (by repeat (first | assumption | exact Below.refl _ _ | refine Below.alloc ?_ (by simp; try omega) _ | refine Below.drew ?_ | refine below_drewN ?_ _)) (ht_.mono (by simp; try omega))
    replace HB := HB.trans (hv_.mono HB.size)
    clear hv_
    go_wp2_with fail
    refine (HE.out _ HB).mono ?_
    rintro e we ⟨rfl, hwe⟩
    go_wp2
    go_ret
    exact ⟨rfl, bel_step HB hwe⟩
  cases t2
  · clear HT3 HV1 HV2 HV3 ht1 ht2 ht3
    clear ma mb mc md me mf
    generalize xs.length = ka at *
    generalize ys.length = la at *
    generalize us.length = kb at *
    generalize vs.length = lb at *
    generalize ps.length = kc at *
    generalize qs.length = lc at *
    go_enter Tryz.func10, Tryz.ntmps10
    go_wp2_with fail
    refine enterFFF (P := fun u => Calls _ _ _ u _) ?_
    intro u HB q0 q1 q2 q3 r0 r1 r2 r3 s0 s1 s2 s3 z1 z2 z3 hsz
    clear hsz
    have f_z1 := z1.fr
    have f_z2 := z2.fr
    have f_z3 := z3.fr
    have lt_q0 := cell_lt q0
    have lt_r0 := cell_lt r0
    have lt_s0 := cell_lt s0
    refine (HT1.out _ HB).mono ?_
    rintro e w1 ⟨rfl, ht_⟩
    have hv_ : Below u.heap.size u w1 := Below.trans (b := _) (by repeat (first | assumption | exact Below.refl _ _ | refine Below.alloc ?_ (by simp; try omega) _ | refine Below.drew ?_ | refine below_drewN ?_ _)) (ht_.mono (by simp; try omega))
    replace r0 := keep_cell hv_ r0
    replace r1 := keep_cell hv_ r1
    replace r2 := keep_cell hv_ r2
    replace r3 := keep_cell hv_ r3
    have lt_r0 := cell_lt r0
    have lt_r1 := cell_lt r1
    have lt_r2 := cell_lt r2
    have lt_r3 := cell_lt r3
    replace HB := HB.trans (hv_.mono HB.size)
    clear hv_
    go_wp2_with fail
    refine (HT2.out _ HB).mono ?_
    rintro e w2 ⟨rfl, ht_⟩
    have hv_ : Below w1.heap.size w1 w2 := Below.trans (b := _) (by repeat (first | assumption | exact Below.refl _ _ | refine Below.alloc ?_ (by simp; try omega) _ | refine Below.drew ?_ | refine below_drewN ?_ _)) (ht_.mono (by simp; try omega))
    replace HB := HB.trans (hv_.mono HB.size)
    clear hv_
    go_wp2_with fail
    refine (HE.out _ HB).mono ?_
    rintro e we ⟨rfl, hwe⟩
    go_wp2
    go_ret
    exact ⟨rfl, bel_step HB hwe⟩
  cases t3
  · clear HV1 HV2 HV3 ht1 ht2 ht3
    clear ma mb mc md me mf
    generalize xs.length = ka at *
    generalize ys.length = la at *
    generalize us.length = kb at *
    generalize vs.length = lb at *
    generalize ps.length = kc at *
    generalize qs.length = lc at *
    go_enter Tryz.func10, Tryz.ntmps10
    go_wp2_with fail
    refine enterFFF (P := fun u => Calls _ _ _ u _) ?_
    intro u HB q0 q1 q2 q3 r0 r1 r2 r3 s0 s1 s2 s3 z1 z2 z3 hsz
    clear hsz
    have f_z1 := z1.fr
    have f_z2 := z2.fr
    have f_z3 := z3.fr
    have lt_q0 := cell_lt q0
    have lt_r0 := cell_lt r0
    have lt_s0 := cell_lt s0
    refine (HT1.out _ HB).mono ?_
    rintro e w1 ⟨rfl, ht_⟩
    have hv_ : Below u.heap.size u w1 := Below.trans (b := _) (by repeat (first | assumption | exact Below.refl _ _ | refine Below.alloc ?_ (by simp; try omega) _ | refine Below.drew ?_ | refine below_drewN ?_ _)) (ht_.mono (by simp; try omega))
    replace r0 := keep_cell hv_ r0
    replace r1 := keep_cell hv_ r1
    replace r2 := keep_cell hv_ r2
    replace r3 := keep_cell hv_ r3
    replace s0 := keep_cell hv_ s0
    replace s1 := keep_cell hv_ s1
    replace s2 := keep_cell hv_ s2
    replace s3 := keep_cell hv_ s3
    have lt_r0 := cell_lt r0
    have lt_r1 := cell_lt r1
    have lt_r2 := cell_lt r2
    have lt_r3 := cell_lt r3
    have lt_s0 := cell_lt s0
    have lt_s1 := cell_lt s1
    have lt_s2 := cell_lt s2
    have lt_s3 := cell_lt s3
    replace HB := HB.trans (hv_.mono HB.size)
    clear hv_
    go_wp2_with fail
    refine (HT2.out _ HB).mono ?_
    rintro e w2 ⟨rfl, ht_⟩
    have hv_ : Below w1.heap.size w1 w2 := Below.trans (b := _) (by repeat (first | assumption | exact Below.refl _ _ | refine Below.alloc ?_ (by simp; try omega) _ | refine Below.drew ?_ | refine below_drewN ?_ _)) (ht_.mono (by simp; try omega))
    replace s0 := keep_cell hv_ s0
    replace s1 := keep_cell hv_ s1
    replace s2 := keep_cell hv_ s2
    replace s3 := keep_cell hv_ s3
    have lt_s0 := cell_lt s0
    have lt_s1 := cell_lt s1
    have lt_s2 := cell_lt s2
    have lt_s3 := cell_lt s3
    replace HB := HB.trans (hv_.mono HB.size)
    clear hv_
    go_wp2_with fail
    refine (HT3.out _ HB).mono ?_
    rintro e w3 ⟨rfl, ht_⟩
    have hv_ : Below w2.heap.size w2 w3 := Below.trans (b := _) (by repeat (first | assumption | exact Below.refl _ _ | refine Below.alloc ?_ (by simp; try omega) _ | refine Below.drew ?_ | refine below_drewN ?_ _)) (ht_.mono (by simp; try omega))
    replace HB := HB.trans (hv_.mono HB.size)
    clear hv_
    go_wp2_with fail
    refine (HE.out _ HB).mono ?_
    rintro e we ⟨rfl, hwe⟩
    go_wp2
    go_ret
    exact ⟨rfl, bel_step HB hwe⟩
  cases v1 : fvB na xs nb ys
  · rw [v1] at HV1
    clear HV2 HV3 ht1 ht2 ht3 v1
    clear ma mb mc md me mf
    generalize xs.length = ka at *
    generalize ys.length = la at *
    generalize us.length = kb at *
    generalize vs.length = lb at *
    generalize ps.length = kc at *
    generalize qs.length = lc at *
    go_enter Tryz.func10, Tryz.ntmps10
    go_wp2_with fail
    refine enterFFF (P := fun u => Calls _ _ _ u _) ?_
    intro u HB q0 q1 q2 q3 r0 r1 r2 r3 s0 s1 s2 s3 z1 z2 z3 hsz
    clear hsz
    have f_z1 := z1.fr
    have f_z2 := z2.fr
    have f_z3 := z3.fr
    have lt_q0 := cell_lt q0
    have lt_r0 := cell_lt r0
    have lt_s0 := cell_lt s0
    refine (HT1.out _ HB).mono ?_
    rintro e w1 ⟨rfl, ht_⟩
    have hv_ : Below u.heap.size u w1 := Below.trans (b := _) (by repeat (first | assumption | exact Below.refl _ _ | refine Below.alloc ?_ (by simp; try omega) _ | refine Below.drew ?_ | refine below_drewN ?_ _)) (ht_.mono (by simp; try omega))
    replace q0 := keep_cell hv_ q0
    replace q1 := keep_cell hv_ q1
    replace q2 := keep_cell hv_ q2
    replace q3 := keep_cell hv_ q3
    replace r0 := keep_cell hv_ r0
    replace r1 := keep_cell hv_ r1
    replace r2 := keep_cell hv_ r2
    replace r3 := keep_cell hv_ r3
    replace s0 := keep_cell hv_ s0
    replace s1 := keep_cell hv_ s1
    replace s2 := keep_cell hv_ s2
    replace s3 := keep_cell hv_ s3
    have lt_q0 := cell_lt q0
    have lt_q1 := cell_lt q1
    have lt_q2 := cell_lt q2
    have lt_q3 := cell_lt q3
    have lt_r0 := cell_lt r0
    have lt_r1 := cell_lt r1
    have lt_r2 := cell_lt r2
    have lt_r3 := cell_lt r3
    have lt_s0 := cell_lt s0
    have lt_s1 := cell_lt s1
    have lt_s2 := cell_lt s2
    have lt_s3 := cell_lt s3
    replace HB := HB.trans (hv_.mono HB.size)
    clear hv_
    go_wp2_with fail
    refine (HT2.out _ HB).mono ?_
    rintro e w2 ⟨rfl, ht_⟩
    have hv_ : Below w1.heap.size w1 w2 := Below.trans (b := _) (by repeat (first | assumption | exact Below.refl _ _ | refine Below.alloc ?_ (by simp; try omega) _ | refine Below.drew ?_ | refine below_drewN ?_ _)) (ht_.mono (by simp; try omega))
    replace q0 := keep_cell hv_ q0
    replace q1 := keep_cell hv_ q1
    replace q2 := keep_cell hv_ q2
    replace q3 := keep_cell hv_ q3
    replace s0 := keep_cell hv_ s0
    replace s1 := keep_cell hv_ s1
    replace s2 := keep_cell hv_ s2
    replace s3 := keep_cell hv_ s3
    have lt_q0 := cell_lt q0
    have lt_q1 := cell_lt q1
    have lt_q2 := cell_lt q2
    have lt_q3 := cell_lt q3
    have lt_s0 := cell_lt s0
    have lt_s1 := cell_lt s1
    have lt_s2 := cell_lt s2
    have lt_s3 := cell_lt s3
    replace HB := HB.trans (hv_.mono HB.size)
    clear hv_
    go_wp2_with fail
    refine (HT3.out _ HB).mono ?_
    rintro e w3 ⟨rfl, ht_⟩
    have hv_ : Below w2.heap.size w2 w3 := Below.trans (b := _) (by repeat (first | assumption | exact Below.refl _ _ | refine Below.alloc ?_ (by simp; try omega) _ | refine Below.drew ?_ | refine below_drewN ?_ _)) (ht_.mono (by simp; try omega))
    replace q0 := keep_cell hv_ q0
    replace q1 := keep_cell hv_ q1
    replace q2 := keep_cell hv_ q2
    replace q3 := keep_cell hv_ q3
    have lt_q0 := cell_lt q0
    have lt_q1 := cell_lt q1
    have lt_q2 := cell_lt q2
    have lt_q3 := cell_lt q3
    replace HB := HB.trans (hv_.mono HB.size)
    clear hv_
    go_wp2_with fail
    refine (HV1.out _ HB).mono ?_
    rintro e w4 ⟨rfl, ht_⟩
    have hv_ : Below w3.heap.size w3 w4 := Below.trans (b := _) (by repeat (first | assumption | exact Below.refl _ _ | refine Below.alloc ?_ (by simp; try omega) _ | refine Below.drew ?_ | refine below_drewN ?_ _)) (ht_.mono (by simp; try omega))
    replace HB := HB.trans (hv_.mono HB.size)
    clear hv_
    go_wp2_with fail
    refine (HE.out _ HB).mono ?_
    rintro e we ⟨rfl, hwe⟩
    go_wp2
    go_ret
    exact ⟨rfl, bel_step HB hwe⟩
  rw [v1] at HV1
  cases v2 : fvB nc us nd vs
  · rw [v2] at HV2
    clear HV3 ht1 ht2 ht3 v1 v2
    clear ma mb mc md me mf
    generalize xs.length = ka at *
    generalize ys.length = la at *
    generalize us.length = kb at *
    generalize vs.length = lb at *
    generalize ps.length = kc at *
    generalize qs.length = lc at *
    go_enter Tryz.func10, Tryz.ntmps10
    go_wp2_with fail
    refine enterFFF (P := fun u => Calls _ _ _ u _) ?_
    intro u HB q0 q1 q2 q3 r0 r1 r2 r3 s0 s1 s2 s3 z1 z2 z3 hsz
    clear hsz
    have f_z1 := z1.fr
    have f_z2 := z2.fr
    have f_z3 := z3.fr
    have lt_q0 := cell_lt q0
    have lt_r0 := cell_lt r0
    have lt_s0 := cell_lt s0
    refine (HT1.out _ HB).mono ?_
    rintro e w1 ⟨rfl, ht_⟩
    have hv_ : Below u.heap.size u w1 := Below.trans (b := _) (by repeat (first | assumption | exact Below.refl _ _ | refine Below.alloc ?_ (by simp; try omega) _ | refine Below.drew ?_ | refine below_drewN ?_ _)) (ht_.mono (by simp; try omega))
    replace q0 := keep_cell hv_ q0
    replace q1 := keep_cell hv_ q1
    replace q2 := keep_cell hv_ q2
    replace q3 := keep_cell hv_ q3
    replace r0 := keep_cell hv_ r0
    replace r1 := keep_cell hv_ r1
    replace r2 := keep_cell hv_ r2
    replace r3 := keep_cell hv_ r3
    replace s0 := keep_cell hv_ s0
    replace s1 := keep_cell hv_ s1
    replace s2 := keep_cell hv_ s2
    replace s3 := keep_cell hv_ s3
    have lt_q0 := cell_lt q0
    have lt_q1 := cell_lt q1
    have lt_q2 := cell_lt q2
    have lt_q3 := cell_lt q3
    have lt_r0 := cell_lt r0
    have lt_r1 := cell_lt r1
    have lt_r2 := cell_lt r2
    have lt_r3 := cell_lt r3
    have lt_s0 := cell_lt s0
    have lt_s1 := cell_lt s1
    have lt_s2 := cell_lt s2
    have lt_s3 := cell_lt s3
    replace HB := HB.trans (hv_.mono HB.size)
    clear hv_
    go_wp2_with fail
    refine (HT2.out _ HB).mono ?_
    rintro e w2 ⟨rfl, ht_⟩
    have hv_ : Below w1.heap.size w1 w2 := Below.trans (b := _) (by repeat (first | assumption | exact Below.refl _ _ | refine Below.alloc ?_ (by simp; try omega) _ | refine Below.drew ?_ | refine below_drewN ?_ _)) (ht_.mono (by simp; try omega))
    replace q0 := keep_cell hv_ q0
    replace q1 := keep_cell hv_ q1
    replace q2 := keep_cell hv_ q2
    replace q3 := keep_cell hv_ q3
    replace r0 := keep_cell hv_ r0
    replace r1 := keep_cell hv_ r1
    replace r2 := keep_cell hv_ r2
    replace r3 := keep_cell hv_ r3
    replace s0 := keep_cell hv_ s0
    replace s1 := keep_cell hv_ s1
    replace s2 := keep_cell hv_ s2
    replace s3 := keep_cell hv_ s3
    have lt_q0 := cell_lt q0
    have lt_q1 := cell_lt q1
    have lt_q2 := cell_lt q2
    have lt_q3 := cell_lt q3
    have lt_r0 := cell_lt r0
    have lt_r1 := cell_lt r1
    have lt_r2 := cell_lt r2
    have lt_r3 := cell_lt r3
    have lt_s0 := cell_lt s0
    have lt_s1 := cell_lt s1
    have lt_s2 := cell_lt s2
    have lt_s3 := cell_lt s3
    replace HB := HB.trans (hv_.mono HB.size)
    clear hv_
    go_wp2_with fail
    refine (HT3.out _ HB).mono ?_
    rintro e w3 ⟨rfl, ht_⟩
    have hv_ : Below w2.heap.size w2 w3 := Below.trans (b := _) (by repeat (first | assumption | exact Below.refl _ _ | refine Below.alloc ?_ (by simp; try omega) _ | refine Below.drew ?_ | refine below_drewN ?_ _)) (ht_.mono (by simp; try omega))
    replace q0 := keep_cell hv_ q0
    replace q1 := keep_cell hv_ q1
    replace q2 := keep_cell hv_ q2
    replace q3 := keep_cell hv_ q3
    replace r0 := keep_cell hv_ r0
    replace r1 := keep_cell hv_ r1
    replace r2 := keep_cell hv_ r2
    replace r3 := keep_cell hv_ r3
    have lt_q0 := cell_lt q0
    have lt_q1 := cell_lt q1
    have lt_q2 := cell_lt q2
    have lt_q3 := cell_lt q3
    have lt_r0 := cell_lt r0
    have lt_r1 := cell_lt r1
    have lt_r2 := cell_lt r2
    have lt_r3 := cell_lt r3
    replace HB := HB.trans (hv_.mono HB.size)
    clear hv_
    go_wp2_with fail
    refine (HV1.out _ HB).mono ?_
    rintro e w4 ⟨rfl, ht_⟩
    have hv_ : Below w3.heap.size w3 w4 := Below.trans (b := _) (by repeat (first | assumption | exact Below.refl _ _ | refine Below.alloc ?_ (by simp; try omega) _ | refine Below.drew ?_ | refine below_drewN ?_ _)) (ht_.mono (by simp; try omega))
    replace r0 := keep_cell hv_ r0
    replace r1 := keep_cell hv_ r1
    replace r2 := keep_cell hv_ r2
    replace r3 := keep_cell hv_ r3
    have lt_r0 := cell_lt r0
    have lt_r1 := cell_lt r1
    have lt_r2 := cell_lt r2
    have lt_r3 := cell_lt r3
    replace HB := HB.trans (hv_.mono HB.size)
    clear hv_
    go_wp2_with fail
    refine (HV2.out _ HB).mono ?_
    rintro e w5 ⟨rfl, ht_⟩
    have hv_ : Below w4.heap.size w4 w5 := Below.trans (b := _) (by repeat (first | assumption | exact Below.refl _ _ | refine Below.alloc ?_ (by simp; try omega) _ | refine Below.drew ?_ | refine below_drewN ?_ _)) (ht_.mono (by simp; try omega))
    replace HB := HB.trans (hv_.mono HB.size)
    clear hv_
    go_wp2_with fail
    refine (HE.out _ HB).mono ?_
    rintro e we ⟨rfl, hwe⟩
    go_wp2
    go_ret
    exact ⟨rfl, bel_step HB hwe⟩
  rw [v2] at HV2
  cases v3 : fvB ne ps nf qs
  · rw [v3] at HV3
    clear ht1 ht2 ht3 v1 v2 v3
    clear ma mb mc md me mf
    generalize xs.length = ka at *
    generalize ys.length = la at *
    generalize us.length = kb at *
    generalize vs.length = lb at *
    generalize ps.length = kc at *
    generalize qs.length = lc at *
    go_enter Tryz.func10, Tryz.ntmps10
    go_wp2_with fail
    refine enterFFF (P := fun u => Calls _ _ _ u _) ?_
    intro u HB q0 q1 q2 q3 r0 r1 r2 r3 s0 s1 s2 s3 z1 z2 z3 hsz
    clear hsz
    have f_z1 := z1.fr
    have f_z2 := z2.fr
    have f_z3 := z3.fr
    have lt_q0 := cell_lt q0
    have lt_r0 := cell_lt r0
    have lt_s0 := cell_lt s0
    refine (HT1.out _ HB).mono ?_
    rintro e w1 ⟨rfl, ht_⟩
    have hv_ : Below u.heap.size u w1 := Below.trans (b := _) (by repeat (first | assumption | exact Below.refl _ _ | refine Below.alloc ?_ (by simp; try omega) _ | refine Below.drew ?_ | refine below_drewN ?_ _)) (ht_.mono (by simp; try omega))
    replace q0 := keep_cell hv_ q0
    replace q1 := keep_cell hv_ q1
    replace q2 := keep_cell hv_ q2
    replace q3 := keep_cell hv_ q3
    replace r0 := keep_cell hv_ r0
    replace r1 := keep_cell hv_ r1
    replace r2 := keep_cell hv_ r2
    replace r3 := keep_cell hv_ r3
    replace s0 := keep_cell hv_ s0
    replace s1 := keep_cell hv_ s1
    replace s2 := keep_cell hv_ s2
    replace s3 := keep_cell hv_ s3
    have lt_q0 := cell_lt q0
    have lt_q1 := cell_lt q1
    have lt_q2 := cell_lt q2
    have lt_q3 := cell_lt q3
    have lt_r0 := cell_lt r0
    have lt_r1 := cell_lt r1
    have lt_r2 := cell_lt r2
    have lt_r3 := cell_lt r3
    have lt_s0 := cell_lt s0
    have lt_s1 := cell_lt s1
    have lt_s2 := cell_lt s2
    have lt_s3 := cell_lt s3
    replace HB := HB.trans (hv_.mono HB.size)
    clear hv_
    go_wp2_with fail
    refine (HT2.out _ HB).mono ?_
    rintro e w2 ⟨rfl, ht_⟩
    have hv_ : Below w1.heap.size w1 w2 := Below.trans (b := _) (by repeat (first | assumption | exact Below.refl _ _ | refine Below.alloc ?_ (by simp; try omega) _ | refine Below.drew ?_ | refine below_drewN ?_ _)) (ht_.mono (by simp; try omega))
    replace q0 := keep_cell hv_ q0
    replace q1 := keep_cell hv_ q1
    replace q2 := keep_cell hv_ q2
    replace q3 := keep_cell hv_ q3
    replace r0 := keep_cell hv_ r0
    replace r1 := keep_cell hv_ r1
    replace r2 := keep_cell hv_ r2
    replace r3 := keep_cell hv_ r3
    replace s0 := keep_cell hv_ s0
    replace s1 := keep_cell hv_ s1
    replace s2 := keep_cell hv_ s2
    replace s3 := keep_cell hv_ s3
    have lt_q0 := cell_lt q0
    have lt_q1 := cell_lt q1
    have lt_q2 := cell_lt q2
    have lt_q3 := cell_lt q3
    have lt_r0 := cell_lt r0
    have lt_r1 := cell_lt r1
    have lt_r2 := cell_lt r2
    have lt_r3 := cell_lt r3
    have lt_s0 := cell_lt s0
    have lt_s1 := cell_lt s1
    have lt_s2 := cell_lt s2
    have lt_s3 := cell_lt s3
    replace HB := HB.trans (hv_.mono HB.size)
    clear hv_
    go_wp2_with fail
    refine (HT3.out _ HB).mono ?_
    rintro e w3 ⟨rfl, ht_⟩
    have hv_ : Below w2.heap.size w2 w3 := Below.trans (b := _) (by repeat (first | assumption | exact Below.refl _ _ | refine Below.alloc ?_ (by simp; try omega) _ | refine Below.drew ?_ | refine below_drewN ?_ _)) (ht_.mono (by simp; try omega))
    replace q0 := keep_cell hv_ q0
    replace q1 := keep_cell hv_ q1
    replace q2 := keep_cell hv_ q2
    replace q3 := keep_cell hv_ q3
    replace r0 := keep_cell hv_ r0
    replace r1 := keep_cell hv_ r1
    replace r2 := keep_cell hv_ r2
    replace r3 := keep_cell hv_ r3
    replace s0 := keep_cell hv_ s0
    replace s1 := keep_cell hv_ s1
    replace s2 := keep_cell hv_ s2
    replace s3 := keep_cell hv_ s3
    have lt_q0 := cell_lt q0
    have lt_q1 := cell_lt q1
    have lt_q2 := cell_lt q2
    have lt_q3 := cell_lt q3
    have lt_r0 := cell_lt r0
    have lt_r1 := cell_lt r1
    have lt_r2 := cell_lt r2
    have lt_r3 := cell_lt r3
    have lt_s0 := cell_lt s0
    have lt_s1 := cell_lt s1
    have lt_s2 := cell_lt s2
    have lt_s3 := cell_lt s3
    replace HB := HB.trans (hv_.mono HB.size)
    clear hv_
    go_wp2_with fail
    refine (HV1.out _ HB).mono ?_
    rintro e w4 ⟨rfl, ht_⟩
    have hv_ : Below w3.heap.size w3 w4 := Below.trans (b := _) (by repeat (first | assumption | exact Below.refl _ _ | refine Below.alloc ?_ (by simp; try omega) _ | refine Below.drew ?_ | refine below_drewN ?_ _)) (ht_.mono (by simp; try omega))
    replace r0 := keep_cell hv_ r0
    replace r1 := keep_cell hv_ r1
    replace r2 := keep_cell hv_ r2
    replace r3 := keep_cell hv_ r3
    replace s0 := keep_cell hv_ s0
    replace s1 := keep_cell hv_ s1
    replace s2 := keep_cell hv_ s2
    replace s3 := keep_cell hv_ s3
    have lt_r0 := cell_lt r0
    have lt_r1 := cell_lt r1
    have lt_r2 := cell_lt r2
    have lt_r3 := cell_lt r3
    have lt_s0 := cell_lt s0
    have lt_s1 := cell_lt s1
    have lt_s2 := cell_lt s2
    have lt_s3 := cell_lt s3
    replace HB := HB.trans (hv_.mono HB.size)
    clear hv_
    go_wp2_with fail
    refine (HV2.out _ HB).mono ?_
    rintro e w5 ⟨rfl, ht_⟩
    have hv_ : Below w4.heap.size w4 w5 := Below.trans (b := _) (by repeat (first | assumption | exact Below.refl _ _ | refine Below.alloc ?_ (by simp; try omega) _ | refine Below.drew ?_ | refine below_drewN ?_ _)) (ht_.mono (by simp; try omega))
    replace s0 := keep_cell hv_ s0
    replace s1 := keep_cell hv_ s1
    replace s2 := keep_cell hv_ s2
    replace s3 := keep_cell hv_ s3
    have lt_s0 := cell_lt s0
    have lt_s1 := cell_lt s1
    have lt_s2 := cell_lt s2
    have lt_s3 := cell_lt s3
    replace HB := HB.trans (hv_.mono HB.size)
    clear hv_
    go_wp2_with fail
    refine (HV3.out _ HB).mono ?_
    rintro e w6 ⟨rfl, ht_⟩
    have hv_ : Below w5.heap.size w5 w6 := Below.trans (b := _) (by repeat (first | assumption | exact Below.refl _ _ | refine Below.alloc ?_ (by simp; try omega) _ | refine Below.drew ?_ | refine below_drewN ?_ _)) (ht_.mono (by simp; try omega))
    replace HB := HB.trans (hv_.mono HB.size)
    clear hv_
    go_wp2_with fail
    refine (HE.out _ HB).mono ?_
    rintro e we ⟨rfl, hwe⟩
    go_wp2
    go_ret
    exact ⟨rfl, bel_step HB hwe⟩
  rw [v3] at HV3
  obtain ⟨rfl, p1, p2, p3, p4, p5, p6⟩ := fvB_ok ma.ok mb.ok v1
  have IF : Hid (Fz (sg na (val xs), val ys) na xs.length xs ys.length ys) := ⟨p1, by rw [natAbs_sg]; exact p2, rfl, p3, rfl⟩
  obtain ⟨f, hf⟩ : ∃ f, (sg na (val xs), val ys) = f := ⟨_, rfl⟩
  rw [hf] at IF p4
  have NF := p4
  simp only [Bool.and_eq_true, decide_eq_true_eq] at ht1
  have sf : Sz 96 f := Sz.of_limbs (m := 3) (by rw [IF.out.n.len]; exact ht1.1) (by rw [IF.out.d.len]; exact ht1.2)
  clear hf v1 p1 p2 p3 p4 p5 p6
  obtain ⟨rfl, p1, p2, p3, p4, p5, p6⟩ := fvB_ok mc.ok md.ok v2
  have IG : Hid (Fz (sg nc (val us), val vs) nc us.length us vs.length vs) := ⟨p1, by rw [natAbs_sg]; exact p2, rfl, p3, rfl⟩
  obtain ⟨g, hg⟩ : ∃ f, (sg nc (val us), val vs) = f := ⟨_, rfl⟩
  rw [hg] at IG p4
  have NG := p4
  simp only [Bool.and_eq_true, decide_eq_true_eq] at ht2
  have sg_ : Sz 96 g := Sz.of_limbs (m := 3) (by rw [IG.out.n.len]; exact ht2.1) (by rw [IG.out.d.len]; exact ht2.2)
  clear hg v2 p1 p2 p3 p4 p5 p6
  obtain ⟨rfl, p1, p2, p3, p4, p5, p6⟩ := fvB_ok me.ok mf.ok v3
  have IH : Hid (Fz (sg ne (val ps), val qs) ne ps.length ps qs.length qs) := ⟨p1, by rw [natAbs_sg]; exact p2, rfl, p3, rfl⟩
  obtain ⟨h, hh⟩ : ∃ f, (sg ne (val ps), val qs) = f := ⟨_, rfl⟩
  rw [hh] at IH p4
  have NH := p4
  simp only [Bool.and_eq_true, decide_eq_true_eq] at ht3
  have sh : Sz 96 h := Sz.of_limbs (m := 3) (by rw [IH.out.n.len]; exact ht3.1) (by rw [IH.out.d.len]; exact ht3.2)
  clear hh v3 p1 p2 p3 p4 p5 p6
  have sx := fadd_sz sf sh
  have sy := fadd_sz sg_ sh
  have vf := sf.vf (by omega) NF
  have vg := sg_.vf (by omega) NG
  have vh := sh.vf (by omega) NH
  have vx := sx.vf (by omega) (fadd_nf NF NH)
  have vy := sy.vf (by omega) (fadd_nf NG NH)
  have HO := order_facts NF NG NH
  obtain ⟨bd, kd, Xd, ld, Yd, Id⟩ := fz (fsub f g)
  obtain ⟨bx, kx, Xx, lx, Yx, Ix⟩ := fz (fadd f h)
  obtain ⟨byy, kyy, Xyy, lyy, Yyy, Iyy⟩ := fz (fadd g h)
  have hd1 : bd = decide ((fsub f g).1 < 0) := Id.out.hb
  have hd2 : kd = 0 ↔ (fsub f g).1 = 0 := Id.out.num.zero
  obtain ⟨z, hz⟩ : ∃ z, cmpF f g = z := ⟨_, rfl⟩
  obtain ⟨z2, hz2⟩ : ∃ z, cmpF g f = z := ⟨_, rfl⟩
  obtain ⟨z3, hz3⟩ : ∃ z, cmpF g h = z := ⟨_, rfl⟩
  obtain ⟨z4, hz4⟩ : ∃ z, cmpF f h = z := ⟨_, rfl⟩
  obtain ⟨z5, hz5⟩ : ∃ z, cmpF (fadd f h) (fadd g h) = z := ⟨_, rfl⟩
  obtain ⟨te, hte⟩ : ∃ t, decide (f = g) = t := ⟨_, rfl⟩
  rw [hz, hz2, hz3, hz4, hz5] at HO
  have HH3 := hid fun (w1 : World) (R Q R' Q' : Option Addr) (c d c' d' : Nat) (m1 : Mg w1 R c xs) (m2 : Mg w1 Q d ys) (m3 : Mg w1 R' c' us) (m4 : Mg w1 Q' d' vs) => FrCmp_f (w := w1) IF.out IG.out vf vg _ hz m1 m2 m3 m4
  have HH4 := hid fun (w1 : World) (R Q R' Q' : Option Addr) (c d c' d' : Nat) (m1 : Mg w1 R c us) (m2 : Mg w1 Q d vs) (m3 : Mg w1 R' c' xs) (m4 : Mg w1 Q' d' ys) => FrCmp_f (w := w1) IG.out IF.out vg vf _ hz2 m1 m2 m3 m4
  have HH5 := hid fun (w1 : World) (R Q R' Q' : Option Addr) (c d c' d' : Nat) (m1 : Mg w1 R c us) (m2 : Mg w1 Q d vs) (m3 : Mg w1 R' c' ps) (m4 : Mg w1 Q' d' qs) => FrCmp_f (w := w1) IG.out IH.out vg vh _ hz3 m1 m2 m3 m4
  have HH6 := hid fun (w1 : World) (R Q R' Q' : Option Addr) (c d c' d' : Nat) (m1 : Mg w1 R c xs) (m2 : Mg w1 Q d ys) (m3 : Mg w1 R' c' ps) (m4 : Mg w1 Q' d' qs) => FrCmp_f (w := w1) IF.out IH.out vf vh _ hz4 m1 m2 m3 m4
  have HH7 := hid fun (w1 : World) (R Q R' Q' : Option Addr) (c d c' d' : Nat) (m1 : Mg w1 R c xs) (m2 : Mg w1 Q d ys) (m3 : Mg w1 R' c' us) (m4 : Mg w1 Q' d' vs) => FrSub_f (w := w1) IF.out IG.out vf vg (subE_sz sf sg_ (by omega)) Id.out m1 m2 m3 m4
  have HH8 := hid fun (w1 : World) (R Q R' Q' : Option Addr) (c d c' d' : Nat) (m1 : Mg w1 R c xs) (m2 : Mg w1 Q d ys) (m3 : Mg w1 R' c' ps) (m4 : Mg w1 Q' d' qs) => FrAdd_f (w := w1) IF.out IH.out vf vh (addE_sz sf sh (by omega)) Ix.out m1 m2 m3 m4
  have HH9 := hid fun (w1 : World) (R Q R' Q' : Option Addr) (c d c' d' : Nat) (m1 : Mg w1 R c us) (m2 : Mg w1 Q d vs) (m3 : Mg w1 R' c' ps) (m4 : Mg w1 Q' d' qs) => FrAdd_f (w := w1) IG.out IH.out vg vh (addE_sz sg_ sh (by omega)) Iyy.out m1 m2 m3 m4
  have HH10 := hid fun (w1 : World) (R Q R' Q' : Option Addr) (c d c' d' : Nat) (m1 : Mg w1 R c Xx) (m2 : Mg w1 Q d Yx) (m3 : Mg w1 R' c' Xyy) (m4 : Mg w1 Q' d' Yyy) => FrCmp_f (w := w1) Ix.out Iyy.out vx vy _ hz5 m1 m2 m3 m4
  have HS1 := hid fun (w1 : World) (R Q R' Q' : Option Addr) (c d c' d' : Nat) (m1 : Mg w1 R c xs) (m2 : Mg w1 Q d ys) (m3 : Mg w1 R' c' us) (m4 : Mg w1 Q' d' vs) => QSame_g (w := w1) IF.out IG.out m1 m2 m3 m4 te hte
  have MM := hid fun (w1 : World) (h : Below w.heap.size w w1) => And.intro (And.intro (ma.below h) (mb.below h)) (And.intro (And.intro (mc.below h) (md.below h)) (And.intro (me.below h) (mf.below h)))
  have HZ : Hid ((z = 1 ∧ z2 = -1 ∧ z5 = 1 ∧ bd = false ∧ kd ≠ 0 ∧ te = false) ∨ (z = -1 ∧ z2 = 1 ∧ z5 = -1 ∧ bd = true ∧ kd ≠ 0 ∧ te = false ∧ (z3 = 1 ∨ (z3 ≤ 0 ∧ z4 = -1))) ∨ (z = 0 ∧ z2 = 0 ∧ z5 = 0 ∧ bd = false ∧ kd = 0 ∧ te = true ∧ (z3 = 1 ∨ (z3 = -1 ∧ z4 = -1) ∨ (z3 = 0 ∧ z4 = 0)))) := by
    subst hte
    subst hd1
    rcases HO with ⟨a1, a2, a3, a4, a5, a6⟩ | ⟨a1, a2, a3, a4, a5, a6, a7⟩ | ⟨a1, a2, a3, a4, a5, a6, a7⟩
    · exact .inl ⟨a1, a2, a3, by simpa using a4, fun h => a5 (hd2.1 h), by simpa using a6⟩
    · exact .inr (.inl ⟨a1, a2, a3, by simpa using a4, fun h => a5 (hd2.1 h), by simpa using a6, a7⟩)
    · exact .inr (.inr ⟨a1, a2, a3, by simpa using a4, hd2.2 a5, by simpa using a6, a7⟩)
  clear ht1 ht2 ht3 IF IG IH NF NG NH sf sg_ sh sx sy vf vg vh vx vy HO Id Ix Iyy hd1 hd2 hz hz2 hz3 hz4 hz5 hte
  clear ma mb mc md me mf
  generalize xs.length = ka at *
  generalize ys.length = la at *
  generalize us.length = kb at *
  generalize vs.length = lb at *
  generalize ps.length = kc at *
  generalize qs.length = lc at *
  go_enter Tryz.func10, Tryz.ntmps10
  go_wp2_with fail
  refine enterFFF (P := fun u => Calls _ _ _ u _) ?_
  intro u HB q0 q1 q2 q3 r0 r1 r2 r3 s0 s1 s2 s3 z1 z2 z3 hsz
  clear hsz
  have f_z1 := z1.fr
  have f_z2 := z2.fr
  have f_z3 := z3.fr
  have lt_q0 := cell_lt q0
  have lt_r0 := cell_lt r0
  have lt_s0 := cell_lt s0
  refine (HT1.out _ HB).mono ?_
  rintro e w1 ⟨rfl, ht_⟩
  have hv_ : Below u.heap.size u w1 := Below.trans (b := _) (by repeat (first | assumption | exact Below.refl _ _ | refine Below.alloc ?_ (by simp; try omega) _ | refine Below.drew ?_ | refine below_drewN ?_ _)) (ht_.mono (by simp; try omega))
  replace q0 := keep_cell hv_ q0
  replace q1 := keep_cell hv_ q1
  replace q2 := keep_cell hv_ q2
  replace q3 := keep_cell hv_ q3
  replace r0 := keep_cell hv_ r0
  replace r1 := keep_cell hv_ r1
  replace r2 := keep_cell hv_ r2
  replace r3 := keep_cell hv_ r3
  replace s0 := keep_cell hv_ s0
  replace s1 := keep_cell hv_ s1
  replace s2 := keep_cell hv_ s2
  replace s3 := keep_cell hv_ s3
  have lt_q0 := cell_lt q0
  have lt_q1 := cell_lt q1
  have lt_q2 := cell_lt q2
  have lt_q3 := cell_lt q3
  have lt_r0 := cell_lt r0
  have lt_r1 := cell_lt r1
  have lt_r2 := cell_lt r2
  have lt_r3 := cell_lt r3
  have lt_s0 := cell_lt s0
  have lt_s1 := cell_lt s1
  have lt_s2 := cell_lt s2
  have lt_s3 := cell_lt s3
  replace HB := HB.trans (hv_.mono HB.size)
  clear hv_
  go_wp2_with fail
  refine (HT2.out _ HB).mono ?_
  rintro e w2 ⟨rfl, ht_⟩
  have hv_ : Below w1.heap.size w1 w2 := Below.trans (b := _) (by repeat (first | assumption | exact Below.refl _ _ | refine Below.alloc ?_ (by simp; try omega) _ | refine Below.drew ?_ | refine below_drewN ?_ _)) (ht_.mono (by simp; try omega))
  replace q0 := keep_cell hv_ q0
  replace q1 := keep_cell hv_ q1
  replace q2 := keep_cell hv_ q2
  replace q3 := keep_cell hv_ q3
  replace r0 := keep_cell hv_ r0
  replace r1 := keep_cell hv_ r1
  replace r2 := keep_cell hv_ r2
  replace r3 := keep_cell hv_ r3
  replace s0 := keep_cell hv_ s0
  replace s1 := keep_cell hv_ s1
  replace s2 := keep_cell hv_ s2
  replace s3 := keep_cell hv_ s3
  have lt_q0 := cell_lt q0
  have lt_q1 := cell_lt q1
  have lt_q2 := cell_lt q2
  have lt_q3 := cell_lt q3
  have lt_r0 := cell_lt r0
  have lt_r1 := cell_lt r1
  have lt_r2 := cell_lt r2
  have lt_r3 := cell_lt r3
  have lt_s0 := cell_lt s0
  have lt_s1 := cell_lt s1
  have lt_s2 := cell_lt s2
  have lt_s3 := cell_lt s3
  replace HB := HB.trans (hv_.mono HB.size)
  clear hv_
  go_wp2_with fail
  refine (HT3.out _ HB).mono ?_
  rintro e w3 ⟨rfl, ht_⟩
  have hv_ : Below w2.heap.size w2 w3 := Below.trans (b := _) (by repeat (first | assumption | exact Below.refl _ _ | refine Below.alloc ?_ (by simp; try omega) _ | refine Below.drew ?_ | refine below_drewN ?_ _)) (ht_.mono (by simp; try omega))
  replace q0 := keep_cell hv_ q0
  replace q1 := keep_cell hv_ q1
  replace q2 := keep_cell hv_ q2
  replace q3 := keep_cell hv_ q3
  replace r0 := keep_cell hv_ r0
  replace r1 := keep_cell hv_ r1
  replace r2 := keep_cell hv_ r2
  replace r3 := keep_cell hv_ r3
  replace s0 := keep_cell hv_ s0
  replace s1 := keep_cell hv_ s1
  replace s2 := keep_cell hv_ s2
  replace s3 := keep_cell hv_ s3
  have lt_q0 := cell_lt q0
  have lt_q1 := cell_lt q1
  have lt_q2 := cell_lt q2
  have lt_q3 := cell_lt q3
  have lt_r0 := cell_lt r0
  have lt_r1 := cell_lt r1
  have lt_r2 := cell_lt r2
  have lt_r3 := cell_lt r3
  have lt_s0 := cell_lt s0
  have lt_s1 := cell_lt s1
  have lt_s2 := cell_lt s2
  have lt_s3 := cell_lt s3
  replace HB := HB.trans (hv_.mono HB.size)
  clear hv_
  go_wp2_with fail
  refine (HV1.out _ HB).mono ?_
  rintro e w4 ⟨rfl, ht_⟩
  have hv_ : Below w3.heap.size w3 w4 := Below.trans (b := _) (by repeat (first | assumption | exact Below.refl _ _ | refine Below.alloc ?_ (by simp; try omega) _ | refine Below.drew ?_ | refine below_drewN ?_ _)) (ht_.mono (by simp; try omega))
  replace q0 := keep_cell hv_ q0
  replace q1 := keep_cell hv_ q1
  replace q2 := keep_cell hv_ q2
  replace q3 := keep_cell hv_ q3
  replace r0 := keep_cell hv_ r0
  replace r1 := keep_cell hv_ r1
  replace r2 := keep_cell hv_ r2
  replace r3 := keep_cell hv_ r3
  replace s0 := keep_cell hv_ s0
  replace s1 := keep_cell hv_ s1
  replace s2 := keep_cell hv_ s2
  replace s3 := keep_cell hv_ s3
  have lt_q0 := cell_lt q0
  have lt_q1 := cell_lt q1
  have lt_q2 := cell_lt q2
  have lt_q3 := cell_lt q3
  have lt_r0 := cell_lt r0
  have lt_r1 := cell_lt r1
  have lt_r2 := cell_lt r2
  have lt_r3 := cell_lt r3
  have lt_s0 := cell_lt s0
  have lt_s1 := cell_lt s1
  have lt_s2 := cell_lt s2
  have lt_s3 := cell_lt s3
  replace HB := HB.trans (hv_.mono HB.size)
  clear hv_
  go_wp2_with fail
  refine (HV2.out _ HB).mono ?_
  rintro e w5 ⟨rfl, ht_⟩
  have hv_ : Below w4.heap.size w4 w5 := Below.trans (b := _) (by repeat (first | assumption | exact Below.refl _ _ | refine Below.alloc ?_ (by simp; try omega) _ | refine Below.drew ?_ | refine below_drewN ?_ _)) (ht_.mono (by simp; try omega))
  replace q0 := keep_cell hv_ q0
  replace q1 := keep_cell hv_ q1
  replace q2 := keep_cell hv_ q2
  replace q3 := keep_cell hv_ q3
  replace r0 := keep_cell hv_ r0
  replace r1 := keep_cell hv_ r1
  replace r2 := keep_cell hv_ r2
  replace r3 := keep_cell hv_ r3
  replace s0 := keep_cell hv_ s0
  replace s1 := keep_cell hv_ s1
  replace s2 := keep_cell hv_ s2
  replace s3 := keep_cell hv_ s3
  have lt_q0 := cell_lt q0
  have lt_q1 := cell_lt q1
  have lt_q2 := cell_lt q2
  have lt_q3 := cell_lt q3
  have lt_r0 := cell_lt r0
  have lt_r1 := cell_lt r1
  have lt_r2 := cell_lt r2
  have lt_r3 := cell_lt r3
  have lt_s0 := cell_lt s0
  have lt_s1 := cell_lt s1
  have lt_s2 := cell_lt s2
  have lt_s3 := cell_lt s3
  replace HB := HB.trans (hv_.mono HB.size)
  clear hv_
  go_wp2_with fail
  refine (HV3.out _ HB).mono ?_
  rintro e w6 ⟨rfl, ht_⟩
  have hv_ : Below w5.heap.size w5 w6 := Below.trans (b := _) (by repeat (first | assumption | exact Below.refl _ _ | refine Below.alloc ?_ (by simp; try omega) _ | refine Below.drew ?_ | refine below_drewN ?_ _)) (ht_.mono (by simp; try omega))
  replace q0 := keep_cell hv_ q0
  replace q1 := keep_cell hv_ q1
  replace q2 := keep_cell hv_ q2
  replace q3 := keep_cell hv_ q3
  replace r0 := keep_cell hv_ r0
  replace r1 := keep_cell hv_ r1
  replace r2 := keep_cell hv_ r2
  replace r3 := keep_cell hv_ r3
  replace s0 := keep_cell hv_ s0
  replace s1 := keep_cell hv_ s1
  replace s2 := keep_cell hv_ s2
  replace s3 := keep_cell hv_ s3
  have lt_q0 := cell_lt q0
  have lt_q1 := cell_lt q1
  have lt_q2 := cell_lt q2
  have lt_q3 := cell_lt q3
  have lt_r0 := cell_lt r0
  have lt_r1 := cell_lt r1
  have lt_r2 := cell_lt r2
  have lt_r3 := cell_lt r3
  have lt_s0 := cell_lt s0
  have lt_s1 := cell_lt s1
  have lt_s2 := cell_lt s2
  have lt_s3 := cell_lt s3
  replace HB := HB.trans (hv_.mono HB.size)
  clear hv_
  obtain ⟨⟨n1_, n2_⟩, ⟨n3_, n4_⟩, ⟨n5_, n6_⟩⟩ := MM.out _ HB
  have fa : Fb w6 w.heap.size na A ka ca xs B la cb ys := ⟨q0, q1, q2, q3, n1_, n2_⟩
  have fb : Fb w6 (w.heap.size + 1) nc C kb cc us D lb cd vs := ⟨r0, r1, r2, r3, n3_, n4_⟩
  have fc : Fb w6 (w.heap.size + 1 + 1) ne E kc ce ps F lc cf qs := ⟨s0, s1, s2, s3, n5_, n6_⟩
  clear q0 q1 q2 q3 r0 r1 r2 r3 s0 s1 s2 s3 n1_ n2_ n3_ n4_ n5_ n6_ HT1 HT2 HT3 HV1 HV2 HV3 MM lt_q0 lt_q1 lt_q2 lt_q3 lt_r0 lt_r1 lt_r2 lt_r3 lt_s0 lt_s1 lt_s2 lt_s3
  have e0 := fa.c0
  have e1 := fa.c1
  have e2 := fa.c2
  have e3 := fa.c3
  have f0 := fb.c0
  have f1 := fb.c1
  have f2 := fb.c2
  have f3 := fb.c3
  have lt_e0 := cell_lt e0
  have lt_f0 := cell_lt f0
  go_wp2_with fail
  refine (HH3.out _ _ _ _ _ _ _ _ _ fa.m fa.n fb.m fb.n).mono ?_
  rintro e v3 ⟨rfl, h_⟩
  clear e0 e1 e2 e3 f0 f1 f2 f3 lt_e0 lt_f0
  have hv_ : Below w6.heap.size w6 v3 := Below.trans (b := _) (by repeat (first | assumption | exact Below.refl _ _ | refine Below.alloc ?_ (by simp; try omega) _ | refine Below.drew ?_ | refine below_drewN ?_ _)) (h_.mono (by simp; try omega))
  replace fa := fa.below hv_
  replace fb := fb.below hv_
  replace fc := fc.below hv_
  replace HB := HB.trans (hv_.mono HB.size)
  clear hv_
  have e0 := fb.c0
  have e1 := fb.c1
  have e2 := fb.c2
  have e3 := fb.c3
  have f0 := fa.c0
  have f1 := fa.c1
  have f2 := fa.c2
  have f3 := fa.c3
  have lt_e0 := cell_lt e0
  have lt_f0 := cell_lt f0
  go_wp2_with fail
  refine (HH4.out _ _ _ _ _ _ _ _ _ fb.m fb.n fa.m fa.n).mono ?_
  rintro e v4 ⟨rfl, h_⟩
  clear e0 e1 e2 e3 f0 f1 f2 f3 lt_e0 lt_f0
  have hv_ : Below v3.heap.size v3 v4 := Below.trans (b := _) (by repeat (first | assumption | exact Below.refl _ _ | refine Below.alloc ?_ (by simp; try omega) _ | refine Below.drew ?_ | refine below_drewN ?_ _)) (h_.mono (by simp; try omega))
  replace fa := fa.below hv_
  replace fb := fb.below hv_
  replace fc := fc.below hv_
  replace HB := HB.trans (hv_.mono HB.size)
  clear hv_
  have e0 := fb.c0
  have e1 := fb.c1
  have e2 := fb.c2
  have e3 := fb.c3
  have f0 := fc.c0
  have f1 := fc.c1
  have f2 := fc.c2
  have f3 := fc.c3
  have lt_e0 := cell_lt e0
  have lt_f0 := cell_lt f0
  go_wp2_with fail
  refine (HH5.out _ _ _ _ _ _ _ _ _ fb.m fb.n fc.m fc.n).mono ?_
  rintro e v5 ⟨rfl, h_⟩
  clear e0 e1 e2 e3 f0 f1 f2 f3 lt_e0 lt_f0
  have hv_ : Below v4.heap.size v4 v5 := Below.trans (b := _) (by repeat (first | assumption | exact Below.refl _ _ | refine Below.alloc ?_ (by simp; try omega) _ | refine Below.drew ?_ | refine below_drewN ?_ _)) (h_.mono (by simp; try omega))
  replace fa := fa.below hv_
  replace fb := fb.below hv_
  replace fc := fc.below hv_
  replace HB := HB.trans (hv_.mono HB.size)
  clear hv_
  have e0 := fa.c0
  have e1 := fa.c1
  have e2 := fa.c2
  have e3 := fa.c3
  have f0 := fc.c0
  have f1 := fc.c1
  have f2 := fc.c2
  have f3 := fc.c3
  have lt_e0 := cell_lt e0
  have lt_f0 := cell_lt f0
  go_wp2_with fail
  refine (HH6.out _ _ _ _ _ _ _ _ _ fa.m fa.n fc.m fc.n).mono ?_
  rintro e v6 ⟨rfl, h_⟩
  clear e0 e1 e2 e3 f0 f1 f2 f3 lt_e0 lt_f0
  have hv_ : Below v5.heap.size v5 v6 := Below.trans (b := _) (by repeat (first | assumption | exact Below.refl _ _ | refine Below.alloc ?_ (by simp; try omega) _ | refine Below.drew ?_ | refine below_drewN ?_ _)) (h_.mono (by simp; try omega))
  replace fa := fa.below hv_
  replace fb := fb.below hv_
  replace fc := fc.below hv_
  replace HB := HB.trans (hv_.mono HB.size)
  clear hv_
  have e0 := fa.c0
  have e1 := fa.c1
  have e2 := fa.c2
  have e3 := fa.c3
  have f0 := fb.c0
  have f1 := fb.c1
  have f2 := fb.c2
  have f3 := fb.c3
  have lt_e0 := cell_lt e0
  have lt_f0 := cell_lt f0
  go_wp2_with fail
  refine (HH7.out _ _ _ _ _ _ _ _ _ fa.m fa.n fb.m fb.n).mono ?_
  rintro e v7 ⟨R7_, c7_, Q7_, d7_, rfl, m_, n_, h_⟩
  clear e0 e1 e2 e3 f0 f1 f2 f3 lt_e0 lt_f0
  have hv_ : Below v6.heap.size v6 v7 := Below.trans (b := _) (by repeat (first | assumption | exact Below.refl _ _ | refine Below.alloc ?_ (by simp; try omega) _ | refine Below.drew ?_ | refine below_drewN ?_ _)) (h_.mono (by simp; try omega))
  replace fa := fa.below hv_
  replace fb := fb.below hv_
  replace fc := fc.below hv_
  replace HB := HB.trans (hv_.mono HB.size)
  clear hv_
  go_upto_region 8 with fail
  have od : Fb (v7.alloc (.cells #[.bool bd, .slice R7_ kd c7_, .bool false, .slice Q7_ ld d7_] 26)) v7.heap.size bd R7_ kd c7_ Xd Q7_ ld d7_ Yd := ⟨at_allocF0 rfl, at_allocF1 rfl, at_allocF2 rfl, at_allocF3 rfl, m_.alloc, n_.alloc⟩
  have hv_ : Below v7.heap.size v7 (v7.alloc (.cells #[.bool bd, .slice R7_ kd c7_, .bool false, .slice Q7_ ld d7_] 26)) := (Below.refl _ _).alloc (Nat.le_refl _) _
  generalize v7.alloc (.cells #[.bool bd, .slice R7_ kd c7_, .bool false, .slice Q7_ ld d7_] 26) = u7 at *
  replace fa := fa.below hv_
  replace fb := fb.below hv_
  replace fc := fc.below hv_
  replace HB := HB.trans (hv_.mono HB.size)
  clear hv_ m_ n_
  have e0 := fa.c0
  have e1 := fa.c1
  have e2 := fa.c2
  have e3 := fa.c3
  have f0 := fc.c0
  have f1 := fc.c1
  have f2 := fc.c2
  have f3 := fc.c3
  have lt_e0 := cell_lt e0
  have lt_f0 := cell_lt f0
  go_wp2_with fail
  refine (HH8.out _ _ _ _ _ _ _ _ _ fa.m fa.n fc.m fc.n).mono ?_
  rintro e v8 ⟨R8_, c8_, Q8_, d8_, rfl, m_, n_, h_⟩
  clear e0 e1 e2 e3 f0 f1 f2 f3 lt_e0 lt_f0
  have hv_ : Below u7.heap.size u7 v8 := Below.trans (b := _) (by repeat (first | assumption | exact Below.refl _ _ | refine Below.alloc ?_ (by simp; try omega) _ | refine Below.drew ?_ | refine below_drewN ?_ _)) (h_.mono (by simp; try omega))
  replace fa := fa.below hv_
  replace fb := fb.below hv_
  replace fc := fc.below hv_
  replace od := od.below hv_
  replace HB := HB.trans (hv_.mono HB.size)
  clear hv_
  go_upto_region 9 with fail
  have ox : Fb (v8.alloc (.cells #[.bool bx, .slice R8_ kx c8_, .bool false, .slice Q8_ lx d8_] 26)) v8.heap.size bx R8_ kx c8_ Xx Q8_ lx d8_ Yx := ⟨at_allocF0 rfl, at_allocF1 rfl, at_allocF2 rfl, at_allocF3 rfl, m_.alloc, n_.alloc⟩
  have hv_ : Below v8.heap.size v8 (v8.alloc (.cells #[.bool bx, .slice R8_ kx c8_, .bool false, .slice Q8_ lx d8_] 26)) := (Below.refl _ _).alloc (Nat.le_refl _) _
  generalize v8.alloc (.cells #[.bool bx, .slice R8_ kx c8_, .bool false, .slice Q8_ lx d8_] 26) = u8 at *
  replace fa := fa.below hv_
  replace fb := fb.below hv_
  replace fc := fc.below hv_
  replace od := od.below hv_
  replace HB := HB.trans (hv_.mono HB.size)
  clear hv_ m_ n_
  have e0 := fb.c0
  have e1 := fb.c1
  have e2 := fb.c2
  have e3 := fb.c3
  have f0 := fc.c0
  have f1 := fc.c1
  have f2 := fc.c2
  have f3 := fc.c3
  have lt_e0 := cell_lt e0
  have lt_f0 := cell_lt f0
  go_wp2_with fail
  refine (HH9.out _ _ _ _ _ _ _ _ _ fb.m fb.n fc.m fc.n).mono ?_
  rintro e v9 ⟨R9_, c9_, Q9_, d9_, rfl, m_, n_, h_⟩
  clear e0 e1 e2 e3 f0 f1 f2 f3 lt_e0 lt_f0
  have hv_ : Below u8.heap.size u8 v9 := Below.trans (b := _) (by repeat (first | assumption | exact Below.refl _ _ | refine Below.alloc ?_ (by simp; try omega) _ | refine Below.drew ?_ | refine below_drewN ?_ _)) (h_.mono (by simp; try omega))
  replace fa := fa.below hv_
  replace fb := fb.below hv_
  replace od := od.below hv_
  replace ox := ox.below hv_
  replace HB := HB.trans (hv_.mono HB.size)
  clear hv_
  go_upto_region 10 with fail
  have oy : Fb (v9.alloc (.cells #[.bool byy, .slice R9_ kyy c9_, .bool false, .slice Q9_ lyy d9_] 26)) v9.heap.size byy R9_ kyy c9_ Xyy Q9_ lyy d9_ Yyy := ⟨at_allocF0 rfl, at_allocF1 rfl, at_allocF2 rfl, at_allocF3 rfl, m_.alloc, n_.alloc⟩
  have hv_ : Below v9.heap.size v9 (v9.alloc (.cells #[.bool byy, .slice R9_ kyy c9_, .bool false, .slice Q9_ lyy d9_] 26)) := (Below.refl _ _).alloc (Nat.le_refl _) _
  generalize v9.alloc (.cells #[.bool byy, .slice R9_ kyy c9_, .bool false, .slice Q9_ lyy d9_] 26) = u9 at *
  replace fa := fa.below hv_
  replace fb := fb.below hv_
  replace od := od.below hv_
  replace ox := ox.below hv_
  replace HB := HB.trans (hv_.mono HB.size)
  clear hv_ m_ n_
  have e0 := ox.c0
  have e1 := ox.c1
  have e2 := ox.c2
  have e3 := ox.c3
  have f0 := oy.c0
  have f1 := oy.c1
  have f2 := oy.c2
  have f3 := oy.c3
  have lt_e0 := cell_lt e0
  have lt_f0 := cell_lt f0
  go_wp2_with fail
  refine (HH10.out _ _ _ _ _ _ _ _ _ ox.m ox.n oy.m oy.n).mono ?_
  rintro e x1 ⟨rfl, h_⟩
  clear e0 e1 e2 e3 f0 f1 f2 f3 lt_e0 lt_f0
  have hv_ : Below u9.heap.size u9 x1 := Below.trans (b := _) (by repeat (first | assumption | exact Below.refl _ _ | refine Below.alloc ?_ (by simp; try omega) _ | refine Below.drew ?_ | refine below_drewN ?_ _)) (h_.mono (by simp; try omega))
  replace fa := fa.below hv_
  replace fb := fb.below hv_
  replace od := od.below hv_
  replace HB := HB.trans (hv_.mono HB.size)
  clear hv_
  have e0 := od.c0
  have e1 := od.c1
  have e2 := od.c2
  have e3 := od.c3
  have q0 := fa.c0
  have q1 := fa.c1
  have q2 := fa.c2
  have q3 := fa.c3
  have r0 := fb.c0
  have r1 := fb.c1
  have r2 := fb.c2
  have r3 := fb.c3
  have lt_e0 := cell_lt e0
  have lt_q0 := cell_lt q0
  have lt_r0 := cell_lt r0
  rcases HZ.out with ⟨rfl, rfl, rfl, rfl, hk, rfl⟩ | ⟨rfl, rfl, rfl, rfl, hk, rfl, h3⟩ | ⟨rfl, rfl, rfl, rfl, rfl, rfl, h3⟩
  · clear HZ
    have hk2 : ((kd : Int) == 0) = false := by rw [beq_eq_false_iff_ne]; omega
    clear hk
    go_wp2_with fail
    refine (HS1.out _ _ _ _ _ _ _ _ _ fa.m fa.n fb.m fb.n).mono ?_
    rintro e x2 ⟨rfl, h_⟩
    have hv_ : Below x1.heap.size x1 x2 := Below.trans (b := _) (by repeat (first | assumption | exact Below.refl _ _ | refine Below.alloc ?_ (by simp; try omega) _ | refine Below.drew ?_ | refine below_drewN ?_ _)) (h_.mono (by simp; try omega))
    replace HB := HB.trans (hv_.mono HB.size)
    clear hv_
    go_wp2_with fail
    refine (HE.out _ HB).mono ?_
    rintro e we ⟨rfl, hwe⟩
    go_wp2
    go_ret
    exact ⟨rfl, bel_step HB hwe⟩
  · clear HZ
    rcases h3 with rfl | ⟨hz3, rfl⟩
    · have hk2 : ((kd : Int) == 0) = false := by rw [beq_eq_false_iff_ne]; omega
      clear hk
      go_wp2_with fail
      refine (HS1.out _ _ _ _ _ _ _ _ _ fa.m fa.n fb.m fb.n).mono ?_
      rintro e x2 ⟨rfl, h_⟩
      have hv_ : Below x1.heap.size x1 x2 := Below.trans (b := _) (by repeat (first | assumption | exact Below.refl _ _ | refine Below.alloc ?_ (by simp; try omega) _ | refine Below.drew ?_ | refine below_drewN ?_ _)) (h_.mono (by simp; try omega))
      replace HB := HB.trans (hv_.mono HB.size)
      clear hv_
      go_wp2_with fail
      refine (HE.out _ HB).mono ?_
      rintro e we ⟨rfl, hwe⟩
      go_wp2
      go_ret
      exact ⟨rfl, bel_step HB hwe⟩
    · have hk2 : ((kd : Int) == 0) = false := by rw [beq_eq_false_iff_ne]; omega
      clear hk
      go_wp2_with fail
      refine (HS1.out _ _ _ _ _ _ _ _ _ fa.m fa.n fb.m fb.n).mono ?_
      rintro e x2 ⟨rfl, h_⟩
      have hv_ : Below x1.heap.size x1 x2 := Below.trans (b := _) (by repeat (first | assumption | exact Below.refl _ _ | refine Below.alloc ?_ (by simp; try omega) _ | refine Below.drew ?_ | refine below_drewN ?_ _)) (h_.mono (by simp; try omega))
      replace HB := HB.trans (hv_.mono HB.size)
      clear hv_
      go_wp2_with fail
      refine (HE.out _ HB).mono ?_
      rintro e we ⟨rfl, hwe⟩
      go_wp2
      go_ret
      exact ⟨rfl, bel_step HB hwe⟩
  · clear HZ
    rcases h3 with rfl | ⟨rfl, rfl⟩ | ⟨rfl, rfl⟩
    · go_wp2_with fail
      refine (HS1.out _ _ _ _ _ _ _ _ _ fa.m fa.n fb.m fb.n).mono ?_
      rintro e x2 ⟨rfl, h_⟩
      have hv_ : Below x1.heap.size x1 x2 := Below.trans (b := _) (by repeat (first | assumption | exact Below.refl _ _ | refine Below.alloc ?_ (by simp; try omega) _ | refine Below.drew ?_ | refine below_drewN ?_ _)) (h_.mono (by simp; try omega))
      replace HB := HB.trans (hv_.mono HB.size)
      clear hv_
      go_wp2_with fail
      refine (HE.out _ HB).mono ?_
      rintro e we ⟨rfl, hwe⟩
      go_wp2
      go_ret
      exact ⟨rfl, bel_step HB hwe⟩
    · go_wp2_with fail
      refine (HS1.out _ _ _ _ _ _ _ _ _ fa.m fa.n fb.m fb.n).mono ?_
      rintro e x2 ⟨rfl, h_⟩
      have hv_ : Below x1.heap.size x1 x2 := Below.trans (b := _) (by repeat (first | assumption | exact Below.refl _ _ | refine Below.alloc ?_ (by simp; try omega) _ | refine Below.drew ?_ | refine below_drewN ?_ _)) (h_.mono (by simp; try omega))
      replace HB := HB.trans (hv_.mono HB.size)
      clear hv_
      go_wp2_with fail
      refine (HE.out _ HB).mono ?_
      rintro e we ⟨rfl, hwe⟩
      go_wp2
      go_ret
      exact ⟨rfl, bel_step HB hwe⟩
    · go_wp2_with fail
      refine (HS1.out _ _ _ _ _ _ _ _ _ fa.m fa.n fb.m fb.n).mono ?_
      rintro e x2 ⟨rfl, h_⟩
      have hv_ : Below x1.heap.size x1 x2 := Below.trans (b := _) (by repeat (first | assumption | exact Below.refl _ _ | refine Below.alloc ?_ (by simp; try omega) _ | refine Below.drew ?_ | refine below_drewN ?_ _)) (h_.mono (by simp; try omega))
      replace HB := HB.trans (hv_.mono HB.size)
      clear hv_
      go_wp2_with fail
      refine (HE.out _ HB).mono ?_
      rintro e we ⟨rfl, hwe⟩
      go_wp2
      go_ret
      exact ⟨rfl, bel_step HB hwe⟩
end Go.Proofs.YtfhbigfbeppinaaGreatDoor
