/- The fractions' reference: walks of Cmp, floor, Floor, Round, SameInt, Same. Conditions: none. -/
import Derived.Test.YtfhbigfbeppinaaGreatDoorZQ3H
set_option linter.unusedVariables false
set_option linter.unusedSimpArgs false
namespace Go.Proofs.YtfhbigfbeppinaaGreatDoor
open Go.RowKit Big

theorem RetIE.mk {w w' : World} {z err : Int} (h : Below w.heap.size w w') : RetIE w z err (.returned (.tuple #[.int .i64 z, .int .i64 err])) w' := ⟨rfl, h⟩
set_option maxRecDepth 100000 in
set_option maxHeartbeats 4000000 in
theorem QCmp_any {na nb nc nd : Bool} {xs ys us vs : List Nat} {A B C D : Option Addr} {ca cb cc cd : Nat} {w : World} (ma : Mg w A ca xs) (mb : Mg w B cb ys) (mc : Mg w C cc us) (md : Mg w D cd vs) :
    Calls Tryz.prog 45 #[.agg #[.bool na, .slice A xs.length ca, .bool nb, .slice B ys.length cb], .agg #[.bool nc, .slice C us.length cc, .bool nd, .slice D vs.length cd]] w (RetIE w (cmpR na xs nb ys nc us nd vs).1 (cmpR na xs nb ys nc us nd vs).2) := by
  have HX := hid fun (w1 : World) (h : Below w.heap.size w w1) => Qvalid_any (na := na) (nb := nb) (w := w1) (ma.below h) (mb.below h)
  have HY := hid fun (w1 : World) (h : Below w.heap.size w w1) => Qvalid_any (na := nc) (nb := nd) (w := w1) (mc.below h) (md.below h)
  cases v1 : fvB na xs nb ys
  · have hr_ : cmpR na xs nb ys nc us nd vs = (0, 1) := by unfold cmpR; rw [v1]; rfl
    rw [hr_]
    rw [v1] at HX
    clear hr_ v1 ma mb mc md HY
    generalize xs.length = ka at *
    generalize ys.length = la at *
    generalize us.length = kb at *
    generalize vs.length = lb at *
    go_enter Tryz.func45, Tryz.ntmps45
    go_wp2_with fail
    refine enterFF (P := fun u => Calls _ _ _ u _) ?_
    intro u HB q0 q1 q2 q3 r0 r1 r2 r3 z1 z2 hsz
    clear hsz
    have f_z1 := z1.fr
    have f_z2 := z2.fr
    have lt_q0 := cell_lt q0
    have lt_r0 := cell_lt r0
    refine (HX.out _ HB).mono ?_
    rintro e w1 ⟨rfl, h1⟩
    have hv_ : Below u.heap.size u w1 := Below.trans (b := _) (by repeat (first | assumption | exact Below.refl _ _ | refine Below.alloc ?_ (by simp; try omega) _ | refine Below.drew ?_ | refine below_drewN ?_ _)) (h1.mono (by simp; try omega))
    replace q0 := keep_cell hv_ q0
    replace q1 := keep_cell hv_ q1
    replace q2 := keep_cell hv_ q2
    replace q3 := keep_cell hv_ q3
    replace r0 := keep_cell hv_ r0
    replace r1 := keep_cell hv_ r1
    replace r2 := keep_cell hv_ r2
    replace r3 := keep_cell hv_ r3
    have lt_q0 := cell_lt q0
    have lt_q1 := cell_lt q1
    have lt_q2 := cell_lt q2
    have lt_q3 := cell_lt q3
    have lt_r0 := cell_lt r0
    have lt_r1 := cell_lt r1
    have lt_r2 := cell_lt r2
    have lt_r3 := cell_lt r3
    replace z1 := z1.below hv_
    replace z2 := z2.below hv_
    replace f_z1 := z1.fr
    replace f_z2 := z2.fr
    replace HB := HB.trans (hv_.mono HB.size)
    clear hv_
    go_wp2
    go_ret2
    exact ⟨rfl, HB⟩
  · rw [v1] at HX
    cases v2 : fvB nc us nd vs
    · have hr_ : cmpR na xs nb ys nc us nd vs = (0, 1) := by unfold cmpR; rw [v1, v2]; rfl
      rw [hr_]
      rw [v2] at HY
      clear hr_ v1 v2 ma mb mc md
      generalize xs.length = ka at *
      generalize ys.length = la at *
      generalize us.length = kb at *
      generalize vs.length = lb at *
      go_enter Tryz.func45, Tryz.ntmps45
      go_wp2_with fail
      refine enterFF (P := fun u => Calls _ _ _ u _) ?_
      intro u HB q0 q1 q2 q3 r0 r1 r2 r3 z1 z2 hsz
      clear hsz
      have f_z1 := z1.fr
      have f_z2 := z2.fr
      have lt_q0 := cell_lt q0
      have lt_r0 := cell_lt r0
      refine (HX.out _ HB).mono ?_
      rintro e w1 ⟨rfl, h1⟩
      have hv_ : Below u.heap.size u w1 := Below.trans (b := _) (by repeat (first | assumption | exact Below.refl _ _ | refine Below.alloc ?_ (by simp; try omega) _ | refine Below.drew ?_ | refine below_drewN ?_ _)) (h1.mono (by simp; try omega))
      replace q0 := keep_cell hv_ q0
      replace q1 := keep_cell hv_ q1
      replace q2 := keep_cell hv_ q2
      replace q3 := keep_cell hv_ q3
      replace r0 := keep_cell hv_ r0
      replace r1 := keep_cell hv_ r1
      replace r2 := keep_cell hv_ r2
      replace r3 := keep_cell hv_ r3
      have lt_q0 := cell_lt q0
      have lt_q1 := cell_lt q1
      have lt_q2 := cell_lt q2
      have lt_q3 := cell_lt q3
      have lt_r0 := cell_lt r0
      have lt_r1 := cell_lt r1
      have lt_r2 := cell_lt r2
      have lt_r3 := cell_lt r3
      replace z1 := z1.below hv_
      replace z2 := z2.below hv_
      replace f_z1 := z1.fr
      replace f_z2 := z2.fr
      replace HB := HB.trans (hv_.mono HB.size)
      clear hv_
      go_wp2_with fail
      refine (HY.out _ HB).mono ?_
      rintro e w2 ⟨rfl, h2⟩
      have hv_ : Below w1.heap.size w1 w2 := Below.trans (b := _) (by repeat (first | assumption | exact Below.refl _ _ | refine Below.alloc ?_ (by simp; try omega) _ | refine Below.drew ?_ | refine below_drewN ?_ _)) (h2.mono (by simp; try omega))
      replace q0 := keep_cell hv_ q0
      replace q1 := keep_cell hv_ q1
      replace q2 := keep_cell hv_ q2
      replace q3 := keep_cell hv_ q3
      replace r0 := keep_cell hv_ r0
      replace r1 := keep_cell hv_ r1
      replace r2 := keep_cell hv_ r2
      replace r3 := keep_cell hv_ r3
      have lt_q0 := cell_lt q0
      have lt_q1 := cell_lt q1
      have lt_q2 := cell_lt q2
      have lt_q3 := cell_lt q3
      have lt_r0 := cell_lt r0
      have lt_r1 := cell_lt r1
      have lt_r2 := cell_lt r2
      have lt_r3 := cell_lt r3
      replace z1 := z1.below hv_
      replace z2 := z2.below hv_
      replace f_z1 := z1.fr
      replace f_z2 := z2.fr
      replace HB := HB.trans (hv_.mono HB.size)
      clear hv_
      go_wp2
      go_ret2
      exact ⟨rfl, HB⟩
    · rw [v2] at HY
      obtain ⟨rfl, p1, p2, p3, p4, p5, p6⟩ := fvB_ok ma.ok mb.ok v1
      obtain ⟨rfl, p7, p8, p9, p10, p11, p12⟩ := fvB_ok mc.ok md.ok v2
      have hr_ : cmpR na xs false ys nc us false vs = (cmpF (sg na (val xs), val ys) (sg nc (val us), val vs), 0) := by unfold cmpR; rw [v1, v2]; rfl
      rw [hr_]
      have IF : Hid (Fz (sg na (val xs), val ys) na xs.length xs ys.length ys) := ⟨p1, by rw [natAbs_sg]; exact p2, rfl, p3, rfl⟩
      have IG : Hid (Fz (sg nc (val us), val vs) nc us.length us vs.length vs) := ⟨p7, by rw [natAbs_sg]; exact p8, rfl, p9, rfl⟩
      generalize (sg na (val xs), val ys) = f at *
      generalize (sg nc (val us), val vs) = g at *
      clear hr_ v1 v2 p1 p2 p3 p4 p7 p8 p9 p10
      generalize xs.length = ka at *
      generalize ys.length = la at *
      generalize us.length = kb at *
      generalize vs.length = lb at *
      obtain ⟨r, q, hrq⟩ : ∃ r q, sumS na (f.1.natAbs * g.2) (nc != true) (g.1.natAbs * f.2) = (r, q) := ⟨_, _, rfl⟩
      have hsg : sg r q = f.1 * g.2 - g.1 * f.2 := by
        have h := sumS_sg na (nc != true) (f.1.natAbs * g.2) (g.1.natAbs * f.2)
        rw [hrq] at h
        rw [h, IF.out.sgn, sg_flip, IG.out.sgn]; omega
      obtain ⟨k3, L3, I3⟩ := lz q
      have HA := hid fun (w1 : World) (h : Below w.heap.size w w1) => Qadded_g (w := w1) IF.out IG.out (ma.below h) (mb.below h) (mc.below h) (md.below h) p5 p6 p11 p12 hrq I3.out
      have hc := cmp_sub hsg
      clear hrq hsg ma mb mc md
      generalize cmpF f g = z at *
      by_cases hq0 : q = 0
      · have hk : k3 = 0 := I3.out.zero.2 hq0
        have hz := hc.1 hq0
        subst hk
        subst hz
        clear hc hq0 I3 IF IG
        go_enter Tryz.func45, Tryz.ntmps45
        go_wp2_with fail
        refine enterFF (P := fun u => Calls _ _ _ u _) ?_
        intro u HB q0 q1 q2 q3 r0 r1 r2 r3 z1 z2 hsz
        clear hsz
        have f_z1 := z1.fr
        have f_z2 := z2.fr
        have lt_q0 := cell_lt q0
        have lt_r0 := cell_lt r0
        refine (HX.out _ HB).mono ?_
        rintro e w1 ⟨rfl, h1⟩
        have hv_ : Below u.heap.size u w1 := Below.trans (b := _) (by repeat (first | assumption | exact Below.refl _ _ | refine Below.alloc ?_ (by simp; try omega) _ | refine Below.drew ?_ | refine below_drewN ?_ _)) (h1.mono (by simp; try omega))
        replace q0 := keep_cell hv_ q0
        replace q1 := keep_cell hv_ q1
        replace q2 := keep_cell hv_ q2
        replace q3 := keep_cell hv_ q3
        replace r0 := keep_cell hv_ r0
        replace r1 := keep_cell hv_ r1
        replace r2 := keep_cell hv_ r2
        replace r3 := keep_cell hv_ r3
        have lt_q0 := cell_lt q0
        have lt_q1 := cell_lt q1
        have lt_q2 := cell_lt q2
        have lt_q3 := cell_lt q3
        have lt_r0 := cell_lt r0
        have lt_r1 := cell_lt r1
        have lt_r2 := cell_lt r2
        have lt_r3 := cell_lt r3
        replace z1 := z1.below hv_
        replace z2 := z2.below hv_
        replace f_z1 := z1.fr
        replace f_z2 := z2.fr
        replace HB := HB.trans (hv_.mono HB.size)
        clear hv_
        go_wp2_with fail
        refine (HY.out _ HB).mono ?_
        rintro e w2 ⟨rfl, h2⟩
        have hv_ : Below w1.heap.size w1 w2 := Below.trans (b := _) (by repeat (first | assumption | exact Below.refl _ _ | refine Below.alloc ?_ (by simp; try omega) _ | refine Below.drew ?_ | refine below_drewN ?_ _)) (h2.mono (by simp; try omega))
        replace q0 := keep_cell hv_ q0
        replace q1 := keep_cell hv_ q1
        replace q2 := keep_cell hv_ q2
        replace q3 := keep_cell hv_ q3
        replace r0 := keep_cell hv_ r0
        replace r1 := keep_cell hv_ r1
        replace r2 := keep_cell hv_ r2
        replace r3 := keep_cell hv_ r3
        have lt_q0 := cell_lt q0
        have lt_q1 := cell_lt q1
        have lt_q2 := cell_lt q2
        have lt_q3 := cell_lt q3
        have lt_r0 := cell_lt r0
        have lt_r1 := cell_lt r1
        have lt_r2 := cell_lt r2
        have lt_r3 := cell_lt r3
        replace z1 := z1.below hv_
        replace z2 := z2.below hv_
        replace f_z1 := z1.fr
        replace f_z2 := z2.fr
        replace HB := HB.trans (hv_.mono HB.size)
        clear hv_
        go_wp2_with fail
        refine (HA.out _ HB).mono ?_
        rintro e w3 ⟨R1, c1, rfl, m1, h3⟩
        have hv_ : Below w2.heap.size w2 w3 := Below.trans (b := _) (by repeat (first | assumption | exact Below.refl _ _ | refine Below.alloc ?_ (by simp; try omega) _ | refine Below.drew ?_ | refine below_drewN ?_ _)) (h3.mono (by simp; try omega))
        replace q0 := keep_cell hv_ q0
        replace q1 := keep_cell hv_ q1
        replace q2 := keep_cell hv_ q2
        replace q3 := keep_cell hv_ q3
        replace r0 := keep_cell hv_ r0
        replace r1 := keep_cell hv_ r1
        replace r2 := keep_cell hv_ r2
        replace r3 := keep_cell hv_ r3
        have lt_q0 := cell_lt q0
        have lt_q1 := cell_lt q1
        have lt_q2 := cell_lt q2
        have lt_q3 := cell_lt q3
        have lt_r0 := cell_lt r0
        have lt_r1 := cell_lt r1
        have lt_r2 := cell_lt r2
        have lt_r3 := cell_lt r3
        replace z1 := z1.below hv_
        replace z2 := z2.below hv_
        replace f_z1 := z1.fr
        replace f_z2 := z2.fr
        replace HB := HB.trans (hv_.mono HB.size)
        clear hv_
        go_wp2
        go_ret2
        exact ⟨rfl, HB⟩
      · have hk : ((k3 : Int) == 0) = false := by rw [beq_eq_false_iff_ne]; have : k3 ≠ 0 := fun h => hq0 (I3.out.zero.1 h); omega
        have hzz : (r = true ∧ z = -1) ∨ (r = false ∧ z = 1) := by
          cases hr : r
          · exact .inr ⟨rfl, hc.2.2 hq0 hr⟩
          · exact .inl ⟨rfl, hc.2.1 hq0 hr⟩
        clear hc hq0 I3 IF IG
        rcases hzz with ⟨rfl, rfl⟩ | ⟨rfl, rfl⟩
        all_goals
          go_enter Tryz.func45, Tryz.ntmps45
          go_wp2_with fail
          refine enterFF (P := fun u => Calls _ _ _ u _) ?_
          intro u HB q0 q1 q2 q3 r0 r1 r2 r3 z1 z2 hsz
          clear hsz
          have f_z1 := z1.fr
          have f_z2 := z2.fr
          have lt_q0 := cell_lt q0
          have lt_r0 := cell_lt r0
          refine (HX.out _ HB).mono ?_
          rintro e w1 ⟨rfl, h1⟩
          have hv_ : Below u.heap.size u w1 := Below.trans (b := _) (by repeat (first | assumption | exact Below.refl _ _ | refine Below.alloc ?_ (by simp; try omega) _ | refine Below.drew ?_ | refine below_drewN ?_ _)) (h1.mono (by simp; try omega))
          replace q0 := keep_cell hv_ q0
          replace q1 := keep_cell hv_ q1
          replace q2 := keep_cell hv_ q2
          replace q3 := keep_cell hv_ q3
          replace r0 := keep_cell hv_ r0
          replace r1 := keep_cell hv_ r1
          replace r2 := keep_cell hv_ r2
          replace r3 := keep_cell hv_ r3
          have lt_q0 := cell_lt q0
          have lt_q1 := cell_lt q1
          have lt_q2 := cell_lt q2
          have lt_q3 := cell_lt q3
          have lt_r0 := cell_lt r0
          have lt_r1 := cell_lt r1
          have lt_r2 := cell_lt r2
          have lt_r3 := cell_lt r3
          replace z1 := z1.below hv_
          replace z2 := z2.below hv_
          replace f_z1 := z1.fr
          replace f_z2 := z2.fr
          replace HB := HB.trans (hv_.mono HB.size)
          clear hv_
          go_wp2_with fail
          refine (HY.out _ HB).mono ?_
          rintro e w2 ⟨rfl, h2⟩
          have hv_ : Below w1.heap.size w1 w2 := Below.trans (b := _) (by repeat (first | assumption | exact Below.refl _ _ | refine Below.alloc ?_ (by simp; try omega) _ | refine Below.drew ?_ | refine below_drewN ?_ _)) (h2.mono (by simp; try omega))
          replace q0 := keep_cell hv_ q0
          replace q1 := keep_cell hv_ q1
          replace q2 := keep_cell hv_ q2
          replace q3 := keep_cell hv_ q3
          replace r0 := keep_cell hv_ r0
          replace r1 := keep_cell hv_ r1
          replace r2 := keep_cell hv_ r2
          replace r3 := keep_cell hv_ r3
          have lt_q0 := cell_lt q0
          have lt_q1 := cell_lt q1
          have lt_q2 := cell_lt q2
          have lt_q3 := cell_lt q3
          have lt_r0 := cell_lt r0
          have lt_r1 := cell_lt r1
          have lt_r2 := cell_lt r2
          have lt_r3 := cell_lt r3
          replace z1 := z1.below hv_
          replace z2 := z2.below hv_
          replace f_z1 := z1.fr
          replace f_z2 := z2.fr
          replace HB := HB.trans (hv_.mono HB.size)
          clear hv_
          go_wp2_with fail
          refine (HA.out _ HB).mono ?_
          rintro e w3 ⟨R1, c1, rfl, m1, h3⟩
          have hv_ : Below w2.heap.size w2 w3 := Below.trans (b := _) (by repeat (first | assumption | exact Below.refl _ _ | refine Below.alloc ?_ (by simp; try omega) _ | refine Below.drew ?_ | refine below_drewN ?_ _)) (h3.mono (by simp; try omega))
          replace q0 := keep_cell hv_ q0
          replace q1 := keep_cell hv_ q1
          replace q2 := keep_cell hv_ q2
          replace q3 := keep_cell hv_ q3
          replace r0 := keep_cell hv_ r0
          replace r1 := keep_cell hv_ r1
          replace r2 := keep_cell hv_ r2
          replace r3 := keep_cell hv_ r3
          have lt_q0 := cell_lt q0
          have lt_q1 := cell_lt q1
          have lt_q2 := cell_lt q2
          have lt_q3 := cell_lt q3
          have lt_r0 := cell_lt r0
          have lt_r1 := cell_lt r1
          have lt_r2 := cell_lt r2
          have lt_r3 := cell_lt r3
          replace z1 := z1.below hv_
          replace z2 := z2.below hv_
          replace f_z1 := z1.fr
          replace f_z2 := z2.fr
          replace HB := HB.trans (hv_.mono HB.size)
          clear hv_
          go_wp2
          go_ret2
          exact ⟨rfl, HB⟩
set_option maxRecDepth 100000 in
set_option maxHeartbeats 4000000 in
theorem Qfloor_g {neg b : Bool} {n d : Nat} {z : Int} {A B : Option Addr} {ca cb k k2 k3 : Nat} {L L2 L3 : List Nat} {w : World} (hx : Lz n k L) (hy : Lz d k2 L2) (ha : Mg w A ca L) (hb : Mg w B cb L2) (hs : k ≤ 40000) (ht : k2 ≤ 40000) (hd : d ≠ 0)
    (hz : Iz z b k3 L3) (he : sg neg n / (d : Int) = z) : Calls Tryz.prog 81 #[.bool neg, .slice A k ca, .slice B k2 cb] w (GZ w b k3 L3) := by
  obtain ⟨kq, Lq, Iq⟩ := lz (n / d)
  obtain ⟨kr, Lr, Ir⟩ := lz (n % d)
  have HD := hid fun (w1 : World) (h : Below w.heap.size w w1) => Qdivide_g (w := w1) hx hy (ha.below h) (hb.below h) (by omega) (by omega) Iq.out Ir.out hd
  have hkq : kq ≤ 50000 := by have := Iq.out.mono hx (Nat.div_le_self _ _); omega
  rw [floor_sg hd] at he
  clear ha hb
  cases neg
  · rw [if_neg (by simp)] at he
    subst he
    obtain ⟨rfl, h2, rfl⟩ := hz
    rw [natAbs_sg] at h2
    obtain rfl : L3 = Lq := h2.trans Iq.out.hL.symm
    have hk : L3.length = kq := Iq.out.hk.symm
    rw [hk, sgf (n / d)]
    clear h2 hk hx hy Iq Ir hs ht hd
    go_enter Tryz.func81, Tryz.ntmps81
    go_wp2_with fail
    refine enterI (P := fun u => Calls _ _ _ u _) ?_
    intro u HB q0 q1 z1 hsz
    clear hsz
    have f_z1 := z1.fr
    have lt_q0 := cell_lt q0
    refine (HD.out _ HB).mono ?_
    rintro e w1 ⟨R1, cQ, R2, c2, rfl, mQ, m2, h1⟩
    have hv_ : Below u.heap.size u w1 := Below.trans (b := _) (by repeat (first | assumption | exact Below.refl _ _ | refine Below.alloc ?_ (by simp; try omega) _ | refine Below.drew ?_ | refine below_drewN ?_ _)) (h1.mono (by simp; try omega))
    replace q0 := keep_cell hv_ q0
    replace q1 := keep_cell hv_ q1
    have lt_q0 := cell_lt q0
    have lt_q1 := cell_lt q1
    replace z1 := z1.below hv_
    replace f_z1 := z1.fr
    replace HB := HB.trans (hv_.mono HB.size)
    clear hv_
    go_wp2
    refine bodyPost_ret (v := .agg #[.bool false, .slice R1 kq cQ]) ?_ rfl ?_
    · simp [results, Tryz.results81, go_sem, q0, q1]
    · obtain ⟨j1_, j2_⟩ := fin_i mQ HB (Nat.le_refl _) q0 q1 (.bool false) (.slice R1 kq cQ)
      exact GZ.of j1_ j2_
  · by_cases hr : 0 < n % d
    · rw [if_pos ⟨rfl, hr⟩] at he
      subst he
      obtain ⟨rfl, h2, rfl⟩ := hz
      rw [natAbs_sg] at h2
      have hkr : 0 < kr := Nat.pos_of_ne_zero fun h => Nat.pos_iff_ne_zero.1 hr (Ir.out.zero.1 h)
      have I3 : Hid (Lz (n / d + 1) L3.length L3) := ⟨h2, rfl⟩
      have HP := hid fun (w1 : World) (R : Option Addr) (c : Nat) (m : Mg w1 R c Lq) => Qplus_g (w := w1.alloc (.cells #[.int .u32 1] 47)) Iq.out (⟨limbs_one.symm, rfl⟩ : Lz 1 1 [1]) m.alloc (mg_one w1) hkq (by omega) I3.out
      have hk0 : 0 < L3.length := Nat.pos_of_ne_zero fun h => Nat.succ_ne_zero _ (I3.out.zero.1 h)
      rw [show decide (sg true (n / d + 1) < 0) = true by rw [sg_neg _ _ (Nat.succ_ne_zero _)]]
      generalize L3.length = k3 at *
      clear h2 hx hy Iq Ir I3 hs ht hd hr
      go_enter Tryz.func81, Tryz.ntmps81
      go_wp2_with fail
      refine enterI (P := fun u => Calls _ _ _ u _) ?_
      intro u HB q0 q1 z1 hsz
      clear hsz
      have f_z1 := z1.fr
      have lt_q0 := cell_lt q0
      refine (HD.out _ HB).mono ?_
      rintro e w1 ⟨R1, c1, R2, c2, rfl, m1, m2, h1⟩
      have hv_ : Below u.heap.size u w1 := Below.trans (b := _) (by repeat (first | assumption | exact Below.refl _ _ | refine Below.alloc ?_ (by simp; try omega) _ | refine Below.drew ?_ | refine below_drewN ?_ _)) (h1.mono (by simp; try omega))
      replace q0 := keep_cell hv_ q0
      replace q1 := keep_cell hv_ q1
      have lt_q0 := cell_lt q0
      have lt_q1 := cell_lt q1
      replace z1 := z1.below hv_
      replace f_z1 := z1.fr
      replace HB := HB.trans (hv_.mono HB.size)
      clear hv_
      go_wp2_with fail
      refine (HP.out _ _ _ m1).mono ?_
      rintro e w2 ⟨R3, cQ, rfl, mQ, h2⟩
      have h2 : Below w1.heap.size w1 w2 := ((Below.refl _ _).alloc (Nat.le_refl _) _).trans (h2.mono (by simp))
      have hv_ : Below w1.heap.size w1 w2 := Below.trans (b := _) (by repeat (first | assumption | exact Below.refl _ _ | refine Below.alloc ?_ (by simp; try omega) _ | refine Below.drew ?_ | refine below_drewN ?_ _)) (h2.mono (by simp; try omega))
      replace q0 := keep_cell hv_ q0
      replace q1 := keep_cell hv_ q1
      have lt_q0 := cell_lt q0
      have lt_q1 := cell_lt q1
      replace z1 := z1.below hv_
      replace f_z1 := z1.fr
      replace HB := HB.trans (hv_.mono HB.size)
      clear hv_
      go_wp2
      refine bodyPost_ret (v := .agg #[.bool true, .slice R3 k3 cQ]) ?_ rfl ?_
      · simp [results, Tryz.results81, go_sem, q0, q1]
      · obtain ⟨j1_, j2_⟩ := fin_i mQ HB (Nat.le_refl _) q0 q1 (.bool true) (.slice R3 k3 cQ)
        exact GZ.of j1_ j2_
    · rw [if_neg (fun h => hr h.2)] at he
      subst he
      obtain ⟨rfl, h2, rfl⟩ := hz
      rw [natAbs_sg] at h2
      obtain rfl : L3 = Lq := h2.trans Iq.out.hL.symm
      have hk : L3.length = kq := Iq.out.hk.symm
      have hkr : kr = 0 := Ir.out.zero.2 (by omega)
      subst hkr
      by_cases hq0 : n / d = 0
      · have hk0 : kq = 0 := Iq.out.zero.2 hq0
        rw [hk, hq0, sg_zero]
        subst hk0
        rw [show decide ((0 : Int) < 0) = false by rfl]
        clear h2 hk hx hy Iq Ir hs ht hd hr hq0
        go_enter Tryz.func81, Tryz.ntmps81
        go_wp2_with fail
        refine enterI (P := fun u => Calls _ _ _ u _) ?_
        intro u HB q0 q1 z1 hsz
        clear hsz
        have f_z1 := z1.fr
        have lt_q0 := cell_lt q0
        refine (HD.out _ HB).mono ?_
        rintro e w1 ⟨R1, cQ, R2, c2, rfl, mQ, m2, h1⟩
        have hv_ : Below u.heap.size u w1 := Below.trans (b := _) (by repeat (first | assumption | exact Below.refl _ _ | refine Below.alloc ?_ (by simp; try omega) _ | refine Below.drew ?_ | refine below_drewN ?_ _)) (h1.mono (by simp; try omega))
        replace q0 := keep_cell hv_ q0
        replace q1 := keep_cell hv_ q1
        have lt_q0 := cell_lt q0
        have lt_q1 := cell_lt q1
        replace z1 := z1.below hv_
        replace f_z1 := z1.fr
        replace HB := HB.trans (hv_.mono HB.size)
        clear hv_
        go_wp2
        refine bodyPost_ret (v := .agg #[.bool false, .slice R1 0 cQ]) ?_ rfl ?_
        · simp [results, Tryz.results81, go_sem, q0, q1]
        · obtain ⟨j1_, j2_⟩ := fin_i mQ HB (Nat.le_refl _) q0 q1 (.bool false) (.slice R1 0 cQ)
          exact GZ.of j1_ j2_
      · have hk0 : 0 < kq := by have : kq ≠ 0 := fun h => hq0 (Iq.out.zero.1 h)
                                omega
        rw [hk, show decide (sg true (n / d) < 0) = true by rw [sg_neg _ _ hq0]]
        clear h2 hk hx hy Iq Ir hs ht hd hr hq0
        go_enter Tryz.func81, Tryz.ntmps81
        go_wp2_with fail
        refine enterI (P := fun u => Calls _ _ _ u _) ?_
        intro u HB q0 q1 z1 hsz
        clear hsz
        have f_z1 := z1.fr
        have lt_q0 := cell_lt q0
        refine (HD.out _ HB).mono ?_
        rintro e w1 ⟨R1, cQ, R2, c2, rfl, mQ, m2, h1⟩
        have hv_ : Below u.heap.size u w1 := Below.trans (b := _) (by repeat (first | assumption | exact Below.refl _ _ | refine Below.alloc ?_ (by simp; try omega) _ | refine Below.drew ?_ | refine below_drewN ?_ _)) (h1.mono (by simp; try omega))
        replace q0 := keep_cell hv_ q0
        replace q1 := keep_cell hv_ q1
        have lt_q0 := cell_lt q0
        have lt_q1 := cell_lt q1
        replace z1 := z1.below hv_
        replace f_z1 := z1.fr
        replace HB := HB.trans (hv_.mono HB.size)
        clear hv_
        go_wp2
        refine bodyPost_ret (v := .agg #[.bool true, .slice R1 kq cQ]) ?_ rfl ?_
        · simp [results, Tryz.results81, go_sem, q0, q1]
        · obtain ⟨j1_, j2_⟩ := fin_i mQ HB (Nat.le_refl _) q0 q1 (.bool true) (.slice R1 kq cQ)
          exact GZ.of j1_ j2_
set_option maxRecDepth 100000 in
set_option maxHeartbeats 4000000 in
theorem QFloor_any {na nb : Bool} {xs ys : List Nat} {A B : Option Addr} {ca cb : Nat} {w : World} (ma : Mg w A ca xs) (mb : Mg w B cb ys) :
    Calls Tryz.prog 47 #[.agg #[.bool na, .slice A xs.length ca, .bool nb, .slice B ys.length cb]] w (RetZE w (intR flrF na xs nb ys).1 (intR flrF na xs nb ys).2) := by
  have HX := hid fun (w1 : World) (h : Below w.heap.size w w1) => Qvalid_any (na := na) (nb := nb) (w := w1) (ma.below h) (mb.below h)
  cases v1 : fvB na xs nb ys
  · have hr_ : intR flrF na xs nb ys = (0, 1) := by unfold intR; rw [v1]; rfl
    rw [hr_]
    rw [v1] at HX
    clear hr_ v1 ma mb
    generalize xs.length = ka at *
    generalize ys.length = la at *
    go_enter Tryz.func47, Tryz.ntmps47
    go_wp2_with fail
    refine enterFI (P := fun u => Calls _ _ _ u _) ?_
    intro u HB q0 q1 q2 q3 r0 r1 z1 z2 hsz
    clear hsz
    have f_z1 := z1.fr
    have f_z2 := z2.fr
    have lt_q0 := cell_lt q0
    have lt_r0 := cell_lt r0
    refine (HX.out _ HB).mono ?_
    rintro e w1 ⟨rfl, h1⟩
    have hv_ : Below u.heap.size u w1 := Below.trans (b := _) (by repeat (first | assumption | exact Below.refl _ _ | refine Below.alloc ?_ (by simp; try omega) _ | refine Below.drew ?_ | refine below_drewN ?_ _)) (h1.mono (by simp; try omega))
    replace q0 := keep_cell hv_ q0
    replace q1 := keep_cell hv_ q1
    replace q2 := keep_cell hv_ q2
    replace q3 := keep_cell hv_ q3
    replace r0 := keep_cell hv_ r0
    replace r1 := keep_cell hv_ r1
    have lt_q0 := cell_lt q0
    have lt_q1 := cell_lt q1
    have lt_q2 := cell_lt q2
    have lt_q3 := cell_lt q3
    have lt_r0 := cell_lt r0
    have lt_r1 := cell_lt r1
    replace z1 := z1.below hv_
    replace z2 := z2.below hv_
    replace f_z1 := z1.fr
    replace f_z2 := z2.fr
    replace HB := HB.trans (hv_.mono HB.size)
    clear hv_
    go_wp2
    refine bodyPost_ret (v := .tuple #[.agg #[.bool false, .slice none 0 0], .int .i64 1]) ?_ rfl ?_
    · simp [results, Tryz.results47, go_sem, r0, r1]
    · exact retZE_zero 1 (below_set (below_set HB (by omega) _ _) (by omega) _ _)
  · rw [v1] at HX
    obtain ⟨rfl, p1, p2, p3, p4, p5, p6⟩ := fvB_ok ma.ok mb.ok v1
    have hr_ : intR flrF na xs false ys = (flrF (sg na (val xs), val ys), 0) := by unfold intR; rw [v1]; rfl
    rw [hr_]
    have IF : Hid (Fz (sg na (val xs), val ys) na xs.length xs ys.length ys) := ⟨p1, by rw [natAbs_sg]; exact p2, rfl, p3, rfl⟩
    generalize (sg na (val xs), val ys) = f at *
    have hd0 : f.2 ≠ 0 := by have := p4.1; omega
    clear hr_ v1 p1 p2 p3 p4
    generalize xs.length = ka at *
    generalize ys.length = la at *
    obtain ⟨b, k3, L3, I3⟩ := iz (flrF f)
    have HF := hid fun (w1 : World) (h : Below w.heap.size w w1) => Qfloor_g (w := w1) (neg := na) IF.out.n IF.out.d (ma.below h) (mb.below h) (by omega) (by omega) hd0 I3.out (by unfold flrF; rw [← Nat.mul_one f.1.natAbs, IF.out.sgn]; simp)
    generalize flrF f = z at *
    clear hd0 ma mb IF
    go_enter Tryz.func47, Tryz.ntmps47
    go_wp2_with fail
    refine enterFI (P := fun u => Calls _ _ _ u _) ?_
    intro u HB q0 q1 q2 q3 r0 r1 z1 z2 hsz
    clear hsz
    have f_z1 := z1.fr
    have f_z2 := z2.fr
    have lt_q0 := cell_lt q0
    have lt_r0 := cell_lt r0
    refine (HX.out _ HB).mono ?_
    rintro e w1 ⟨rfl, h1⟩
    have hv_ : Below u.heap.size u w1 := Below.trans (b := _) (by repeat (first | assumption | exact Below.refl _ _ | refine Below.alloc ?_ (by simp; try omega) _ | refine Below.drew ?_ | refine below_drewN ?_ _)) (h1.mono (by simp; try omega))
    replace q0 := keep_cell hv_ q0
    replace q1 := keep_cell hv_ q1
    replace q2 := keep_cell hv_ q2
    replace q3 := keep_cell hv_ q3
    replace r0 := keep_cell hv_ r0
    replace r1 := keep_cell hv_ r1
    have lt_q0 := cell_lt q0
    have lt_q1 := cell_lt q1
    have lt_q2 := cell_lt q2
    have lt_q3 := cell_lt q3
    have lt_r0 := cell_lt r0
    have lt_r1 := cell_lt r1
    replace z1 := z1.below hv_
    replace z2 := z2.below hv_
    replace f_z1 := z1.fr
    replace f_z2 := z2.fr
    replace HB := HB.trans (hv_.mono HB.size)
    clear hv_
    go_wp2_with fail
    refine (HF.out _ HB).mono ?_
    rintro e w2 ⟨R1, c1, rfl, m1, h2⟩
    have hv_ : Below w1.heap.size w1 w2 := Below.trans (b := _) (by repeat (first | assumption | exact Below.refl _ _ | refine Below.alloc ?_ (by simp; try omega) _ | refine Below.drew ?_ | refine below_drewN ?_ _)) (h2.mono (by simp; try omega))
    replace q0 := keep_cell hv_ q0
    replace q1 := keep_cell hv_ q1
    replace q2 := keep_cell hv_ q2
    replace q3 := keep_cell hv_ q3
    replace r0 := keep_cell hv_ r0
    replace r1 := keep_cell hv_ r1
    have lt_q0 := cell_lt q0
    have lt_q1 := cell_lt q1
    have lt_q2 := cell_lt q2
    have lt_q3 := cell_lt q3
    have lt_r0 := cell_lt r0
    have lt_r1 := cell_lt r1
    replace z1 := z1.below hv_
    replace z2 := z2.below hv_
    replace f_z1 := z1.fr
    replace f_z2 := z2.fr
    replace HB := HB.trans (hv_.mono HB.size)
    clear hv_
    go_wp2
    refine bodyPost_ret (v := .tuple #[.agg #[.bool b, .slice R1 k3 c1], .int .i64 0]) ?_ rfl ?_
    · simp [results, Tryz.results47, go_sem, r0, r1]
    · obtain ⟨j1_, j2_⟩ := fin_i m1 HB (by omega) r0 r1 (.bool b) (.slice R1 k3 c1)
      exact GZE.r ⟨R1, c1, rfl, j1_, j2_⟩ I3.out
set_option maxRecDepth 100000 in
set_option maxHeartbeats 4000000 in
theorem QRound_any {na nb : Bool} {xs ys : List Nat} {A B : Option Addr} {ca cb : Nat} {w : World} (ma : Mg w A ca xs) (mb : Mg w B cb ys) :
    Calls Tryz.prog 49 #[.agg #[.bool na, .slice A xs.length ca, .bool nb, .slice B ys.length cb]] w (RetZE w (intR rndF na xs nb ys).1 (intR rndF na xs nb ys).2) := by
  have HX := hid fun (w1 : World) (h : Below w.heap.size w w1) => Qvalid_any (na := na) (nb := nb) (w := w1) (ma.below h) (mb.below h)
  cases v1 : fvB na xs nb ys
  · have hr_ : intR rndF na xs nb ys = (0, 1) := by unfold intR; rw [v1]; rfl
    rw [hr_]
    rw [v1] at HX
    clear hr_ v1 ma mb
    generalize xs.length = ka at *
    generalize ys.length = la at *
    go_enter Tryz.func49, Tryz.ntmps49
    go_wp2_with fail
    refine enterFI (P := fun u => Calls _ _ _ u _) ?_
    intro u HB q0 q1 q2 q3 r0 r1 z1 z2 hsz
    clear hsz
    have f_z1 := z1.fr
    have f_z2 := z2.fr
    have lt_q0 := cell_lt q0
    have lt_r0 := cell_lt r0
    refine (HX.out _ HB).mono ?_
    rintro e w1 ⟨rfl, h1⟩
    have hv_ : Below u.heap.size u w1 := Below.trans (b := _) (by repeat (first | assumption | exact Below.refl _ _ | refine Below.alloc ?_ (by simp; try omega) _ | refine Below.drew ?_ | refine below_drewN ?_ _)) (h1.mono (by simp; try omega))
    replace q0 := keep_cell hv_ q0
    replace q1 := keep_cell hv_ q1
    replace q2 := keep_cell hv_ q2
    replace q3 := keep_cell hv_ q3
    replace r0 := keep_cell hv_ r0
    replace r1 := keep_cell hv_ r1
    have lt_q0 := cell_lt q0
    have lt_q1 := cell_lt q1
    have lt_q2 := cell_lt q2
    have lt_q3 := cell_lt q3
    have lt_r0 := cell_lt r0
    have lt_r1 := cell_lt r1
    replace z1 := z1.below hv_
    replace z2 := z2.below hv_
    replace f_z1 := z1.fr
    replace f_z2 := z2.fr
    replace HB := HB.trans (hv_.mono HB.size)
    clear hv_
    go_wp2
    refine bodyPost_ret (v := .tuple #[.agg #[.bool false, .slice none 0 0], .int .i64 1]) ?_ rfl ?_
    · simp [results, Tryz.results49, go_sem, r0, r1]
    · exact retZE_zero 1 (below_set (below_set HB (by omega) _ _) (by omega) _ _)
  · rw [v1] at HX
    obtain ⟨rfl, p1, p2, p3, p4, p5, p6⟩ := fvB_ok ma.ok mb.ok v1
    have hr_ : intR rndF na xs false ys = (rndF (sg na (val xs), val ys), 0) := by unfold intR; rw [v1]; rfl
    rw [hr_]
    have IF : Hid (Fz (sg na (val xs), val ys) na xs.length xs ys.length ys) := ⟨p1, by rw [natAbs_sg]; exact p2, rfl, p3, rfl⟩
    generalize (sg na (val xs), val ys) = f at *
    have hd0 : f.2 ≠ 0 := by have := p4.1; omega
    clear hr_ v1 p1 p2 p3 p4
    generalize xs.length = ka at *
    generalize ys.length = la at *
    obtain ⟨r, q, hrq⟩ : ∃ r q, sumS na (2 * f.1.natAbs + 0) false f.2 = (r, q) := ⟨_, _, rfl⟩
    have hsg : sg r q = 2 * f.1 + f.2 := by
      have h := sumS_sg na false (2 * f.1.natAbs + 0) f.2
      rw [hrq] at h
      rw [h, Nat.add_zero, Nat.mul_comm, IF.out.sgn]
      unfold sg
      simp
      omega
    have hql : q ≤ (2 * f.1.natAbs + 0) + f.2 := by have := sumS_le na false (2 * f.1.natAbs + 0) f.2; rwa [hrq] at this
    obtain ⟨kn, Ln, In⟩ := lz (2 * f.1.natAbs + 0)
    obtain ⟨kd, Ld, Id⟩ := lz (2 * f.2 + 0)
    obtain ⟨kq, Lq, Iq⟩ := lz q
    obtain ⟨b, k3, L3, I3⟩ := iz (rndF f)
    have hkn : kn ≤ 600 := In.out.le (Nat.le_trans (limbs_len2' (q := 0) (k := 512) (by omega) (by rw [IF.out.n.len]; exact p5)) (by omega))
    have hkd : kd ≤ 600 := Id.out.le (Nat.le_trans (limbs_len2' (q := 0) (k := 512) (by omega) (by rw [IF.out.d.len]; exact p6)) (by omega))
    have hkq : kq ≤ 700 := Iq.out.le (Nat.le_trans (limbs_mono hql) (Nat.le_trans (add_len (c := 600) (by rw [In.out.len]; exact hkn) (by rw [IF.out.d.len]; exact p6) (Nat.le_refl _) (by omega)) (by omega)))
    have HS1 := hid fun (w1 : World) (h : Below w.heap.size w w1) => Qshift_g (w := w1) IF.out.n (ma.below h) (by omega) 0 (by omega) In.out 0 rfl
    have HS2 := hid fun (w1 : World) (h : Below w.heap.size w w1) => Qshift_g (w := w1) IF.out.d (mb.below h) (by omega) 0 (by omega) Id.out 0 rfl
    have HA := hid fun (w1 : World) (h : Below w.heap.size w w1) (R : Option Addr) (c : Nat) (m : Mg w1 R c Ln) => Qsum_g (w := w1) In.out IF.out.d m (mb.below h) (by omega) (by omega) hrq Iq.out
    have HF := hid fun (w1 : World) (R Q : Option Addr) (c d : Nat) (m : Mg w1 R c Lq) (m' : Mg w1 Q d Ld) => Qfloor_g (w := w1) (neg := r) Iq.out Id.out m m' (by omega) (by omega) (by omega) I3.out (by unfold rndF; rw [hsg]; push_cast; simp)
    generalize rndF f = z at *
    clear hd0 ma mb IF hrq hsg hql In Id Iq hkn hkd hkq
    go_enter Tryz.func49, Tryz.ntmps49
    go_wp2_with fail
    refine enterFI (P := fun u => Calls _ _ _ u _) ?_
    intro u HB q0 q1 q2 q3 r0 r1 z1 z2 hsz
    clear hsz
    have f_z1 := z1.fr
    have f_z2 := z2.fr
    have lt_q0 := cell_lt q0
    have lt_r0 := cell_lt r0
    refine (HX.out _ HB).mono ?_
    rintro e w1 ⟨rfl, h1⟩
    have hv_ : Below u.heap.size u w1 := Below.trans (b := _) (by repeat (first | assumption | exact Below.refl _ _ | refine Below.alloc ?_ (by simp; try omega) _ | refine Below.drew ?_ | refine below_drewN ?_ _)) (h1.mono (by simp; try omega))
    replace q0 := keep_cell hv_ q0
    replace q1 := keep_cell hv_ q1
    replace q2 := keep_cell hv_ q2
    replace q3 := keep_cell hv_ q3
    replace r0 := keep_cell hv_ r0
    replace r1 := keep_cell hv_ r1
    have lt_q0 := cell_lt q0
    have lt_q1 := cell_lt q1
    have lt_q2 := cell_lt q2
    have lt_q3 := cell_lt q3
    have lt_r0 := cell_lt r0
    have lt_r1 := cell_lt r1
    replace z1 := z1.below hv_
    replace z2 := z2.below hv_
    replace f_z1 := z1.fr
    replace f_z2 := z2.fr
    replace HB := HB.trans (hv_.mono HB.size)
    clear hv_
    go_wp2_with fail
    go_region_held3 (fun w' => w'.cell? ⟨w.heap.size, 0, none⟩ = some (.bool na) ∧ w'.cell? ⟨w.heap.size, 1, none⟩ = some (.slice A ka ca) ∧ w'.cell? ⟨w.heap.size, 2, none⟩ = some (.bool false) ∧ w'.cell? ⟨w.heap.size, 3, none⟩ = some (.slice B la cb)) (first | ((try dsimp only); repeat' (first | with_reducible assumption | apply And.intro | (with_reducible refine keep_alloc ?_) | (with_reducible refine keep_drew ?_) | (with_reducible refine keep_set (by first | omega | (simp only [World.size_alloc, World.size_setCell, World.size_drew]; done) | (simp only [World.size_alloc, World.size_setCell, World.size_drew]; omega)) ?_) | (with_reducible refine keep_cell (W := w1) ?_ ?_) | fail))) (first | (go_at_call 86; (with_reducible refine (HS1.out _ (bel_step HB (by repeat' (first | with_reducible assumption | exact Below.refl _ _ | (refine Below.alloc ?_ (by first | omega | (simp only [World.size_alloc, World.size_setCell, World.size_drew]; done) | (simp only [World.size_alloc, World.size_setCell, World.size_drew]; omega)) _) | (refine Below.drew ?_) | (refine below_drewN ?_ _) | (refine Below.setCell ?_ (by first | omega | (simp only [World.size_alloc, World.size_setCell, World.size_drew]; done) | (simp only [World.size_alloc, World.size_setCell, World.size_drew]; omega)) _))))).mono ?_); rintro e y1 ⟨R1, c1, rfl, m1, hq_⟩; have qy1 : Below w1.heap.size w1 y1 := bel_step (by repeat' (first | with_reducible assumption | exact Below.refl _ _ | (refine Below.alloc ?_ (by first | omega | (simp only [World.size_alloc, World.size_setCell, World.size_drew]; done) | (simp only [World.size_alloc, World.size_setCell, World.size_drew]; omega)) _) | (refine Below.drew ?_) | (refine below_drewN ?_ _) | (refine Below.setCell ?_ (by first | omega | (simp only [World.size_alloc, World.size_setCell, World.size_drew]; done) | (simp only [World.size_alloc, World.size_setCell, World.size_drew]; omega)) _))) hq_) | (go_at_call 85; (with_reducible refine (HA.out _ (bel_step HB (by repeat' (first | with_reducible assumption | exact Below.refl _ _ | (refine Below.alloc ?_ (by first | omega | (simp only [World.size_alloc, World.size_setCell, World.size_drew]; done) | (simp only [World.size_alloc, World.size_setCell, World.size_drew]; omega)) _) | (refine Below.drew ?_) | (refine below_drewN ?_ _) | (refine Below.setCell ?_ (by first | omega | (simp only [World.size_alloc, World.size_setCell, World.size_drew]; done) | (simp only [World.size_alloc, World.size_setCell, World.size_drew]; omega)) _)))) _ _ (m1.below (by repeat' (first | with_reducible assumption | exact Below.refl _ _ | (refine Below.alloc ?_ (by first | omega | (simp only [World.size_alloc, World.size_setCell, World.size_drew]; done) | (simp only [World.size_alloc, World.size_setCell, World.size_drew]; omega)) _) | (refine Below.drew ?_) | (refine below_drewN ?_ _) | (refine Below.setCell ?_ (by first | omega | (simp only [World.size_alloc, World.size_setCell, World.size_drew]; done) | (simp only [World.size_alloc, World.size_setCell, World.size_drew]; omega)) _))))).mono ?_); rintro e y2 ⟨R2, c2, rfl, m2, hq_⟩; have qy2 : Below w1.heap.size w1 y2 := bel_step (by repeat' (first | with_reducible assumption | exact Below.refl _ _ | (refine Below.alloc ?_ (by first | omega | (simp only [World.size_alloc, World.size_setCell, World.size_drew]; done) | (simp only [World.size_alloc, World.size_setCell, World.size_drew]; omega)) _) | (refine Below.drew ?_) | (refine below_drewN ?_ _) | (refine Below.setCell ?_ (by first | omega | (simp only [World.size_alloc, World.size_setCell, World.size_drew]; done) | (simp only [World.size_alloc, World.size_setCell, World.size_drew]; omega)) _))) hq_))
    have hv_ : Below w1.heap.size w1 y2 := Below.trans (b := _) (by repeat (first | assumption | exact Below.refl _ _ | refine Below.alloc ?_ (by simp; try omega) _ | refine Below.drew ?_ | refine below_drewN ?_ _)) (qy2.mono (by simp; try omega))
    replace q0 := keep_cell hv_ q0
    replace q1 := keep_cell hv_ q1
    replace q2 := keep_cell hv_ q2
    replace q3 := keep_cell hv_ q3
    replace r0 := keep_cell hv_ r0
    replace r1 := keep_cell hv_ r1
    have lt_q0 := cell_lt q0
    have lt_q1 := cell_lt q1
    have lt_q2 := cell_lt q2
    have lt_q3 := cell_lt q3
    have lt_r0 := cell_lt r0
    have lt_r1 := cell_lt r1
    replace z1 := z1.below hv_
    replace z2 := z2.below hv_
    replace f_z1 := z1.fr
    replace f_z2 := z2.fr
    replace HB := HB.trans (hv_.mono HB.size)
    clear hv_
    go_wp2_with fail
    refine (HS2.out _ HB).mono ?_
    rintro e w3 ⟨R3, c3, rfl, m3, h3⟩
    have hv_ : Below y2.heap.size y2 w3 := Below.trans (b := _) (by repeat (first | assumption | exact Below.refl _ _ | refine Below.alloc ?_ (by simp; try omega) _ | refine Below.drew ?_ | refine below_drewN ?_ _)) (h3.mono (by simp; try omega))
    replace m2 := m2.below hv_
    replace q0 := keep_cell hv_ q0
    replace q1 := keep_cell hv_ q1
    replace q2 := keep_cell hv_ q2
    replace q3 := keep_cell hv_ q3
    replace r0 := keep_cell hv_ r0
    replace r1 := keep_cell hv_ r1
    have lt_q0 := cell_lt q0
    have lt_q1 := cell_lt q1
    have lt_q2 := cell_lt q2
    have lt_q3 := cell_lt q3
    have lt_r0 := cell_lt r0
    have lt_r1 := cell_lt r1
    replace z1 := z1.below hv_
    replace z2 := z2.below hv_
    replace f_z1 := z1.fr
    replace f_z2 := z2.fr
    replace HB := HB.trans (hv_.mono HB.size)
    clear hv_
    go_wp2_with fail
    refine (HF.out _ _ _ _ _ m2 m3).mono ?_
    rintro e w4 ⟨R4, c4, rfl, m4, h4⟩
    have hv_ : Below w3.heap.size w3 w4 := Below.trans (b := _) (by repeat (first | assumption | exact Below.refl _ _ | refine Below.alloc ?_ (by simp; try omega) _ | refine Below.drew ?_ | refine below_drewN ?_ _)) (h4.mono (by simp; try omega))
    replace q0 := keep_cell hv_ q0
    replace q1 := keep_cell hv_ q1
    replace q2 := keep_cell hv_ q2
    replace q3 := keep_cell hv_ q3
    replace r0 := keep_cell hv_ r0
    replace r1 := keep_cell hv_ r1
    have lt_q0 := cell_lt q0
    have lt_q1 := cell_lt q1
    have lt_q2 := cell_lt q2
    have lt_q3 := cell_lt q3
    have lt_r0 := cell_lt r0
    have lt_r1 := cell_lt r1
    replace z1 := z1.below hv_
    replace z2 := z2.below hv_
    replace f_z1 := z1.fr
    replace f_z2 := z2.fr
    replace HB := HB.trans (hv_.mono HB.size)
    clear hv_
    go_wp2
    refine bodyPost_ret (v := .tuple #[.agg #[.bool b, .slice R4 k3 c4], .int .i64 0]) ?_ rfl ?_
    · simp [results, Tryz.results49, go_sem, r0, r1]
    · obtain ⟨j1_, j2_⟩ := fin_i m4 HB (by omega) r0 r1 (.bool b) (.slice R4 k3 c4)
      exact GZE.r ⟨R4, c4, rfl, j1_, j2_⟩ I3.out
set_option maxRecDepth 100000 in
set_option maxHeartbeats 2000000 in
theorem QSameInt_g {x y : Int} {b b' : Bool} {n n' : Nat} {L L' : List Nat} {A B : Option Addr} {c d : Nat} {w : World} (hx : Iz x b n L) (hy : Iz y b' n' L') (ma : Mg w A c L) (mb : Mg w B d L') (t : Bool) (h : decide (x = y) = t) :
    Calls Tryz.prog 72 #[.agg #[.bool b, .slice A n c], .agg #[.bool b', .slice B n' d]] w (RetB w t) := by
  have hi := iz_inj hx hy
  by_cases hb : b = b'
  · by_cases hn : n = n'
    · subst hb
      have hk := hx.hn
      have hk2 := hy.hn
      have hL1 : Nrm L := by rw [hx.hx]; exact nrm_limbs _
      have hL2 : Nrm L' := by rw [hy.hx]; exact nrm_limbs _
      have ht : t = (ord (val L) (val L') == 0) := by
        rw [← h, Bool.eq_iff_iff, decide_eq_true_eq, beq_iff_eq, ← hi]
        simp only [true_and]
        unfold ord
        constructor
        · intro e; rw [e]; simp
        · intro e; split at e; · omega
          split at e <;> omega
      have HC := hid fun (w1 : World) (h : Below w.heap.size w w1) => Qcompare_any A B c d L L' w1 (ma.below h) (mb.below h) hL1 hL2
      rw [← hk, ← hk2] at HC
      subst hn
      subst ht
      generalize ord (val L) (val L') = o at *
      clear hi hk hk2 hL1 hL2 h hx hy ma mb
      cases b
      all_goals
        go_enter Tryz.func72, Tryz.ntmps72
        go_wp2_with fail
        refine enterII (P := fun u => Calls _ _ _ u _) ?_
        intro u HB q0 q1 r0 r1 z1 z2 hsz
        clear hsz
        have f_z1 := z1.fr
        have f_z2 := z2.fr
        have lt_q0 := cell_lt q0
        have lt_r0 := cell_lt r0
        refine (HC.out _ HB).mono ?_
        rintro e w1 ⟨rfl, h1⟩
        have hv_ : Below u.heap.size u w1 := Below.trans (b := _) (by repeat (first | assumption | exact Below.refl _ _ | refine Below.alloc ?_ (by simp; try omega) _ | refine Below.drew ?_ | refine below_drewN ?_ _)) (h1.mono (by simp; try omega))
        replace HB := HB.trans (hv_.mono HB.size)
        clear hv_
        go_wp2
        go_ret
        exact ⟨rfl, HB⟩
    · have ht : t = false := by
        rw [← h, decide_eq_false_iff_not]; rintro rfl; exact hn (by rw [hx.hn, hy.hn, hx.hx, hy.hx])
      have hnn : ((n : Int) == (n' : Int)) = false := by rw [beq_eq_false_iff_ne]; omega
      subst hb
      subst ht
      clear hi h hx hy ma mb hn
      cases b
      all_goals
        go_enter Tryz.func72, Tryz.ntmps72
        go_wp2
        go_ret
        exact ⟨rfl, ((Below.refl _ _).alloc (Nat.le_refl _) _).alloc (by simp) _⟩
  · have ht : t = false := by rw [← h, decide_eq_false_iff_not]; intro e; exact hb (hi.2 e).1
    subst ht
    clear hi h hx hy ma mb
    cases b <;> cases b'
    · exact absurd rfl hb
    · go_enter Tryz.func72, Tryz.ntmps72
      go_wp2
      go_ret
      exact ⟨rfl, ((Below.refl _ _).alloc (Nat.le_refl _) _).alloc (by simp) _⟩
    · go_enter Tryz.func72, Tryz.ntmps72
      go_wp2
      go_ret
      exact ⟨rfl, ((Below.refl _ _).alloc (Nat.le_refl _) _).alloc (by simp) _⟩
    · exact absurd rfl hb
set_option maxRecDepth 100000 in
set_option maxHeartbeats 2000000 in
theorem QSame_g {f g : Int × Nat} {b b' : Bool} {k l k' l' : Nat} {xs ys us vs : List Nat} {A B C D : Option Addr} {ca cb cc cd : Nat} {w : World} (hf : Fz f b k xs l ys) (hg : Fz g b' k' us l' vs) (ma : Mg w A ca xs) (mb : Mg w B cb ys) (mc : Mg w C cc us) (md : Mg w D cd vs) (t : Bool) (h : decide (f = g) = t) :
    Calls Tryz.prog 32 #[.agg #[.bool b, .slice A k ca, .bool false, .slice B l cb], .agg #[.bool b', .slice C k' cc, .bool false, .slice D l' cd]] w (RetB w t) := by
  have h1 := hid fun (w1 : World) (h : Below w.heap.size w w1) => QSameInt_g (w := w1) hf.num hg.num (ma.below h) (mc.below h) _ rfl
  have h2 := hid fun (w1 : World) (h : Below w.heap.size w w1) => QSameInt_g (w := w1) hf.den hg.den (mb.below h) (md.below h) _ rfl
  have e : t = (decide (f.1 = g.1) && decide ((f.2 : Int) = (g.2 : Int))) := by
    rw [← h, Bool.eq_iff_iff]; simp only [decide_eq_true_eq, Bool.and_eq_true]; rw [Prod.ext_iff]; omega
  subst e
  generalize decide (f.1 = g.1) = t1 at *
  generalize decide ((f.2 : Int) = (g.2 : Int)) = t2 at *
  clear hf hg ma mb mc md h
  cases t1
  · go_enter Tryz.func32, Tryz.ntmps32
    go_wp2_with fail
    refine enterFF (P := fun u => Calls _ _ _ u _) ?_
    intro u HB q0 q1 q2 q3 r0 r1 r2 r3 z1 z2 hsz
    clear hsz
    have f_z1 := z1.fr
    have f_z2 := z2.fr
    have lt_q0 := cell_lt q0
    have lt_r0 := cell_lt r0
    refine (h1.out _ HB).mono ?_
    rintro e w1 ⟨rfl, h1_⟩
    have hv_ : Below u.heap.size u w1 := Below.trans (b := _) (by repeat (first | assumption | exact Below.refl _ _ | refine Below.alloc ?_ (by simp; try omega) _ | refine Below.drew ?_ | refine below_drewN ?_ _)) (h1_.mono (by simp; try omega))
    replace q0 := keep_cell hv_ q0
    replace q1 := keep_cell hv_ q1
    replace q2 := keep_cell hv_ q2
    replace q3 := keep_cell hv_ q3
    replace r0 := keep_cell hv_ r0
    replace r1 := keep_cell hv_ r1
    replace r2 := keep_cell hv_ r2
    replace r3 := keep_cell hv_ r3
    have lt_q0 := cell_lt q0
    have lt_q1 := cell_lt q1
    have lt_q2 := cell_lt q2
    have lt_q3 := cell_lt q3
    have lt_r0 := cell_lt r0
    have lt_r1 := cell_lt r1
    have lt_r2 := cell_lt r2
    have lt_r3 := cell_lt r3
    replace HB := HB.trans (hv_.mono HB.size)
    clear hv_
    go_wp2
    go_ret
    exact ⟨rfl, HB⟩
  · go_enter Tryz.func32, Tryz.ntmps32
    go_wp2_with fail
    refine enterFF (P := fun u => Calls _ _ _ u _) ?_
    intro u HB q0 q1 q2 q3 r0 r1 r2 r3 z1 z2 hsz
    clear hsz
    have f_z1 := z1.fr
    have f_z2 := z2.fr
    have lt_q0 := cell_lt q0
    have lt_r0 := cell_lt r0
    refine (h1.out _ HB).mono ?_
    rintro e w1 ⟨rfl, h1_⟩
    have hv_ : Below u.heap.size u w1 := Below.trans (b := _) (by repeat (first | assumption | exact Below.refl _ _ | refine Below.alloc ?_ (by simp; try omega) _ | refine Below.drew ?_ | refine below_drewN ?_ _)) (h1_.mono (by simp; try omega))
    replace q0 := keep_cell hv_ q0
    replace q1 := keep_cell hv_ q1
    replace q2 := keep_cell hv_ q2
    replace q3 := keep_cell hv_ q3
    replace r0 := keep_cell hv_ r0
    replace r1 := keep_cell hv_ r1
    replace r2 := keep_cell hv_ r2
    replace r3 := keep_cell hv_ r3
    have lt_q0 := cell_lt q0
    have lt_q1 := cell_lt q1
    have lt_q2 := cell_lt q2
    have lt_q3 := cell_lt q3
    have lt_r0 := cell_lt r0
    have lt_r1 := cell_lt r1
    have lt_r2 := cell_lt r2
    have lt_r3 := cell_lt r3
    replace HB := HB.trans (hv_.mono HB.size)
    clear hv_
    go_wp2_with fail
    refine (h2.out _ HB).mono ?_
    rintro e w2 ⟨rfl, h2_⟩
    have hv_ : Below w1.heap.size w1 w2 := Below.trans (b := _) (by repeat (first | assumption | exact Below.refl _ _ | refine Below.alloc ?_ (by simp; try omega) _ | refine Below.drew ?_ | refine below_drewN ?_ _)) (h2_.mono (by simp; try omega))
    replace HB := HB.trans (hv_.mono HB.size)
    clear hv_
    go_wp2
    go_ret
    exact ⟨by simp, HB⟩
end Go.Proofs.YtfhbigfbeppinaaGreatDoor
