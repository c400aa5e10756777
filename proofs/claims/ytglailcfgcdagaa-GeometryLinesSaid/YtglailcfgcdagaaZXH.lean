/- The fractions' reference: walks of Add, Sub, Mul, Div. Conditions: none. -/
import Derived.Test.YtglailcfgcdagaaZXG
set_option linter.unusedVariables false
set_option linter.unusedSimpArgs false
namespace Go.Proofs.Ytglailcfgcdagaa
open Go.RowKit Big
set_option maxRecDepth 100000 in
set_option maxHeartbeats 4000000 in
theorem QAdd_any {na nb nc nd : Bool} {xs ys us vs : List Nat} {A B C D : Option Addr} {ca cb cc cd : Nat} {w : World} (ma : Mg w A ca xs) (mb : Mg w B cb ys) (mc : Mg w C cc us) (md : Mg w D cd vs) :
  Calls Try.prog 51 #[.agg #[.bool na, .slice A xs.length ca, .bool nb, .slice B ys.length cb], .agg #[.bool nc, .slice C us.length cc, .bool nd, .slice D vs.length cd]] w (RetFE w (opR addE na xs nb ys nc us nd vs)) := by
 have HX := hid fun (w1 : World) (h : Below w.heap.size w w1) => Qvalid_any (na := na) (nb := nb) (w := w1) (ma.below h) (mb.below h)
 have HY := hid fun (w1 : World) (h : Below w.heap.size w w1) => Qvalid_any (na := nc) (nb := nd) (w := w1) (mc.below h) (md.below h)
 cases v1 : fvB na xs nb ys
 ·have hr_ : opR addE na xs nb ys nc us nd vs = ((0, 0), 1) := by unfold opR; rw [v1]; rfl
  rw [hr_]
  rw [v1] at HX
  clear hr_ v1 ma mb mc md HY
  generalize xs.length = ka at *
  generalize ys.length = la at *
  generalize us.length = kb at *
  generalize vs.length = lb at *
  go_enter Try.func51, Try.ntmps51
  go_wp2_with fail
  refine enterFFF (P := fun u => Calls _ _ _ u _) ?_
  intro u HB q0 q1 q2 q3 r0 r1 r2 r3 s0 s1 s2 s3 z1 z2 z3 hsz
  clear hsz
  have f_z1 := z1.fr
  have f_z2 := z2.fr
  have f_z3 := z3.fr
  have lt_q0 := cell_lt q0
  have lt_r0 := cell_lt r0
  have lt_s0 := cell_lt s0
  refine (HX.out _ HB).mono ?_
  rintro e w1 ⟨rfl, h1⟩
  have hv_ : Below u.heap.size u w1 := Below.trans (b := _) (by repeat (first | assumption | exact Bv _ _ | refine Ba ?_ (by simp; try omega) _ | refine Bd ?_ | refine Bn ?_ _)) (h1.mono (by simp; try omega))
  replace q0 := keep_cell hv_ q0
  replace q1 := keep_cell hv_ q1
  replace q2 := keep_cell hv_ q2
  replace q3 := keep_cell hv_ q3
  replace r0 := keep_cell hv_ r0
  replace r1 := keep_cell hv_ r1
  replace r2 := keep_cell hv_ r2
  replace r3 := keep_cell hv_ r3
  replace s0 := keep_cell hv_ s0
  replace s1 := keep_cell hv_ s1
  replace s2 := keep_cell hv_ s2
  replace s3 := keep_cell hv_ s3
  have lt_q0 := cell_lt q0
  have lt_q1 := cell_lt q1
  have lt_q2 := cell_lt q2
  have lt_q3 := cell_lt q3
  have lt_r0 := cell_lt r0
  have lt_r1 := cell_lt r1
  have lt_r2 := cell_lt r2
  have lt_r3 := cell_lt r3
  have lt_s0 := cell_lt s0
  have lt_s1 := cell_lt s1
  have lt_s2 := cell_lt s2
  have lt_s3 := cell_lt s3
  replace z1 := z1.below hv_
  replace z2 := z2.below hv_
  replace z3 := z3.below hv_
  replace f_z1 := z1.fr
  replace f_z2 := z2.fr
  replace f_z3 := z3.fr
  replace HB := HB.trans (hv_.mono HB.size)
  clear hv_
  go_wp2
  refine bodyPost_ret (v := .tuple #[.agg #[.bool false, .slice none 0 0, .bool false, .slice none 0 0], .int .i64 1]) ?_ rfl ?_
  ·simp [results, Try.results51, go_sem, s0, s1, s2, s3]
  ·exact retFE_set 1 HB (by omega) s0 s1 s2 s3
 ·rw [v1] at HX
  cases v2 : fvB nc us nd vs
  ·have hr_ : opR addE na xs nb ys nc us nd vs = ((0, 0), 1) := by unfold opR; rw [v1, v2]; rfl
   rw [hr_]
   rw [v2] at HY
   clear hr_ v1 v2 ma mb mc md
   generalize xs.length = ka at *
   generalize ys.length = la at *
   generalize us.length = kb at *
   generalize vs.length = lb at *
   go_enter Try.func51, Try.ntmps51
   go_wp2_with fail
   refine enterFFF (P := fun u => Calls _ _ _ u _) ?_
   intro u HB q0 q1 q2 q3 r0 r1 r2 r3 s0 s1 s2 s3 z1 z2 z3 hsz
   clear hsz
   have f_z1 := z1.fr
   have f_z2 := z2.fr
   have f_z3 := z3.fr
   have lt_q0 := cell_lt q0
   have lt_r0 := cell_lt r0
   have lt_s0 := cell_lt s0
   refine (HX.out _ HB).mono ?_
   rintro e w1 ⟨rfl, h1⟩
   have hv_ : Below u.heap.size u w1 := Below.trans (b := _) (by repeat (first | assumption | exact Bv _ _ | refine Ba ?_ (by simp; try omega) _ | refine Bd ?_ | refine Bn ?_ _)) (h1.mono (by simp; try omega))
   replace q0 := keep_cell hv_ q0
   replace q1 := keep_cell hv_ q1
   replace q2 := keep_cell hv_ q2
   replace q3 := keep_cell hv_ q3
   replace r0 := keep_cell hv_ r0
   replace r1 := keep_cell hv_ r1
   replace r2 := keep_cell hv_ r2
   replace r3 := keep_cell hv_ r3
   replace s0 := keep_cell hv_ s0
   replace s1 := keep_cell hv_ s1
   replace s2 := keep_cell hv_ s2
   replace s3 := keep_cell hv_ s3
   have lt_q0 := cell_lt q0
   have lt_q1 := cell_lt q1
   have lt_q2 := cell_lt q2
   have lt_q3 := cell_lt q3
   have lt_r0 := cell_lt r0
   have lt_r1 := cell_lt r1
   have lt_r2 := cell_lt r2
   have lt_r3 := cell_lt r3
   have lt_s0 := cell_lt s0
   have lt_s1 := cell_lt s1
   have lt_s2 := cell_lt s2
   have lt_s3 := cell_lt s3
   replace z1 := z1.below hv_
   replace z2 := z2.below hv_
   replace z3 := z3.below hv_
   replace f_z1 := z1.fr
   replace f_z2 := z2.fr
   replace f_z3 := z3.fr
   replace HB := HB.trans (hv_.mono HB.size)
   clear hv_
   go_wp2_with fail
   refine (HY.out _ HB).mono ?_
   rintro e w2 ⟨rfl, h2⟩
   have hv_ : Below w1.heap.size w1 w2 := Below.trans (b := _) (by repeat (first | assumption | exact Bv _ _ | refine Ba ?_ (by simp; try omega) _ | refine Bd ?_ | refine Bn ?_ _)) (h2.mono (by simp; try omega))
   replace q0 := keep_cell hv_ q0
   replace q1 := keep_cell hv_ q1
   replace q2 := keep_cell hv_ q2
   replace q3 := keep_cell hv_ q3
   replace r0 := keep_cell hv_ r0
   replace r1 := keep_cell hv_ r1
   replace r2 := keep_cell hv_ r2
   replace r3 := keep_cell hv_ r3
   replace s0 := keep_cell hv_ s0
   replace s1 := keep_cell hv_ s1
   replace s2 := keep_cell hv_ s2
   replace s3 := keep_cell hv_ s3
   have lt_q0 := cell_lt q0
   have lt_q1 := cell_lt q1
   have lt_q2 := cell_lt q2
   have lt_q3 := cell_lt q3
   have lt_r0 := cell_lt r0
   have lt_r1 := cell_lt r1
   have lt_r2 := cell_lt r2
   have lt_r3 := cell_lt r3
   have lt_s0 := cell_lt s0
   have lt_s1 := cell_lt s1
   have lt_s2 := cell_lt s2
   have lt_s3 := cell_lt s3
   replace z1 := z1.below hv_
   replace z2 := z2.below hv_
   replace z3 := z3.below hv_
   replace f_z1 := z1.fr
   replace f_z2 := z2.fr
   replace f_z3 := z3.fr
   replace HB := HB.trans (hv_.mono HB.size)
   clear hv_
   go_wp2
   refine bodyPost_ret (v := .tuple #[.agg #[.bool false, .slice none 0 0, .bool false, .slice none 0 0], .int .i64 1]) ?_ rfl ?_
   ·simp [results, Try.results51, go_sem, s0, s1, s2, s3]
   ·exact retFE_set 1 HB (by omega) s0 s1 s2 s3
  ·rw [v2] at HY
   obtain ⟨rfl, p1, p2, p3, p4, p5, p6⟩ := fvB_ok ma.ok mb.ok v1
   obtain ⟨rfl, p7, p8, p9, p10, p11, p12⟩ := fvB_ok mc.ok md.ok v2
   have hr_ : opR addE na xs false ys nc us false vs = addE (sg na (val xs), val ys) (sg nc (val us), val vs) := by unfold opR; rw [v1, v2]; rfl
   rw [hr_]
   have IF : Hid (Fz (sg na (val xs), val ys) na xs.length xs ys.length ys) := ⟨p1, by rw [natAbs_sg]; exact p2, rfl, p3, rfl⟩
   have IG : Hid (Fz (sg nc (val us), val vs) nc us.length us vs.length vs) := ⟨p7, by rw [natAbs_sg]; exact p8, rfl, p9, rfl⟩
   generalize (sg na (val xs), val ys) = f at *
   generalize (sg nc (val us), val vs) = g at *
   have NF := hid p4
   have NG := hid p10
   clear hr_ v1 v2 p1 p2 p3 p4 p7 p8 p9 p10
   generalize xs.length = ka at *
   generalize ys.length = la at *
   generalize us.length = kb at *
   generalize vs.length = lb at *
   obtain ⟨r, q, hrq⟩ : ∃ r q, sumS na (f.1.natAbs * g.2) (nc != false) (g.1.natAbs * f.2) = (r, q) := ⟨_, _, rfl⟩
   have hsg : lowE (sg r q) (f.2 * g.2) = addE f g := by
    have h := sumS_sg na (nc != false) (f.1.natAbs * g.2) (g.1.natAbs * f.2)
    rw [hrq] at h
    unfold addE
    rw [h]
    congr 1
    rw [IF.out.sgn]
    first | rw [show (nc != false) = nc by simp, IG.out.sgn] | (rw [sg_flip, IG.out.sgn]; omega)
   have hql : q ≤ f.1.natAbs * g.2 + g.1.natAbs * f.2 := by have := sumS_le na (nc != false) (f.1.natAbs * g.2) (g.1.natAbs * f.2); rwa [hrq] at this
   obtain ⟨k3, L3, I3⟩ := lz q
   obtain ⟨k4, L4, I4⟩ := lz (f.2 * g.2)
   have hk4 : k4 ≤ 50000 := I4.out.le (Nat.le_trans (mul_len IF.out.d IG.out.d) (by omega))
   have hk3 : k3 ≤ 50000 := I3.out.le (Nat.le_trans (limbs_mono hql) (Nat.le_trans (add_len (mul_len IF.out.n IG.out.d) (mul_len IG.out.n IF.out.d) 1024 (by omega) (by omega)) (by omega)))
   have HA := hid fun (w1 : World) (h : Below w.heap.size w w1) => Qadded_g (w := w1) IF.out IG.out (ma.below h) (mb.below h) (mc.below h) (md.below h) p5 p6 p11 p12 hrq I3.out
   have HT := hid fun (w1 : World) (h : Below w.heap.size w w1) => Qtimes_g (w := w1) IF.out.d IG.out.d (mb.below h) (md.below h) (by omega) (by omega) I4.out
   obtain ⟨p, err, hp⟩ : ∃ p err, addE f g = (p, err) := ⟨_, _, rfl⟩
   rw [hp] at hsg ⊢
   obtain ⟨bq, kq, Xq, lq, Yq, IQ⟩ := fz p
   have HM := hid fun (w1 : World) (R Q : Option Addr) (c d : Nat) (m : Mg w1 R c L3) (m' : Mg w1 Q d L4) => Qmade_g (w := w1) I3.out I4.out m m' hk3 hk4 (low_d0 NF.out NG.out) IQ.out hsg
   clear hrq hsg hql I3 I4 hk3 hk4 hp ma mb mc md IF IG NF NG
   go_enter Try.func51, Try.ntmps51
   go_wp2_with fail
   refine enterFFF (P := fun u => Calls _ _ _ u _) ?_
   intro u HB q0 q1 q2 q3 r0 r1 r2 r3 s0 s1 s2 s3 z1 z2 z3 hsz
   clear hsz
   have f_z1 := z1.fr
   have f_z2 := z2.fr
   have f_z3 := z3.fr
   have lt_q0 := cell_lt q0
   have lt_r0 := cell_lt r0
   have lt_s0 := cell_lt s0
   refine (HX.out _ HB).mono ?_
   rintro e w1 ⟨rfl, h1⟩
   have hv_ : Below u.heap.size u w1 := Below.trans (b := _) (by repeat (first | assumption | exact Bv _ _ | refine Ba ?_ (by simp; try omega) _ | refine Bd ?_ | refine Bn ?_ _)) (h1.mono (by simp; try omega))
   replace q0 := keep_cell hv_ q0
   replace q1 := keep_cell hv_ q1
   replace q2 := keep_cell hv_ q2
   replace q3 := keep_cell hv_ q3
   replace r0 := keep_cell hv_ r0
   replace r1 := keep_cell hv_ r1
   replace r2 := keep_cell hv_ r2
   replace r3 := keep_cell hv_ r3
   replace s0 := keep_cell hv_ s0
   replace s1 := keep_cell hv_ s1
   replace s2 := keep_cell hv_ s2
   replace s3 := keep_cell hv_ s3
   have lt_q0 := cell_lt q0
   have lt_q1 := cell_lt q1
   have lt_q2 := cell_lt q2
   have lt_q3 := cell_lt q3
   have lt_r0 := cell_lt r0
   have lt_r1 := cell_lt r1
   have lt_r2 := cell_lt r2
   have lt_r3 := cell_lt r3
   have lt_s0 := cell_lt s0
   have lt_s1 := cell_lt s1
   have lt_s2 := cell_lt s2
   have lt_s3 := cell_lt s3
   replace z1 := z1.below hv_
   replace z2 := z2.below hv_
   replace z3 := z3.below hv_
   replace f_z1 := z1.fr
   replace f_z2 := z2.fr
   replace f_z3 := z3.fr
   replace HB := HB.trans (hv_.mono HB.size)
   clear hv_
   go_wp2_with fail
   refine (HY.out _ HB).mono ?_
   rintro e w2 ⟨rfl, h2⟩
   have hv_ : Below w1.heap.size w1 w2 := Below.trans (b := _) (by repeat (first | assumption | exact Bv _ _ | refine Ba ?_ (by simp; try omega) _ | refine Bd ?_ | refine Bn ?_ _)) (h2.mono (by simp; try omega))
   replace q0 := keep_cell hv_ q0
   replace q1 := keep_cell hv_ q1
   replace q2 := keep_cell hv_ q2
   replace q3 := keep_cell hv_ q3
   replace r0 := keep_cell hv_ r0
   replace r1 := keep_cell hv_ r1
   replace r2 := keep_cell hv_ r2
   replace r3 := keep_cell hv_ r3
   replace s0 := keep_cell hv_ s0
   replace s1 := keep_cell hv_ s1
   replace s2 := keep_cell hv_ s2
   replace s3 := keep_cell hv_ s3
   have lt_q0 := cell_lt q0
   have lt_q1 := cell_lt q1
   have lt_q2 := cell_lt q2
   have lt_q3 := cell_lt q3
   have lt_r0 := cell_lt r0
   have lt_r1 := cell_lt r1
   have lt_r2 := cell_lt r2
   have lt_r3 := cell_lt r3
   have lt_s0 := cell_lt s0
   have lt_s1 := cell_lt s1
   have lt_s2 := cell_lt s2
   have lt_s3 := cell_lt s3
   replace z1 := z1.below hv_
   replace z2 := z2.below hv_
   replace z3 := z3.below hv_
   replace f_z1 := z1.fr
   replace f_z2 := z2.fr
   replace f_z3 := z3.fr
   replace HB := HB.trans (hv_.mono HB.size)
   clear hv_
   go_wp2_with fail
   refine (HA.out _ HB).mono ?_
   rintro e w3 ⟨R1, c1, rfl, m1, h3⟩
   have hv_ : Below w2.heap.size w2 w3 := Below.trans (b := _) (by repeat (first | assumption | exact Bv _ _ | refine Ba ?_ (by simp; try omega) _ | refine Bd ?_ | refine Bn ?_ _)) (h3.mono (by simp; try omega))
   replace q0 := keep_cell hv_ q0
   replace q1 := keep_cell hv_ q1
   replace q2 := keep_cell hv_ q2
   replace q3 := keep_cell hv_ q3
   replace r0 := keep_cell hv_ r0
   replace r1 := keep_cell hv_ r1
   replace r2 := keep_cell hv_ r2
   replace r3 := keep_cell hv_ r3
   replace s0 := keep_cell hv_ s0
   replace s1 := keep_cell hv_ s1
   replace s2 := keep_cell hv_ s2
   replace s3 := keep_cell hv_ s3
   have lt_q0 := cell_lt q0
   have lt_q1 := cell_lt q1
   have lt_q2 := cell_lt q2
   have lt_q3 := cell_lt q3
   have lt_r0 := cell_lt r0
   have lt_r1 := cell_lt r1
   have lt_r2 := cell_lt r2
   have lt_r3 := cell_lt r3
   have lt_s0 := cell_lt s0
   have lt_s1 := cell_lt s1
   have lt_s2 := cell_lt s2
   have lt_s3 := cell_lt s3
   replace z1 := z1.below hv_
   replace z2 := z2.below hv_
   replace z3 := z3.below hv_
   replace f_z1 := z1.fr
   replace f_z2 := z2.fr
   replace f_z3 := z3.fr
   replace HB := HB.trans (hv_.mono HB.size)
   clear hv_
   go_wp2_with fail
   refine (HT.out _ HB).mono ?_
   rintro e w4 ⟨R2, c2, rfl, m2, h4⟩
   have hv_ : Below w3.heap.size w3 w4 := Below.trans (b := _) (by repeat (first | assumption | exact Bv _ _ | refine Ba ?_ (by simp; try omega) _ | refine Bd ?_ | refine Bn ?_ _)) (h4.mono (by simp; try omega))
   replace m1 := m1.below hv_
   replace q0 := keep_cell hv_ q0
   replace q1 := keep_cell hv_ q1
   replace q2 := keep_cell hv_ q2
   replace q3 := keep_cell hv_ q3
   replace r0 := keep_cell hv_ r0
   replace r1 := keep_cell hv_ r1
   replace r2 := keep_cell hv_ r2
   replace r3 := keep_cell hv_ r3
   replace s0 := keep_cell hv_ s0
   replace s1 := keep_cell hv_ s1
   replace s2 := keep_cell hv_ s2
   replace s3 := keep_cell hv_ s3
   have lt_q0 := cell_lt q0
   have lt_q1 := cell_lt q1
   have lt_q2 := cell_lt q2
   have lt_q3 := cell_lt q3
   have lt_r0 := cell_lt r0
   have lt_r1 := cell_lt r1
   have lt_r2 := cell_lt r2
   have lt_r3 := cell_lt r3
   have lt_s0 := cell_lt s0
   have lt_s1 := cell_lt s1
   have lt_s2 := cell_lt s2
   have lt_s3 := cell_lt s3
   replace z1 := z1.below hv_
   replace z2 := z2.below hv_
   replace z3 := z3.below hv_
   replace f_z1 := z1.fr
   replace f_z2 := z2.fr
   replace f_z3 := z3.fr
   replace HB := HB.trans (hv_.mono HB.size)
   clear hv_
   go_wp2_with fail
   refine (HM.out _ _ _ _ _ m1 m2).mono ?_
   rintro e w5 ⟨R3, c3, R4, c4, rfl, m3, m4, h5⟩
   have hv_ : Below w4.heap.size w4 w5 := Below.trans (b := _) (by repeat (first | assumption | exact Bv _ _ | refine Ba ?_ (by simp; try omega) _ | refine Bd ?_ | refine Bn ?_ _)) (h5.mono (by simp; try omega))
   replace q0 := keep_cell hv_ q0
   replace q1 := keep_cell hv_ q1
   replace q2 := keep_cell hv_ q2
   replace q3 := keep_cell hv_ q3
   replace r0 := keep_cell hv_ r0
   replace r1 := keep_cell hv_ r1
   replace r2 := keep_cell hv_ r2
   replace r3 := keep_cell hv_ r3
   replace s0 := keep_cell hv_ s0
   replace s1 := keep_cell hv_ s1
   replace s2 := keep_cell hv_ s2
   replace s3 := keep_cell hv_ s3
   have lt_q0 := cell_lt q0
   have lt_q1 := cell_lt q1
   have lt_q2 := cell_lt q2
   have lt_q3 := cell_lt q3
   have lt_r0 := cell_lt r0
   have lt_r1 := cell_lt r1
   have lt_r2 := cell_lt r2
   have lt_r3 := cell_lt r3
   have lt_s0 := cell_lt s0
   have lt_s1 := cell_lt s1
   have lt_s2 := cell_lt s2
   have lt_s3 := cell_lt s3
   replace z1 := z1.below hv_
   replace z2 := z2.below hv_
   replace z3 := z3.below hv_
   replace f_z1 := z1.fr
   replace f_z2 := z2.fr
   replace f_z3 := z3.fr
   replace HB := HB.trans (hv_.mono HB.size)
   clear hv_
   go_wp2
   refine bodyPost_ret (v := .tuple #[.agg #[.bool bq, .slice R3 kq c3, .bool false, .slice R4 lq c4], .int .i64 err]) ?_ rfl ?_
   ·simp [results, Try.results51, go_sem, s0, s1, s2, s3]
   ·obtain ⟨j1_, j2_, j3_⟩ := fin_fr m3 m4 HB (by omega) s0 s1 s2 s3 (.bool bq) (.slice R3 kq c3) (.bool false) (.slice R4 lq c4)
    exact GF.r ⟨R3, c3, R4, c4, rfl, j1_, j2_, j3_⟩ IQ.out
set_option maxRecDepth 100000 in
set_option maxHeartbeats 4000000 in
theorem QMul_any {na nb nc nd : Bool} {xs ys us vs : List Nat} {A B C D : Option Addr} {ca cb cc cd : Nat} {w : World} (ma : Mg w A ca xs) (mb : Mg w B cb ys) (mc : Mg w C cc us) (md : Mg w D cd vs) :
  Calls Try.prog 50 #[.agg #[.bool na, .slice A xs.length ca, .bool nb, .slice B ys.length cb], .agg #[.bool nc, .slice C us.length cc, .bool nd, .slice D vs.length cd]] w (RetFE w (opR mulE na xs nb ys nc us nd vs)) := by
 have HX := hid fun (w1 : World) (h : Below w.heap.size w w1) => Qvalid_any (na := na) (nb := nb) (w := w1) (ma.below h) (mb.below h)
 have HY := hid fun (w1 : World) (h : Below w.heap.size w w1) => Qvalid_any (na := nc) (nb := nd) (w := w1) (mc.below h) (md.below h)
 cases v1 : fvB na xs nb ys
 ·have hr_ : opR mulE na xs nb ys nc us nd vs = ((0, 0), 1) := by unfold opR; rw [v1]; rfl
  rw [hr_]
  rw [v1] at HX
  clear hr_ v1 ma mb mc md HY
  generalize xs.length = ka at *
  generalize ys.length = la at *
  generalize us.length = kb at *
  generalize vs.length = lb at *
  go_enter Try.func50, Try.ntmps50
  go_wp2_with fail
  refine enterFFF (P := fun u => Calls _ _ _ u _) ?_
  intro u HB q0 q1 q2 q3 r0 r1 r2 r3 s0 s1 s2 s3 z1 z2 z3 hsz
  clear hsz
  have f_z1 := z1.fr
  have f_z2 := z2.fr
  have f_z3 := z3.fr
  have lt_q0 := cell_lt q0
  have lt_r0 := cell_lt r0
  have lt_s0 := cell_lt s0
  refine (HX.out _ HB).mono ?_
  rintro e w1 ⟨rfl, h1⟩
  have hv_ : Below u.heap.size u w1 := Below.trans (b := _) (by repeat (first | assumption | exact Bv _ _ | refine Ba ?_ (by simp; try omega) _ | refine Bd ?_ | refine Bn ?_ _)) (h1.mono (by simp; try omega))
  replace q0 := keep_cell hv_ q0
  replace q1 := keep_cell hv_ q1
  replace q2 := keep_cell hv_ q2
  replace q3 := keep_cell hv_ q3
  replace r0 := keep_cell hv_ r0
  replace r1 := keep_cell hv_ r1
  replace r2 := keep_cell hv_ r2
  replace r3 := keep_cell hv_ r3
  replace s0 := keep_cell hv_ s0
  replace s1 := keep_cell hv_ s1
  replace s2 := keep_cell hv_ s2
  replace s3 := keep_cell hv_ s3
  have lt_q0 := cell_lt q0
  have lt_q1 := cell_lt q1
  have lt_q2 := cell_lt q2
  have lt_q3 := cell_lt q3
  have lt_r0 := cell_lt r0
  have lt_r1 := cell_lt r1
  have lt_r2 := cell_lt r2
  have lt_r3 := cell_lt r3
  have lt_s0 := cell_lt s0
  have lt_s1 := cell_lt s1
  have lt_s2 := cell_lt s2
  have lt_s3 := cell_lt s3
  replace z1 := z1.below hv_
  replace z2 := z2.below hv_
  replace z3 := z3.below hv_
  replace f_z1 := z1.fr
  replace f_z2 := z2.fr
  replace f_z3 := z3.fr
  replace HB := HB.trans (hv_.mono HB.size)
  clear hv_
  go_wp2
  refine bodyPost_ret (v := .tuple #[.agg #[.bool false, .slice none 0 0, .bool false, .slice none 0 0], .int .i64 1]) ?_ rfl ?_
  ·simp [results, Try.results50, go_sem, s0, s1, s2, s3]
  ·exact retFE_set 1 HB (by omega) s0 s1 s2 s3
 ·rw [v1] at HX
  cases v2 : fvB nc us nd vs
  ·have hr_ : opR mulE na xs nb ys nc us nd vs = ((0, 0), 1) := by unfold opR; rw [v1, v2]; rfl
   rw [hr_]
   rw [v2] at HY
   clear hr_ v1 v2 ma mb mc md
   generalize xs.length = ka at *
   generalize ys.length = la at *
   generalize us.length = kb at *
   generalize vs.length = lb at *
   go_enter Try.func50, Try.ntmps50
   go_wp2_with fail
   refine enterFFF (P := fun u => Calls _ _ _ u _) ?_
   intro u HB q0 q1 q2 q3 r0 r1 r2 r3 s0 s1 s2 s3 z1 z2 z3 hsz
   clear hsz
   have f_z1 := z1.fr
   have f_z2 := z2.fr
   have f_z3 := z3.fr
   have lt_q0 := cell_lt q0
   have lt_r0 := cell_lt r0
   have lt_s0 := cell_lt s0
   refine (HX.out _ HB).mono ?_
   rintro e w1 ⟨rfl, h1⟩
   have hv_ : Below u.heap.size u w1 := Below.trans (b := _) (by repeat (first | assumption | exact Bv _ _ | refine Ba ?_ (by simp; try omega) _ | refine Bd ?_ | refine Bn ?_ _)) (h1.mono (by simp; try omega))
   replace q0 := keep_cell hv_ q0
   replace q1 := keep_cell hv_ q1
   replace q2 := keep_cell hv_ q2
   replace q3 := keep_cell hv_ q3
   replace r0 := keep_cell hv_ r0
   replace r1 := keep_cell hv_ r1
   replace r2 := keep_cell hv_ r2
   replace r3 := keep_cell hv_ r3
   replace s0 := keep_cell hv_ s0
   replace s1 := keep_cell hv_ s1
   replace s2 := keep_cell hv_ s2
   replace s3 := keep_cell hv_ s3
   have lt_q0 := cell_lt q0
   have lt_q1 := cell_lt q1
   have lt_q2 := cell_lt q2
   have lt_q3 := cell_lt q3
   have lt_r0 := cell_lt r0
   have lt_r1 := cell_lt r1
   have lt_r2 := cell_lt r2
   have lt_r3 := cell_lt r3
   have lt_s0 := cell_lt s0
   have lt_s1 := cell_lt s1
   have lt_s2 := cell_lt s2
   have lt_s3 := cell_lt s3
   replace z1 := z1.below hv_
   replace z2 := z2.below hv_
   replace z3 := z3.below hv_
   replace f_z1 := z1.fr
   replace f_z2 := z2.fr
   replace f_z3 := z3.fr
   replace HB := HB.trans (hv_.mono HB.size)
   clear hv_
   go_wp2_with fail
   refine (HY.out _ HB).mono ?_
   rintro e w2 ⟨rfl, h2⟩
   have hv_ : Below w1.heap.size w1 w2 := Below.trans (b := _) (by repeat (first | assumption | exact Bv _ _ | refine Ba ?_ (by simp; try omega) _ | refine Bd ?_ | refine Bn ?_ _)) (h2.mono (by simp; try omega))
   replace q0 := keep_cell hv_ q0
   replace q1 := keep_cell hv_ q1
   replace q2 := keep_cell hv_ q2
   replace q3 := keep_cell hv_ q3
   replace r0 := keep_cell hv_ r0
   replace r1 := keep_cell hv_ r1
   replace r2 := keep_cell hv_ r2
   replace r3 := keep_cell hv_ r3
   replace s0 := keep_cell hv_ s0
   replace s1 := keep_cell hv_ s1
   replace s2 := keep_cell hv_ s2
   replace s3 := keep_cell hv_ s3
   have lt_q0 := cell_lt q0
   have lt_q1 := cell_lt q1
   have lt_q2 := cell_lt q2
   have lt_q3 := cell_lt q3
   have lt_r0 := cell_lt r0
   have lt_r1 := cell_lt r1
   have lt_r2 := cell_lt r2
   have lt_r3 := cell_lt r3
   have lt_s0 := cell_lt s0
   have lt_s1 := cell_lt s1
   have lt_s2 := cell_lt s2
   have lt_s3 := cell_lt s3
   replace z1 := z1.below hv_
   replace z2 := z2.below hv_
   replace z3 := z3.below hv_
   replace f_z1 := z1.fr
   replace f_z2 := z2.fr
   replace f_z3 := z3.fr
   replace HB := HB.trans (hv_.mono HB.size)
   clear hv_
   go_wp2
   refine bodyPost_ret (v := .tuple #[.agg #[.bool false, .slice none 0 0, .bool false, .slice none 0 0], .int .i64 1]) ?_ rfl ?_
   ·simp [results, Try.results50, go_sem, s0, s1, s2, s3]
   ·exact retFE_set 1 HB (by omega) s0 s1 s2 s3
  ·rw [v2] at HY
   obtain ⟨rfl, p1, p2, p3, p4, p5, p6⟩ := fvB_ok ma.ok mb.ok v1
   obtain ⟨rfl, p7, p8, p9, p10, p11, p12⟩ := fvB_ok mc.ok md.ok v2
   have hr_ : opR mulE na xs false ys nc us false vs = mulE (sg na (val xs), val ys) (sg nc (val us), val vs) := by unfold opR; rw [v1, v2]; rfl
   rw [hr_]
   have IF : Hid (Fz (sg na (val xs), val ys) na xs.length xs ys.length ys) := ⟨p1, by rw [natAbs_sg]; exact p2, rfl, p3, rfl⟩
   have IG : Hid (Fz (sg nc (val us), val vs) nc us.length us vs.length vs) := ⟨p7, by rw [natAbs_sg]; exact p8, rfl, p9, rfl⟩
   generalize (sg na (val xs), val ys) = f at *
   generalize (sg nc (val us), val vs) = g at *
   have NF := hid p4
   have NG := hid p10
   clear hr_ v1 v2 p1 p2 p3 p4 p7 p8 p9 p10
   generalize xs.length = ka at *
   generalize ys.length = la at *
   generalize us.length = kb at *
   generalize vs.length = lb at *
   have hsg : lowE (sg (!(na == nc)) (f.1.natAbs * g.1.natAbs)) (f.2 * g.2) = mulE f g := by unfold mulE; rw [← IF.out.sgd IG.out]; rfl
   obtain ⟨k3, L3, I3⟩ := lz (f.1.natAbs * g.1.natAbs)
   obtain ⟨k4, L4, I4⟩ := lz (f.2 * g.2)
   have hk3 : k3 ≤ 50000 := I3.out.le (Nat.le_trans (mul_len IF.out.n IG.out.n) (by omega))
   have hk4 : k4 ≤ 50000 := I4.out.le (Nat.le_trans (mul_len IF.out.d IG.out.d) (by omega))
   have HT1 := hid fun (w1 : World) (h : Below w.heap.size w w1) => Qtimes_g (w := w1) IF.out.n IG.out.n (ma.below h) (mc.below h) (by omega) (by omega) I3.out
   have HT2 := hid fun (w1 : World) (h : Below w.heap.size w w1) => Qtimes_g (w := w1) IF.out.d IG.out.d (mb.below h) (md.below h) (by omega) (by omega) I4.out
   obtain ⟨p, err, hp⟩ : ∃ p err, mulE f g = (p, err) := ⟨_, _, rfl⟩
   rw [hp] at hsg ⊢
   obtain ⟨bq, kq, Xq, lq, Yq, IQ⟩ := fz p
   have HM := hid fun (w1 : World) (R Q : Option Addr) (c d : Nat) (m : Mg w1 R c L3) (m' : Mg w1 Q d L4) => Qmade_g (w := w1) I3.out I4.out m m' hk3 hk4 (low_d0 NF.out NG.out) IQ.out hsg
   clear hsg I3 I4 hk3 hk4 hp ma mb mc md IF IG NF NG
   go_enter Try.func50, Try.ntmps50
   go_wp2_with fail
   refine enterFFF (P := fun u => Calls _ _ _ u _) ?_
   intro u HB q0 q1 q2 q3 r0 r1 r2 r3 s0 s1 s2 s3 z1 z2 z3 hsz
   clear hsz
   have f_z1 := z1.fr
   have f_z2 := z2.fr
   have f_z3 := z3.fr
   have lt_q0 := cell_lt q0
   have lt_r0 := cell_lt r0
   have lt_s0 := cell_lt s0
   refine (HX.out _ HB).mono ?_
   rintro e w1 ⟨rfl, h1⟩
   have hv_ : Below u.heap.size u w1 := Below.trans (b := _) (by repeat (first | assumption | exact Bv _ _ | refine Ba ?_ (by simp; try omega) _ | refine Bd ?_ | refine Bn ?_ _)) (h1.mono (by simp; try omega))
   replace q0 := keep_cell hv_ q0
   replace q1 := keep_cell hv_ q1
   replace q2 := keep_cell hv_ q2
   replace q3 := keep_cell hv_ q3
   replace r0 := keep_cell hv_ r0
   replace r1 := keep_cell hv_ r1
   replace r2 := keep_cell hv_ r2
   replace r3 := keep_cell hv_ r3
   replace s0 := keep_cell hv_ s0
   replace s1 := keep_cell hv_ s1
   replace s2 := keep_cell hv_ s2
   replace s3 := keep_cell hv_ s3
   have lt_q0 := cell_lt q0
   have lt_q1 := cell_lt q1
   have lt_q2 := cell_lt q2
   have lt_q3 := cell_lt q3
   have lt_r0 := cell_lt r0
   have lt_r1 := cell_lt r1
   have lt_r2 := cell_lt r2
   have lt_r3 := cell_lt r3
   have lt_s0 := cell_lt s0
   have lt_s1 := cell_lt s1
   have lt_s2 := cell_lt s2
   have lt_s3 := cell_lt s3
   replace z1 := z1.below hv_
   replace z2 := z2.below hv_
   replace z3 := z3.below hv_
   replace f_z1 := z1.fr
   replace f_z2 := z2.fr
   replace f_z3 := z3.fr
   replace HB := HB.trans (hv_.mono HB.size)
   clear hv_
   go_wp2_with fail
   refine (HY.out _ HB).mono ?_
   rintro e w2 ⟨rfl, h2⟩
   have hv_ : Below w1.heap.size w1 w2 := Below.trans (b := _) (by repeat (first | assumption | exact Bv _ _ | refine Ba ?_ (by simp; try omega) _ | refine Bd ?_ | refine Bn ?_ _)) (h2.mono (by simp; try omega))
   replace q0 := keep_cell hv_ q0
   replace q1 := keep_cell hv_ q1
   replace q2 := keep_cell hv_ q2
   replace q3 := keep_cell hv_ q3
   replace r0 := keep_cell hv_ r0
   replace r1 := keep_cell hv_ r1
   replace r2 := keep_cell hv_ r2
   replace r3 := keep_cell hv_ r3
   replace s0 := keep_cell hv_ s0
   replace s1 := keep_cell hv_ s1
   replace s2 := keep_cell hv_ s2
   replace s3 := keep_cell hv_ s3
   have lt_q0 := cell_lt q0
   have lt_q1 := cell_lt q1
   have lt_q2 := cell_lt q2
   have lt_q3 := cell_lt q3
   have lt_r0 := cell_lt r0
   have lt_r1 := cell_lt r1
   have lt_r2 := cell_lt r2
   have lt_r3 := cell_lt r3
   have lt_s0 := cell_lt s0
   have lt_s1 := cell_lt s1
   have lt_s2 := cell_lt s2
   have lt_s3 := cell_lt s3
   replace z1 := z1.below hv_
   replace z2 := z2.below hv_
   replace z3 := z3.below hv_
   replace f_z1 := z1.fr
   replace f_z2 := z2.fr
   replace f_z3 := z3.fr
   replace HB := HB.trans (hv_.mono HB.size)
   clear hv_
   go_wp2_with fail
   go_region_held3 (fun w' => (w'.cell? ⟨w.heap.size, 0, none⟩ = some (.bool na) ∧ w'.cell? ⟨w.heap.size, 1, none⟩ = some (.slice A ka ca) ∧ w'.cell? ⟨w.heap.size, 2, none⟩ = some (.bool false) ∧ w'.cell? ⟨w.heap.size, 3, none⟩ = some (.slice B la cb)) ∧ (w'.cell? ⟨w.heap.size + 1, 0, none⟩ = some (.bool nc) ∧ w'.cell? ⟨w.heap.size + 1, 1, none⟩ = some (.slice C kb cc) ∧ w'.cell? ⟨w.heap.size + 1, 2, none⟩ = some (.bool false) ∧ w'.cell? ⟨w.heap.size + 1, 3, none⟩ = some (.slice D lb cd))) (first | ((try dsimp only); repeat' (first | with_reducible assumption | apply And.intro | (with_reducible refine keep_alloc ?_) | (with_reducible refine keep_drew ?_) | (with_reducible refine keep_set (by first | omega | (simp only [World.size_alloc, World.size_setCell, World.size_drew]; done) | (simp only [World.size_alloc, World.size_setCell, World.size_drew]; omega)) ?_) | (with_reducible refine keep_cell (W := w2) ?_ ?_) | fail))) (first | (go_at_call 75; (with_reducible refine (HT1.out _ (bel_step HB BG)).mono ?_); rintro e y1 ⟨R1, c1, rfl, m1, hq_⟩; have qy1 : Below w2.heap.size w2 y1 := bel_step BG hq_) | (go_at_call 75; (with_reducible refine (HT2.out _ (bel_step HB BG)).mono ?_); rintro e y2 ⟨R2, c2, rfl, m2, hq_⟩; have qy2 : Below w2.heap.size w2 y2 := bel_step BG hq_) | (go_at_call 66; (with_reducible refine (HM.out _ _ _ _ _ (m1.below BG) (m2.below BG)).mono ?_); rintro e y3 ⟨R3, c3, R4, c4, rfl, m3, m4, hq_⟩; have qy3 : Below w2.heap.size w2 y3 := bel_step BG hq_; have s0 := keep_cell qy3 s0; have s1 := keep_cell qy3 s1; have s2 := keep_cell qy3 s2; have s3 := keep_cell qy3 s3; have z3 := z3.below qy3; have f_z3 := z3.fr))
   all_goals
    replace HB := bel_step HB qy3
    go_wp2
    refine bodyPost_ret (v := .tuple #[.agg #[.bool bq, .slice R3 kq c3, .bool false, .slice R4 lq c4], .int .i64 err]) ?_ rfl ?_
    ·simp [results, Try.results50, go_sem, s0, s1, s2, s3]
    ·obtain ⟨j1_, j2_, j3_⟩ := fin_fr m3 m4 HB (by omega) s0 s1 s2 s3 (.bool bq) (.slice R3 kq c3) (.bool false) (.slice R4 lq c4)
     exact GF.r ⟨R3, c3, R4, c4, rfl, j1_, j2_, j3_⟩ IQ.out
end Go.Proofs.Ytglailcfgcdagaa
/- The fractions' reference: walks of Cmp, floor, Floor, Round, SameInt, Same. Conditions: none. -/
namespace Go.Proofs.Ytglailcfgcdagaa
open Go.RowKit Big
theorem RetIE.mk {w w' : World} {z err : Int} (h : Below w.heap.size w w') : RetIE w z err (.returned (.tuple #[.int .i64 z, .int .i64 err])) w' := ⟨rfl, h⟩
set_option maxRecDepth 100000 in
set_option maxHeartbeats 2000000 in
theorem QSameInt_g {x y : Int} {b b' : Bool} {n n' : Nat} {L L' : List Nat} {A B : Option Addr} {c d : Nat} {w : World} (hx : Iz x b n L) (hy : Iz y b' n' L') (ma : Mg w A c L) (mb : Mg w B d L') (t : Bool) (h : decide (x = y) = t) :
  Calls Try.prog 46 #[.agg #[.bool b, .slice A n c], .agg #[.bool b', .slice B n' d]] w (RetB w t) := by
 have hi := iz_inj hx hy
 by_cases hb : b = b'
 ·by_cases hn : n = n'
  ·subst hb
   have hk := hx.hn
   have hk2 := hy.hn
   have hL1 : Nrm L := by rw [hx.hx]; exact nrm_limbs _
   have hL2 : Nrm L' := by rw [hy.hx]; exact nrm_limbs _
   have ht : t = (ord (val L) (val L') == 0) := by
    rw [← h, Bool.eq_iff_iff, decide_eq_true_eq, beq_iff_eq, ← hi]
    simp only [true_and]
    unfold ord
    constructor
    ·intro e; rw [e]; simp
    ·intro e; split at e; · omega
     split at e <;> omega
   have HC := hid fun (w1 : World) (h : Below w.heap.size w w1) => Qcompare_any A B c d L L' w1 (ma.below h) (mb.below h) hL1 hL2
   rw [← hk, ← hk2] at HC
   subst hn
   subst ht
   generalize ord (val L) (val L') = o at *
   clear hi hk hk2 hL1 hL2 h hx hy ma mb
   cases b
   all_goals
    go_enter Try.func46, Try.ntmps46
    go_wp2_with fail
    refine enterII (P := fun u => Calls _ _ _ u _) ?_
    intro u HB q0 q1 r0 r1 z1 z2 hsz
    clear hsz
    have f_z1 := z1.fr
    have f_z2 := z2.fr
    have lt_q0 := cell_lt q0
    have lt_r0 := cell_lt r0
    refine (HC.out _ HB).mono ?_
    rintro e w1 ⟨rfl, h1⟩
    have hv_ : Below u.heap.size u w1 := Below.trans (b := _) (by repeat (first | assumption | exact Bv _ _ | refine Ba ?_ (by simp; try omega) _ | refine Bd ?_ | refine Bn ?_ _)) (h1.mono (by simp; try omega))
    replace HB := HB.trans (hv_.mono HB.size)
    clear hv_
    go_wp2
    go_ret
    exact ⟨rfl, HB⟩
  ·have ht : t = false := by
    rw [← h, decide_eq_false_iff_not]; rintro rfl; exact hn (by rw [hx.hn, hy.hn, hx.hx, hy.hx])
   have hnn : ((n : Int) == (n' : Int)) = false := by rw [beq_eq_false_iff_ne]; omega
   subst hb
   subst ht
   clear hi h hx hy ma mb hn
   cases b
   all_goals
    go_enter Try.func46, Try.ntmps46
    go_wp2
    go_ret
    exact ⟨rfl, ((Below.refl _ _).alloc (Nat.le_refl _) _).alloc (by simp) _⟩
 ·have ht : t = false := by rw [← h, decide_eq_false_iff_not]; intro e; exact hb (hi.2 e).1
  subst ht
  clear hi h hx hy ma mb
  cases b <;> cases b'
  ·exact absurd rfl hb
  ·go_enter Try.func46, Try.ntmps46
   go_wp2
   go_ret
   exact ⟨rfl, ((Below.refl _ _).alloc (Nat.le_refl _) _).alloc (by simp) _⟩
  ·go_enter Try.func46, Try.ntmps46
   go_wp2
   go_ret
   exact ⟨rfl, ((Below.refl _ _).alloc (Nat.le_refl _) _).alloc (by simp) _⟩
  ·exact absurd rfl hb
set_option maxRecDepth 100000 in
set_option maxHeartbeats 2000000 in
theorem QSame_g {f g : Int × Nat} {b b' : Bool} {k l k' l' : Nat} {xs ys us vs : List Nat} {A B C D : Option Addr} {ca cb cc cd : Nat} {w : World} (hf : Fz f b k xs l ys) (hg : Fz g b' k' us l' vs) (ma : Mg w A ca xs) (mb : Mg w B cb ys) (mc : Mg w C cc us) (md : Mg w D cd vs) (t : Bool) (h : decide (f = g) = t) :
  Calls Try.prog 19 #[.agg #[.bool b, .slice A k ca, .bool false, .slice B l cb], .agg #[.bool b', .slice C k' cc, .bool false, .slice D l' cd]] w (RetB w t) := by
 have h1 := hid fun (w1 : World) (h : Below w.heap.size w w1) => QSameInt_g (w := w1) hf.num hg.num (ma.below h) (mc.below h) _ rfl
 have h2 := hid fun (w1 : World) (h : Below w.heap.size w w1) => QSameInt_g (w := w1) hf.den hg.den (mb.below h) (md.below h) _ rfl
 have e : t = (decide (f.1 = g.1) && decide ((f.2 : Int) = (g.2 : Int))) := by
  rw [← h, Bool.eq_iff_iff]; simp only [decide_eq_true_eq, Bool.and_eq_true]; rw [Prod.ext_iff]; omega
 subst e
 generalize decide (f.1 = g.1) = t1 at *
 generalize decide ((f.2 : Int) = (g.2 : Int)) = t2 at *
 clear hf hg ma mb mc md h
 cases t1
 ·go_enter Try.func19, Try.ntmps19
  go_wp2_with fail
  refine enterFF (P := fun u => Calls _ _ _ u _) ?_
  intro u HB q0 q1 q2 q3 r0 r1 r2 r3 z1 z2 hsz
  clear hsz
  have f_z1 := z1.fr
  have f_z2 := z2.fr
  have lt_q0 := cell_lt q0
  have lt_r0 := cell_lt r0
  refine (h1.out _ HB).mono ?_
  rintro e w1 ⟨rfl, h1_⟩
  have hv_ : Below u.heap.size u w1 := Below.trans (b := _) (by repeat (first | assumption | exact Bv _ _ | refine Ba ?_ (by simp; try omega) _ | refine Bd ?_ | refine Bn ?_ _)) (h1_.mono (by simp; try omega))
  replace q0 := keep_cell hv_ q0
  replace q1 := keep_cell hv_ q1
  replace q2 := keep_cell hv_ q2
  replace q3 := keep_cell hv_ q3
  replace r0 := keep_cell hv_ r0
  replace r1 := keep_cell hv_ r1
  replace r2 := keep_cell hv_ r2
  replace r3 := keep_cell hv_ r3
  have lt_q0 := cell_lt q0
  have lt_q1 := cell_lt q1
  have lt_q2 := cell_lt q2
  have lt_q3 := cell_lt q3
  have lt_r0 := cell_lt r0
  have lt_r1 := cell_lt r1
  have lt_r2 := cell_lt r2
  have lt_r3 := cell_lt r3
  replace HB := HB.trans (hv_.mono HB.size)
  clear hv_
  go_wp2
  go_ret
  exact ⟨rfl, HB⟩
 ·go_enter Try.func19, Try.ntmps19
  go_wp2_with fail
  refine enterFF (P := fun u => Calls _ _ _ u _) ?_
  intro u HB q0 q1 q2 q3 r0 r1 r2 r3 z1 z2 hsz
  clear hsz
  have f_z1 := z1.fr
  have f_z2 := z2.fr
  have lt_q0 := cell_lt q0
  have lt_r0 := cell_lt r0
  refine (h1.out _ HB).mono ?_
  rintro e w1 ⟨rfl, h1_⟩
  have hv_ : Below u.heap.size u w1 := Below.trans (b := _) (by repeat (first | assumption | exact Bv _ _ | refine Ba ?_ (by simp; try omega) _ | refine Bd ?_ | refine Bn ?_ _)) (h1_.mono (by simp; try omega))
  replace q0 := keep_cell hv_ q0
  replace q1 := keep_cell hv_ q1
  replace q2 := keep_cell hv_ q2
  replace q3 := keep_cell hv_ q3
  replace r0 := keep_cell hv_ r0
  replace r1 := keep_cell hv_ r1
  replace r2 := keep_cell hv_ r2
  replace r3 := keep_cell hv_ r3
  have lt_q0 := cell_lt q0
  have lt_q1 := cell_lt q1
  have lt_q2 := cell_lt q2
  have lt_q3 := cell_lt q3
  have lt_r0 := cell_lt r0
  have lt_r1 := cell_lt r1
  have lt_r2 := cell_lt r2
  have lt_r3 := cell_lt r3
  replace HB := HB.trans (hv_.mono HB.size)
  clear hv_
  go_wp2_with fail
  refine (h2.out _ HB).mono ?_
  rintro e w2 ⟨rfl, h2_⟩
  have hv_ : Below w1.heap.size w1 w2 := Below.trans (b := _) (by repeat (first | assumption | exact Bv _ _ | refine Ba ?_ (by simp; try omega) _ | refine Bd ?_ | refine Bn ?_ _)) (h2_.mono (by simp; try omega))
  replace HB := HB.trans (hv_.mono HB.size)
  clear hv_
  go_wp2
  go_ret
  exact ⟨by simp, HB⟩
end Go.Proofs.Ytglailcfgcdagaa
