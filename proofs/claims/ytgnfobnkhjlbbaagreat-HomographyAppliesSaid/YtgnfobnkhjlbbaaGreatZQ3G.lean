/- The fractions' reference: walks of New, Of. Conditions: none. -/
import Derived.Test.YtgnfobnkhjlbbaaGreatZXG
import Derived.Test.YtgnfobnkhjlbbaaGreatZYM2
set_option linter.unusedVariables false
set_option linter.unusedSimpArgs false
namespace Go.Proofs.YtgnfobnkhjlbbaaGreat
open Go.RowKit Big
set_option maxRecDepth 100000 in
set_option maxHeartbeats 2000000 in
theorem QNew_any {na nb : Bool} {xs ys : List Nat} {A B : Option Addr} {ca cb : Nat} {w : World} (ha : Mg w A ca xs) (hb : Mg w B cb ys) :
  Calls Tryz.prog 65 #[.agg #[.bool na, .slice A xs.length ca], .agg #[.bool nb, .slice B ys.length cb]] w (RetFE w (newR na xs nb ys)) := by
 have HX := hid fun (w1 : World) (h : Below w.heap.size w w1) => RValid_any na A ca xs w1 (ha.below h)
 have HY := hid fun (w1 : World) (h : Below w.heap.size w w1) => RValid_any nb B cb ys w1 (hb.below h)
 cases v1 : validB na xs
 ·have hr : newR na xs nb ys = ((0, 0), 1) := by unfold newR; rw [v1]; rfl
  rw [hr]
  rw [v1] at HX
  clear hr v1 ha hb HY
  generalize xs.length = k at *
  generalize ys.length = l at *
  go_enter Tryz.func65, Tryz.ntmps65
  go_wp2_with fail
  refine enterIIF (P := fun u => Calls _ _ _ u _) ?_
  intro u HB q0 q1 r0 r1 s0 s1 s2 s3 z1 z2 z3 hsz
  clear hsz
  have f_z1 := z1.fr
  have f_z2 := z2.fr
  have f_z3 := z3.fr
  have lt_q0 := cell_lt q0
  have lt_r0 := cell_lt r0
  have lt_s0 := cell_lt s0
  refine (HX.out _ HB).mono ?_
  rintro e w1 ⟨rfl, h1⟩
  have hv_ : Below u.heap.size u w1 := Below.trans (b := _) (by repeat (first | assumption | exact Bv _ _ | refine Ba ?_ (by simp; try omega) _ | refine Bd ?_ | refine Bn ?_ _)) (h1.mono (by simp; try omega))
  replace q0 := keep_cell hv_ q0
  replace q1 := keep_cell hv_ q1
  replace r0 := keep_cell hv_ r0
  replace r1 := keep_cell hv_ r1
  replace s0 := keep_cell hv_ s0
  replace s1 := keep_cell hv_ s1
  replace s2 := keep_cell hv_ s2
  replace s3 := keep_cell hv_ s3
  have lt_q0 := cell_lt q0
  have lt_q1 := cell_lt q1
  have lt_r0 := cell_lt r0
  have lt_r1 := cell_lt r1
  have lt_s0 := cell_lt s0
  have lt_s1 := cell_lt s1
  have lt_s2 := cell_lt s2
  have lt_s3 := cell_lt s3
  replace z1 := z1.below hv_
  replace z2 := z2.below hv_
  replace z3 := z3.below hv_
  replace f_z1 := z1.fr
  replace f_z2 := z2.fr
  replace f_z3 := z3.fr
  replace HB := HB.trans (hv_.mono HB.size)
  clear hv_
  go_wp2
  refine bodyPost_ret (v := .tuple #[.agg #[.bool false, .slice none 0 0, .bool false, .slice none 0 0], .int .i64 1]) ?_ rfl ?_
  ·simp [results, Tryz.results65, go_sem, s0, s1, s2, s3]
  ·exact retFE_set 1 HB (by omega) s0 s1 s2 s3
 ·rw [v1] at HX
  cases v2 : validB nb ys
  ·have hr : newR na xs nb ys = ((0, 0), 1) := by unfold newR; rw [v1, v2]; rfl
   rw [hr]
   rw [v2] at HY
   clear hr v1 v2 ha hb
   generalize xs.length = k at *
   generalize ys.length = l at *
   go_enter Tryz.func65, Tryz.ntmps65
   go_wp2_with fail
   refine enterIIF (P := fun u => Calls _ _ _ u _) ?_
   intro u HB q0 q1 r0 r1 s0 s1 s2 s3 z1 z2 z3 hsz
   clear hsz
   have f_z1 := z1.fr
   have f_z2 := z2.fr
   have f_z3 := z3.fr
   have lt_q0 := cell_lt q0
   have lt_r0 := cell_lt r0
   have lt_s0 := cell_lt s0
   refine (HX.out _ HB).mono ?_
   rintro e w1 ⟨rfl, h1⟩
   have hv_ : Below u.heap.size u w1 := Below.trans (b := _) (by repeat (first | assumption | exact Bv _ _ | refine Ba ?_ (by simp; try omega) _ | refine Bd ?_ | refine Bn ?_ _)) (h1.mono (by simp; try omega))
   replace q0 := keep_cell hv_ q0
   replace q1 := keep_cell hv_ q1
   replace r0 := keep_cell hv_ r0
   replace r1 := keep_cell hv_ r1
   replace s0 := keep_cell hv_ s0
   replace s1 := keep_cell hv_ s1
   replace s2 := keep_cell hv_ s2
   replace s3 := keep_cell hv_ s3
   have lt_q0 := cell_lt q0
   have lt_q1 := cell_lt q1
   have lt_r0 := cell_lt r0
   have lt_r1 := cell_lt r1
   have lt_s0 := cell_lt s0
   have lt_s1 := cell_lt s1
   have lt_s2 := cell_lt s2
   have lt_s3 := cell_lt s3
   replace z1 := z1.below hv_
   replace z2 := z2.below hv_
   replace z3 := z3.below hv_
   replace f_z1 := z1.fr
   replace f_z2 := z2.fr
   replace f_z3 := z3.fr
   replace HB := HB.trans (hv_.mono HB.size)
   clear hv_
   go_wp2_with fail
   refine (HY.out _ HB).mono ?_
   rintro e w2 ⟨rfl, h2⟩
   have hv_ : Below w1.heap.size w1 w2 := Below.trans (b := _) (by repeat (first | assumption | exact Bv _ _ | refine Ba ?_ (by simp; try omega) _ | refine Bd ?_ | refine Bn ?_ _)) (h2.mono (by simp; try omega))
   replace q0 := keep_cell hv_ q0
   replace q1 := keep_cell hv_ q1
   replace r0 := keep_cell hv_ r0
   replace r1 := keep_cell hv_ r1
   replace s0 := keep_cell hv_ s0
   replace s1 := keep_cell hv_ s1
   replace s2 := keep_cell hv_ s2
   replace s3 := keep_cell hv_ s3
   have lt_q0 := cell_lt q0
   have lt_q1 := cell_lt q1
   have lt_r0 := cell_lt r0
   have lt_r1 := cell_lt r1
   have lt_s0 := cell_lt s0
   have lt_s1 := cell_lt s1
   have lt_s2 := cell_lt s2
   have lt_s3 := cell_lt s3
   replace z1 := z1.below hv_
   replace z2 := z2.below hv_
   replace z3 := z3.below hv_
   replace f_z1 := z1.fr
   replace f_z2 := z2.fr
   replace f_z3 := z3.fr
   replace HB := HB.trans (hv_.mono HB.size)
   clear hv_
   go_wp2
   refine bodyPost_ret (v := .tuple #[.agg #[.bool false, .slice none 0 0, .bool false, .slice none 0 0], .int .i64 1]) ?_ rfl ?_
   ·simp [results, Tryz.results65, go_sem, s0, s1, s2, s3]
   ·exact retFE_set 1 HB (by omega) s0 s1 s2 s3
  ·rw [v2] at HY
   obtain ⟨p1, p2, p3⟩ := validB_limbs ha.ok v1
   obtain ⟨q1, q2, q3⟩ := validB_limbs hb.ok v2
   have b1 := validB_len v1
   have b2 := validB_len v2
   have ix : Lz (val xs) xs.length xs := ⟨p1, rfl⟩
   have iy : Lz (val ys) ys.length ys := ⟨q1, rfl⟩
   by_cases h0 : val ys = 0
   ·have hr : newR na xs nb ys = ((0, 0), 12) := by unfold newR newE; rw [v1, v2, h0, sg_zero]; simp
    have hl : ys.length = 0 := iy.zero.2 h0
    rw [hr, hl]
    rw [hl] at HY
    clear hr hl v1 v2 ha hb p1 p2 p3 q1 q2 q3 b1 b2 ix iy h0
    generalize xs.length = k at *
    go_enter Tryz.func65, Tryz.ntmps65
    go_wp2_with fail
    refine enterIIF (P := fun u => Calls _ _ _ u _) ?_
    intro u HB q0 q1 r0 r1 s0 s1 s2 s3 z1 z2 z3 hsz
    clear hsz
    have f_z1 := z1.fr
    have f_z2 := z2.fr
    have f_z3 := z3.fr
    have lt_q0 := cell_lt q0
    have lt_r0 := cell_lt r0
    have lt_s0 := cell_lt s0
    refine (HX.out _ HB).mono ?_
    rintro e w1 ⟨rfl, h1⟩
    have hv_ : Below u.heap.size u w1 := Below.trans (b := _) (by repeat (first | assumption | exact Bv _ _ | refine Ba ?_ (by simp; try omega) _ | refine Bd ?_ | refine Bn ?_ _)) (h1.mono (by simp; try omega))
    replace q0 := keep_cell hv_ q0
    replace q1 := keep_cell hv_ q1
    replace r0 := keep_cell hv_ r0
    replace r1 := keep_cell hv_ r1
    replace s0 := keep_cell hv_ s0
    replace s1 := keep_cell hv_ s1
    replace s2 := keep_cell hv_ s2
    replace s3 := keep_cell hv_ s3
    have lt_q0 := cell_lt q0
    have lt_q1 := cell_lt q1
    have lt_r0 := cell_lt r0
    have lt_r1 := cell_lt r1
    have lt_s0 := cell_lt s0
    have lt_s1 := cell_lt s1
    have lt_s2 := cell_lt s2
    have lt_s3 := cell_lt s3
    replace z1 := z1.below hv_
    replace z2 := z2.below hv_
    replace z3 := z3.below hv_
    replace f_z1 := z1.fr
    replace f_z2 := z2.fr
    replace f_z3 := z3.fr
    replace HB := HB.trans (hv_.mono HB.size)
    clear hv_
    go_wp2_with fail
    refine (HY.out _ HB).mono ?_
    rintro e w2 ⟨rfl, h2⟩
    have hv_ : Below w1.heap.size w1 w2 := Below.trans (b := _) (by repeat (first | assumption | exact Bv _ _ | refine Ba ?_ (by simp; try omega) _ | refine Bd ?_ | refine Bn ?_ _)) (h2.mono (by simp; try omega))
    replace q0 := keep_cell hv_ q0
    replace q1 := keep_cell hv_ q1
    replace r0 := keep_cell hv_ r0
    replace r1 := keep_cell hv_ r1
    replace s0 := keep_cell hv_ s0
    replace s1 := keep_cell hv_ s1
    replace s2 := keep_cell hv_ s2
    replace s3 := keep_cell hv_ s3
    have lt_q0 := cell_lt q0
    have lt_q1 := cell_lt q1
    have lt_r0 := cell_lt r0
    have lt_r1 := cell_lt r1
    have lt_s0 := cell_lt s0
    have lt_s1 := cell_lt s1
    have lt_s2 := cell_lt s2
    have lt_s3 := cell_lt s3
    replace z1 := z1.below hv_
    replace z2 := z2.below hv_
    replace z3 := z3.below hv_
    replace f_z1 := z1.fr
    replace f_z2 := z2.fr
    replace f_z3 := z3.fr
    replace HB := HB.trans (hv_.mono HB.size)
    clear hv_
    go_wp2
    refine bodyPost_ret (v := .tuple #[.agg #[.bool false, .slice none 0 0, .bool false, .slice none 0 0], .int .i64 12]) ?_ rfl ?_
    ·simp [results, Tryz.results65, go_sem, s0, s1, s2, s3]
    ·exact retFE_set 12 HB (by omega) s0 s1 s2 s3
   ·have hy0 : sg nb (val ys) ≠ 0 := by unfold sg; split <;> omega
    have hr : newR na xs nb ys = lowE (sg (!(na == nb)) (val xs)) (val ys) := by
     unfold newR newE
     rw [v1, v2, if_pos (by rfl), if_neg hy0, ← p3, ← q3, natAbs_sg, natAbs_sg]
     rfl
    have hl : ((ys.length : Int) == 0) = false := by rw [beq_eq_false_iff_ne]; have : ys.length ≠ 0 := fun h => h0 (iy.zero.1 h); omega
    obtain ⟨p, err, hp⟩ : ∃ p err, lowE (sg (!(na == nb)) (val xs)) (val ys) = (p, err) := ⟨_, _, rfl⟩
    obtain ⟨bq, kq, Xq, lq, Yq, IQ⟩ := fz p
    have HM := hid fun (w1 : World) (h : Below w.heap.size w w1) => Qmade_g (w := w1) ix iy (ha.below h) (hb.below h) (by omega) (by omega) h0 IQ.out hp
    rw [hr, hp]
    clear hr v1 v2 ha hb p1 p2 p3 q1 q2 q3 b1 b2 ix iy h0 hp hy0
    generalize xs.length = k at *
    generalize ys.length = l at *
    go_enter Tryz.func65, Tryz.ntmps65
    go_wp2_with fail
    refine enterIIF (P := fun u => Calls _ _ _ u _) ?_
    intro u HB q0 q1 r0 r1 s0 s1 s2 s3 z1 z2 z3 hsz
    clear hsz
    have f_z1 := z1.fr
    have f_z2 := z2.fr
    have f_z3 := z3.fr
    have lt_q0 := cell_lt q0
    have lt_r0 := cell_lt r0
    have lt_s0 := cell_lt s0
    refine (HX.out _ HB).mono ?_
    rintro e w1 ⟨rfl, h1⟩
    have hv_ : Below u.heap.size u w1 := Below.trans (b := _) (by repeat (first | assumption | exact Bv _ _ | refine Ba ?_ (by simp; try omega) _ | refine Bd ?_ | refine Bn ?_ _)) (h1.mono (by simp; try omega))
    replace q0 := keep_cell hv_ q0
    replace q1 := keep_cell hv_ q1
    replace r0 := keep_cell hv_ r0
    replace r1 := keep_cell hv_ r1
    replace s0 := keep_cell hv_ s0
    replace s1 := keep_cell hv_ s1
    replace s2 := keep_cell hv_ s2
    replace s3 := keep_cell hv_ s3
    have lt_q0 := cell_lt q0
    have lt_q1 := cell_lt q1
    have lt_r0 := cell_lt r0
    have lt_r1 := cell_lt r1
    have lt_s0 := cell_lt s0
    have lt_s1 := cell_lt s1
    have lt_s2 := cell_lt s2
    have lt_s3 := cell_lt s3
    replace z1 := z1.below hv_
    replace z2 := z2.below hv_
    replace z3 := z3.below hv_
    replace f_z1 := z1.fr
    replace f_z2 := z2.fr
    replace f_z3 := z3.fr
    replace HB := HB.trans (hv_.mono HB.size)
    clear hv_
    go_wp2_with fail
    refine (HY.out _ HB).mono ?_
    rintro e w2 ⟨rfl, h2⟩
    have hv_ : Below w1.heap.size w1 w2 := Below.trans (b := _) (by repeat (first | assumption | exact Bv _ _ | refine Ba ?_ (by simp; try omega) _ | refine Bd ?_ | refine Bn ?_ _)) (h2.mono (by simp; try omega))
    replace q0 := keep_cell hv_ q0
    replace q1 := keep_cell hv_ q1
    replace r0 := keep_cell hv_ r0
    replace r1 := keep_cell hv_ r1
    replace s0 := keep_cell hv_ s0
    replace s1 := keep_cell hv_ s1
    replace s2 := keep_cell hv_ s2
    replace s3 := keep_cell hv_ s3
    have lt_q0 := cell_lt q0
    have lt_q1 := cell_lt q1
    have lt_r0 := cell_lt r0
    have lt_r1 := cell_lt r1
    have lt_s0 := cell_lt s0
    have lt_s1 := cell_lt s1
    have lt_s2 := cell_lt s2
    have lt_s3 := cell_lt s3
    replace z1 := z1.below hv_
    replace z2 := z2.below hv_
    replace z3 := z3.below hv_
    replace f_z1 := z1.fr
    replace f_z2 := z2.fr
    replace f_z3 := z3.fr
    replace HB := HB.trans (hv_.mono HB.size)
    clear hv_
    go_wp2_with fail
    refine (HM.out _ HB).mono ?_
    rintro e w3 ⟨R1, c1, R2, c2, rfl, m1, m2, h3⟩
    have hv_ : Below w2.heap.size w2 w3 := Below.trans (b := _) (by repeat (first | assumption | exact Bv _ _ | refine Ba ?_ (by simp; try omega) _ | refine Bd ?_ | refine Bn ?_ _)) (h3.mono (by simp; try omega))
    replace q0 := keep_cell hv_ q0
    replace q1 := keep_cell hv_ q1
    replace r0 := keep_cell hv_ r0
    replace r1 := keep_cell hv_ r1
    replace s0 := keep_cell hv_ s0
    replace s1 := keep_cell hv_ s1
    replace s2 := keep_cell hv_ s2
    replace s3 := keep_cell hv_ s3
    have lt_q0 := cell_lt q0
    have lt_q1 := cell_lt q1
    have lt_r0 := cell_lt r0
    have lt_r1 := cell_lt r1
    have lt_s0 := cell_lt s0
    have lt_s1 := cell_lt s1
    have lt_s2 := cell_lt s2
    have lt_s3 := cell_lt s3
    replace z1 := z1.below hv_
    replace z2 := z2.below hv_
    replace z3 := z3.below hv_
    replace f_z1 := z1.fr
    replace f_z2 := z2.fr
    replace f_z3 := z3.fr
    replace HB := HB.trans (hv_.mono HB.size)
    clear hv_
    go_wp2
    refine bodyPost_ret (v := .tuple #[.agg #[.bool bq, .slice R1 kq c1, .bool false, .slice R2 lq c2], .int .i64 err]) ?_ rfl ?_
    ·simp [results, Tryz.results65, go_sem, s0, s1, s2, s3]
    ·obtain ⟨j1_, j2_, j3_⟩ := fin_fr m1 m2 HB (by omega) s0 s1 s2 s3 (.bool bq) (.slice R1 kq c1) (.bool false) (.slice R2 lq c2)
     exact GF.r ⟨R1, c1, R2, c2, rfl, j1_, j2_, j3_⟩ IQ.out
end Go.Proofs.YtgnfobnkhjlbbaaGreat
