/- Package fraction: walks of Cmp, Floor, Round. Conditions: none. -/
import Derived.Test.YtfdmlfpldgobjaaGreatDoorZYL
set_option linter.unusedVariables false
set_option linter.unusedSimpArgs false
namespace Go.Proofs.YtfdmlfpldgobjaaGreatDoor
open Go.RowKit Big
theorem neg_mulD {f : Int × Nat} {d : Nat} (hd : 0 < d) : decide (f.1 * (d : Int) < 0) = decide (f.1 < 0) := by
 rw [Bool.eq_iff_iff]
 simp only [decide_eq_true_eq]
 constructor
 ·intro h
  rcases (show f.1 < 0 ∨ 0 ≤ f.1 by omega) with h1 | h1
  ·exact h1
  ·have := Int.mul_nonneg h1 (show 0 ≤ (d : Int) by omega); omega
 ·intro h; exact Int.mul_neg_of_neg_of_pos h (by omega)
theorem abs_mulD {f : Int × Nat} {d : Nat} : (f.1 * (d : Int)).natAbs = f.1.natAbs * d := by rw [Int.natAbs_mul, Int.natAbs_natCast]
theorem cmpF_cases {f g : Int × Nat} (hf : 0 < f.2) (hg : 0 < g.2) :
  (f.1 < 0 → g.1 < 0 → ord (g.1.natAbs * f.2) (f.1.natAbs * g.2) = cmpF f g) ∧ (f.1 < 0 → ¬ g.1 < 0 → cmpF f g = -1) ∧ (¬ f.1 < 0 → g.1 < 0 → cmpF f g = 1) ∧ (¬ f.1 < 0 → ¬ g.1 < 0 → ord (f.1.natAbs * g.2) (g.1.natAbs * f.2) = cmpF f g) := by
 have a := neg_mulD (f := f) hg
 have b := neg_mulD (f := g) hf
 rw [decide_eq_decide] at a b
 unfold cmpF
 refine ⟨fun h1 h2 => ?_, fun h1 h2 => ?_, fun h1 h2 => ?_, fun h1 h2 => ?_⟩
 ·rw [← abs_mulD, ← abs_mulD]; exact zord_nn (a.2 h1) (b.2 h2)
 ·have := a.2 h1; have h3 := fun h => h2 (b.1 h); unfold zord; rw [if_pos (by omega)]
 ·have := b.2 h2; have h3 := fun h => h1 (a.1 h); unfold zord; rw [if_neg (by omega), if_pos (by omega)]
 ·rw [← abs_mulD, ← abs_mulD]; exact zord_pp (fun h => h1 (a.1 h)) (fun h => h2 (b.1 h))
set_option maxRecDepth 100000 in
set_option maxHeartbeats 4000000 in
theorem FrCmp_any {na nb nc nd : Bool} {xs ys us vs : List Nat} {A B C D : Option Addr} {ca cb cc cd : Nat} {w : World} (ma : Mg w A ca xs) (mb : Mg w B cb ys) (mc : Mg w C cc us) (md : Mg w D cd vs) :
  Calls Tryz.prog 26 #[.agg #[.bool na, .slice A xs.length ca, .bool nb, .slice B ys.length cb], .agg #[.bool nc, .slice C us.length cc, .bool nd, .slice D vs.length cd]] w (RetIE w (cmpR na xs nb ys nc us nd vs).1 (cmpR na xs nb ys nc us nd vs).2) := by
 have HX := hid fun (w1 : World) (h : Below w.heap.size w w1) => Frvalid2 (na := na) (nb := nb) (nc := nc) (nd := nd) (u := w1) (ma.below h) (mb.below h) (mc.below h) (md.below h)
 cases hv : (fvB na xs nb ys && fvB nc us nd vs)
 ·have hr_ : cmpR na xs nb ys nc us nd vs = (0, 1) := by unfold cmpR; rw [hv]; rfl
  rw [hr_]
  rw [hv] at HX
  clear hr_ hv ma mb mc md
  generalize xs.length = ka at *
  generalize ys.length = la at *
  generalize us.length = kb at *
  generalize vs.length = lb at *
  go_enter Tryz.func26, Tryz.ntmps26
  go_wp2_with fail
  refine enterFF (P := fun u => Calls _ _ _ (u.alloc _) _) ?_
  intro u HB q0 q1 q2 q3 r0 r1 r2 r3 z1 z2 hsz
  have f_z1 := z1.fr
  have f_z2 := z2.fr
  have lt_q0 := cell_lt q0
  have lt_r0 := cell_lt r0
  have HX2 := HX.out u HB
  rw [hsz.out] at HX2
  refine HX2.mono ?_
  clear HX2
  rintro e w1 ⟨rfl, h1⟩
  have hv_ : Below u.heap.size u w1 := Below.trans (b := _) (by repeat (first | assumption | exact Bv _ _ | refine Ba ?_ (by simp; try omega) _ | refine Bd ?_ | refine Bn ?_ _)) (h1.mono (by simp; try omega))
  replace q0 := keep_cell hv_ q0
  replace q1 := keep_cell hv_ q1
  replace q2 := keep_cell hv_ q2
  replace q3 := keep_cell hv_ q3
  replace r0 := keep_cell hv_ r0
  replace r1 := keep_cell hv_ r1
  replace r2 := keep_cell hv_ r2
  replace r3 := keep_cell hv_ r3
  have lt_q0 := cell_lt q0
  have lt_q1 := cell_lt q1
  have lt_q2 := cell_lt q2
  have lt_q3 := cell_lt q3
  have lt_r0 := cell_lt r0
  have lt_r1 := cell_lt r1
  have lt_r2 := cell_lt r2
  have lt_r3 := cell_lt r3
  replace z1 := z1.below hv_
  replace z2 := z2.below hv_
  replace f_z1 := z1.fr
  replace f_z2 := z2.fr
  replace HB := HB.trans (hv_.mono HB.size)
  clear hv_
  go_wp2
  go_ret2
  exact ⟨rfl, HB⟩
 ·rw [hv] at HX
  have hvv_ := hv
  simp only [Bool.and_eq_true] at hvv_
  obtain ⟨v1, v2⟩ := hvv_
  obtain ⟨rfl, p1, p2, p3, p4, p5, p6⟩ := fvB_ok ma.ok mb.ok v1
  obtain ⟨rfl, p7, p8, p9, p10, p11, p12⟩ := fvB_ok mc.ok md.ok v2
  have hr_ : cmpR na xs false ys nc us false vs = (cmpF (sg na (val xs), val ys) (sg nc (val us), val vs), 0) := by unfold cmpR; rw [hv]; rfl
  rw [hr_]
  have IF : Hid (Fz (sg na (val xs), val ys) na xs.length xs ys.length ys) := ⟨p1, by rw [natAbs_sg]; exact p2, rfl, p3, rfl⟩
  have IG : Hid (Fz (sg nc (val us), val vs) nc us.length us vs.length vs) := ⟨p7, by rw [natAbs_sg]; exact p8, rfl, p9, rfl⟩
  have hcf := cmpF_cases p4.1 p10.1
  generalize (sg na (val xs), val ys) = f at *
  generalize (sg nc (val us), val vs) = g at *
  clear hr_ hv v1 v2 p1 p2 p3 p4 p7 p8 p9 p10
  generalize xs.length = ka at *
  generalize ys.length = la at *
  generalize us.length = kb at *
  generalize vs.length = lb at *
  obtain ⟨t1, L1, I1⟩ := lz (f.1.natAbs * g.2)
  obtain ⟨t2, L2, I2⟩ := lz (g.1.natAbs * f.2)
  have HT1 := hid fun (w1 : World) (h : Below w.heap.size w w1) => Frtimes_g (w := w1) (an := na) IF.out.n IG.out.d (ma.below h) (md.below h) (by omega) (by omega) I1.out
  have HT2 := hid fun (w1 : World) (h : Below w.heap.size w w1) => Frtimes_g (w := w1) (an := nc) IG.out.n IF.out.d (mc.below h) (mb.below h) (by omega) (by omega) I2.out
  have HC := hid fun (w1 : World) (R Q : Option Addr) (c d : Nat) (m : Mg w1 R c L1) (m' : Mg w1 Q d L2) => Frcmp_g (w := w1) I1.out I2.out m m' _ rfl
  have HD := hid fun (w1 : World) (R Q : Option Addr) (c d : Nat) (m : Mg w1 R c L1) (m' : Mg w1 Q d L2) => Frcmp_g (w := w1) I2.out I1.out m' m _ rfl
  have hna : na = decide (f.1 < 0) := IF.out.hb
  have hnc : nc = decide (g.1 < 0) := IG.out.hb
  obtain ⟨a1, a2, a3, a4⟩ := hcf
  generalize cmpF f g = z at *
  clear ma mb mc md IF IG I1 I2
  by_cases hf0 : f.1 < 0
  ·replace hna : na = true := by rw [hna]; simpa using hf0
   by_cases hg0 : g.1 < 0
   ·replace hnc : nc = true := by rw [hnc]; simpa using hg0
    rw [a1 hf0 hg0] at HD
    subst hna
    subst hnc
    clear HC a1 a2 a3 a4 hf0 hg0
    go_enter Tryz.func26, Tryz.ntmps26
    go_wp2_with fail
    refine enterFF (P := fun u => Calls _ _ _ (u.alloc _) _) ?_
    intro u HB q0 q1 q2 q3 r0 r1 r2 r3 z1 z2 hsz
    have f_z1 := z1.fr
    have f_z2 := z2.fr
    have lt_q0 := cell_lt q0
    have lt_r0 := cell_lt r0
    have HX2 := HX.out u HB
    rw [hsz.out] at HX2
    refine HX2.mono ?_
    clear HX2
    rintro e w1 ⟨rfl, h1⟩
    have hv_ : Below u.heap.size u w1 := Below.trans (b := _) (by repeat (first | assumption | exact Bv _ _ | refine Ba ?_ (by simp; try omega) _ | refine Bd ?_ | refine Bn ?_ _)) (h1.mono (by simp; try omega))
    replace q0 := keep_cell hv_ q0
    replace q1 := keep_cell hv_ q1
    replace q2 := keep_cell hv_ q2
    replace q3 := keep_cell hv_ q3
    replace r0 := keep_cell hv_ r0
    replace r1 := keep_cell hv_ r1
    replace r2 := keep_cell hv_ r2
    replace r3 := keep_cell hv_ r3
    have lt_q0 := cell_lt q0
    have lt_q1 := cell_lt q1
    have lt_q2 := cell_lt q2
    have lt_q3 := cell_lt q3
    have lt_r0 := cell_lt r0
    have lt_r1 := cell_lt r1
    have lt_r2 := cell_lt r2
    have lt_r3 := cell_lt r3
    replace z1 := z1.below hv_
    replace z2 := z2.below hv_
    replace f_z1 := z1.fr
    replace f_z2 := z2.fr
    replace HB := HB.trans (hv_.mono HB.size)
    clear hv_
    go_wp2_with fail
    refine (HT1.out _ HB).mono ?_
    rintro e w2 ⟨R1, c1, rfl, m1, h2⟩
    have hv_ : Below w1.heap.size w1 w2 := Below.trans (b := _) (by repeat (first | assumption | exact Bv _ _ | refine Ba ?_ (by simp; try omega) _ | refine Bd ?_ | refine Bn ?_ _)) (h2.mono (by simp; try omega))
    replace q0 := keep_cell hv_ q0
    replace q1 := keep_cell hv_ q1
    replace q2 := keep_cell hv_ q2
    replace q3 := keep_cell hv_ q3
    replace r0 := keep_cell hv_ r0
    replace r1 := keep_cell hv_ r1
    replace r2 := keep_cell hv_ r2
    replace r3 := keep_cell hv_ r3
    have lt_q0 := cell_lt q0
    have lt_q1 := cell_lt q1
    have lt_q2 := cell_lt q2
    have lt_q3 := cell_lt q3
    have lt_r0 := cell_lt r0
    have lt_r1 := cell_lt r1
    have lt_r2 := cell_lt r2
    have lt_r3 := cell_lt r3
    replace HB := HB.trans (hv_.mono HB.size)
    clear hv_
    go_wp2_with fail
    have s0 := at_alloc0 (W := w2) (a := .bool true) (b := .slice R1 t1 c1) (t := 53) rfl
    have s1 := at_alloc1 (W := w2) (a := .bool true) (b := .slice R1 t1 c1) (t := 53) rfl
    have hv_ : Below w2.heap.size w2 (w2.alloc (.cells #[.bool true, .slice R1 t1 c1] 53)) := (Below.refl _ _).alloc (Nat.le_refl _) _
    generalize w2.alloc (.cells #[.bool true, .slice R1 t1 c1] 53) = u2 at *
    replace m1 := m1.below hv_
    replace q0 := keep_cell hv_ q0
    replace q1 := keep_cell hv_ q1
    replace q2 := keep_cell hv_ q2
    replace q3 := keep_cell hv_ q3
    replace r0 := keep_cell hv_ r0
    replace r1 := keep_cell hv_ r1
    replace r2 := keep_cell hv_ r2
    replace r3 := keep_cell hv_ r3
    replace HB := HB.trans (hv_.mono HB.size)
    clear hv_
    refine (HT2.out _ HB).mono ?_
    rintro e w3 ⟨R2, c2, rfl, m2, h3⟩
    have hv_ : Below u2.heap.size u2 w3 := Below.trans (b := _) (by repeat (first | assumption | exact Bv _ _ | refine Ba ?_ (by simp; try omega) _ | refine Bd ?_ | refine Bn ?_ _)) (h3.mono (by simp; try omega))
    replace m1 := m1.below hv_
    replace s0 := keep_cell hv_ s0
    replace s1 := keep_cell hv_ s1
    have lt_s0 := cell_lt s0
    have lt_s1 := cell_lt s1
    replace HB := HB.trans (hv_.mono HB.size)
    clear hv_
    go_wp2_with fail
    have t0 := at_alloc0 (W := w3) (a := .bool true) (b := .slice R2 t2 c2) (t := 53) rfl
    have t1 := at_alloc1 (W := w3) (a := .bool true) (b := .slice R2 t2 c2) (t := 53) rfl
    have hv_ : Below w3.heap.size w3 (w3.alloc (.cells #[.bool true, .slice R2 t2 c2] 53)) := (Below.refl _ _).alloc (Nat.le_refl _) _
    generalize w3.alloc (.cells #[.bool true, .slice R2 t2 c2] 53) = u3 at *
    replace m1 := m1.below hv_
    replace m2 := m2.below hv_
    replace s0 := keep_cell hv_ s0
    replace s1 := keep_cell hv_ s1
    replace HB := HB.trans (hv_.mono HB.size)
    clear hv_
    have lt_s0 := cell_lt s0
    have lt_t0 := cell_lt t0
    refine (HD.out _ _ _ _ _ m1 m2).mono ?_
    rintro e w4 ⟨rfl, h4⟩
    go_wp2
    go_ret2
    exact ⟨rfl, bel_step HB h4⟩
   ·replace hnc : nc = false := by rw [hnc]; simpa using hg0
    have hz := a2 hf0 hg0
    subst hz
    subst hna
    subst hnc
    clear HC HD a1 a2 a3 a4 hf0 hg0
    go_enter Tryz.func26, Tryz.ntmps26
    go_wp2_with fail
    refine enterFF (P := fun u => Calls _ _ _ (u.alloc _) _) ?_
    intro u HB q0 q1 q2 q3 r0 r1 r2 r3 z1 z2 hsz
    have f_z1 := z1.fr
    have f_z2 := z2.fr
    have lt_q0 := cell_lt q0
    have lt_r0 := cell_lt r0
    have HX2 := HX.out u HB
    rw [hsz.out] at HX2
    refine HX2.mono ?_
    clear HX2
    rintro e w1 ⟨rfl, h1⟩
    have hv_ : Below u.heap.size u w1 := Below.trans (b := _) (by repeat (first | assumption | exact Bv _ _ | refine Ba ?_ (by simp; try omega) _ | refine Bd ?_ | refine Bn ?_ _)) (h1.mono (by simp; try omega))
    replace q0 := keep_cell hv_ q0
    replace q1 := keep_cell hv_ q1
    replace q2 := keep_cell hv_ q2
    replace q3 := keep_cell hv_ q3
    replace r0 := keep_cell hv_ r0
    replace r1 := keep_cell hv_ r1
    replace r2 := keep_cell hv_ r2
    replace r3 := keep_cell hv_ r3
    have lt_q0 := cell_lt q0
    have lt_q1 := cell_lt q1
    have lt_q2 := cell_lt q2
    have lt_q3 := cell_lt q3
    have lt_r0 := cell_lt r0
    have lt_r1 := cell_lt r1
    have lt_r2 := cell_lt r2
    have lt_r3 := cell_lt r3
    replace z1 := z1.below hv_
    replace z2 := z2.below hv_
    replace f_z1 := z1.fr
    replace f_z2 := z2.fr
    replace HB := HB.trans (hv_.mono HB.size)
    clear hv_
    go_wp2_with fail
    refine (HT1.out _ HB).mono ?_
    rintro e w2 ⟨R1, c1, rfl, m1, h2⟩
    have hv_ : Below w1.heap.size w1 w2 := Below.trans (b := _) (by repeat (first | assumption | exact Bv _ _ | refine Ba ?_ (by simp; try omega) _ | refine Bd ?_ | refine Bn ?_ _)) (h2.mono (by simp; try omega))
    replace q0 := keep_cell hv_ q0
    replace q1 := keep_cell hv_ q1
    replace q2 := keep_cell hv_ q2
    replace q3 := keep_cell hv_ q3
    replace r0 := keep_cell hv_ r0
    replace r1 := keep_cell hv_ r1
    replace r2 := keep_cell hv_ r2
    replace r3 := keep_cell hv_ r3
    have lt_q0 := cell_lt q0
    have lt_q1 := cell_lt q1
    have lt_q2 := cell_lt q2
    have lt_q3 := cell_lt q3
    have lt_r0 := cell_lt r0
    have lt_r1 := cell_lt r1
    have lt_r2 := cell_lt r2
    have lt_r3 := cell_lt r3
    replace HB := HB.trans (hv_.mono HB.size)
    clear hv_
    go_wp2_with fail
    have s0 := at_alloc0 (W := w2) (a := .bool true) (b := .slice R1 t1 c1) (t := 53) rfl
    have s1 := at_alloc1 (W := w2) (a := .bool true) (b := .slice R1 t1 c1) (t := 53) rfl
    have hv_ : Below w2.heap.size w2 (w2.alloc (.cells #[.bool true, .slice R1 t1 c1] 53)) := (Below.refl _ _).alloc (Nat.le_refl _) _
    generalize w2.alloc (.cells #[.bool true, .slice R1 t1 c1] 53) = u2 at *
    replace m1 := m1.below hv_
    replace q0 := keep_cell hv_ q0
    replace q1 := keep_cell hv_ q1
    replace q2 := keep_cell hv_ q2
    replace q3 := keep_cell hv_ q3
    replace r0 := keep_cell hv_ r0
    replace r1 := keep_cell hv_ r1
    replace r2 := keep_cell hv_ r2
    replace r3 := keep_cell hv_ r3
    replace HB := HB.trans (hv_.mono HB.size)
    clear hv_
    refine (HT2.out _ HB).mono ?_
    rintro e w3 ⟨R2, c2, rfl, m2, h3⟩
    have hv_ : Below u2.heap.size u2 w3 := Below.trans (b := _) (by repeat (first | assumption | exact Bv _ _ | refine Ba ?_ (by simp; try omega) _ | refine Bd ?_ | refine Bn ?_ _)) (h3.mono (by simp; try omega))
    replace m1 := m1.below hv_
    replace s0 := keep_cell hv_ s0
    replace s1 := keep_cell hv_ s1
    have lt_s0 := cell_lt s0
    have lt_s1 := cell_lt s1
    replace HB := HB.trans (hv_.mono HB.size)
    clear hv_
    have lt_s0 := cell_lt s0
    go_wp2
    go_ret2
    exact ⟨rfl, HB.alloc HB.size _⟩
  ·replace hna : na = false := by rw [hna]; simpa using hf0
   by_cases hg0 : g.1 < 0
   ·replace hnc : nc = true := by rw [hnc]; simpa using hg0
    have hz := a3 hf0 hg0
    subst hz
    subst hna
    subst hnc
    clear HC HD a1 a2 a3 a4 hf0 hg0
    go_enter Tryz.func26, Tryz.ntmps26
    go_wp2_with fail
    refine enterFF (P := fun u => Calls _ _ _ (u.alloc _) _) ?_
    intro u HB q0 q1 q2 q3 r0 r1 r2 r3 z1 z2 hsz
    have f_z1 := z1.fr
    have f_z2 := z2.fr
    have lt_q0 := cell_lt q0
    have lt_r0 := cell_lt r0
    have HX2 := HX.out u HB
    rw [hsz.out] at HX2
    refine HX2.mono ?_
    clear HX2
    rintro e w1 ⟨rfl, h1⟩
    have hv_ : Below u.heap.size u w1 := Below.trans (b := _) (by repeat (first | assumption | exact Bv _ _ | refine Ba ?_ (by simp; try omega) _ | refine Bd ?_ | refine Bn ?_ _)) (h1.mono (by simp; try omega))
    replace q0 := keep_cell hv_ q0
    replace q1 := keep_cell hv_ q1
    replace q2 := keep_cell hv_ q2
    replace q3 := keep_cell hv_ q3
    replace r0 := keep_cell hv_ r0
    replace r1 := keep_cell hv_ r1
    replace r2 := keep_cell hv_ r2
    replace r3 := keep_cell hv_ r3
    have lt_q0 := cell_lt q0
    have lt_q1 := cell_lt q1
    have lt_q2 := cell_lt q2
    have lt_q3 := cell_lt q3
    have lt_r0 := cell_lt r0
    have lt_r1 := cell_lt r1
    have lt_r2 := cell_lt r2
    have lt_r3 := cell_lt r3
    replace z1 := z1.below hv_
    replace z2 := z2.below hv_
    replace f_z1 := z1.fr
    replace f_z2 := z2.fr
    replace HB := HB.trans (hv_.mono HB.size)
    clear hv_
    go_wp2_with fail
    refine (HT1.out _ HB).mono ?_
    rintro e w2 ⟨R1, c1, rfl, m1, h2⟩
    have hv_ : Below w1.heap.size w1 w2 := Below.trans (b := _) (by repeat (first | assumption | exact Bv _ _ | refine Ba ?_ (by simp; try omega) _ | refine Bd ?_ | refine Bn ?_ _)) (h2.mono (by simp; try omega))
    replace q0 := keep_cell hv_ q0
    replace q1 := keep_cell hv_ q1
    replace q2 := keep_cell hv_ q2
    replace q3 := keep_cell hv_ q3
    replace r0 := keep_cell hv_ r0
    replace r1 := keep_cell hv_ r1
    replace r2 := keep_cell hv_ r2
    replace r3 := keep_cell hv_ r3
    have lt_q0 := cell_lt q0
    have lt_q1 := cell_lt q1
    have lt_q2 := cell_lt q2
    have lt_q3 := cell_lt q3
    have lt_r0 := cell_lt r0
    have lt_r1 := cell_lt r1
    have lt_r2 := cell_lt r2
    have lt_r3 := cell_lt r3
    replace HB := HB.trans (hv_.mono HB.size)
    clear hv_
    go_wp2_with fail
    have s0 := at_alloc0 (W := w2) (a := .bool false) (b := .slice R1 t1 c1) (t := 53) rfl
    have s1 := at_alloc1 (W := w2) (a := .bool false) (b := .slice R1 t1 c1) (t := 53) rfl
    have hv_ : Below w2.heap.size w2 (w2.alloc (.cells #[.bool false, .slice R1 t1 c1] 53)) := (Below.refl _ _).alloc (Nat.le_refl _) _
    generalize w2.alloc (.cells #[.bool false, .slice R1 t1 c1] 53) = u2 at *
    replace m1 := m1.below hv_
    replace q0 := keep_cell hv_ q0
    replace q1 := keep_cell hv_ q1
    replace q2 := keep_cell hv_ q2
    replace q3 := keep_cell hv_ q3
    replace r0 := keep_cell hv_ r0
    replace r1 := keep_cell hv_ r1
    replace r2 := keep_cell hv_ r2
    replace r3 := keep_cell hv_ r3
    replace HB := HB.trans (hv_.mono HB.size)
    clear hv_
    refine (HT2.out _ HB).mono ?_
    rintro e w3 ⟨R2, c2, rfl, m2, h3⟩
    have hv_ : Below u2.heap.size u2 w3 := Below.trans (b := _) (by repeat (first | assumption | exact Bv _ _ | refine Ba ?_ (by simp; try omega) _ | refine Bd ?_ | refine Bn ?_ _)) (h3.mono (by simp; try omega))
    replace m1 := m1.below hv_
    replace s0 := keep_cell hv_ s0
    replace s1 := keep_cell hv_ s1
    have lt_s0 := cell_lt s0
    have lt_s1 := cell_lt s1
    replace HB := HB.trans (hv_.mono HB.size)
    clear hv_
    have lt_s0 := cell_lt s0
    go_wp2
    go_ret2
    exact ⟨rfl, HB.alloc HB.size _⟩
   ·replace hnc : nc = false := by rw [hnc]; simpa using hg0
    rw [a4 hf0 hg0] at HC
    subst hna
    subst hnc
    clear HD a1 a2 a3 a4 hf0 hg0
    go_enter Tryz.func26, Tryz.ntmps26
    go_wp2_with fail
    refine enterFF (P := fun u => Calls _ _ _ (u.alloc _) _) ?_
    intro u HB q0 q1 q2 q3 r0 r1 r2 r3 z1 z2 hsz
    have f_z1 := z1.fr
    have f_z2 := z2.fr
    have lt_q0 := cell_lt q0
    have lt_r0 := cell_lt r0
    have HX2 := HX.out u HB
    rw [hsz.out] at HX2
    refine HX2.mono ?_
    clear HX2
    rintro e w1 ⟨rfl, h1⟩
    have hv_ : Below u.heap.size u w1 := Below.trans (b := _) (by repeat (first | assumption | exact Bv _ _ | refine Ba ?_ (by simp; try omega) _ | refine Bd ?_ | refine Bn ?_ _)) (h1.mono (by simp; try omega))
    replace q0 := keep_cell hv_ q0
    replace q1 := keep_cell hv_ q1
    replace q2 := keep_cell hv_ q2
    replace q3 := keep_cell hv_ q3
    replace r0 := keep_cell hv_ r0
    replace r1 := keep_cell hv_ r1
    replace r2 := keep_cell hv_ r2
    replace r3 := keep_cell hv_ r3
    have lt_q0 := cell_lt q0
    have lt_q1 := cell_lt q1
    have lt_q2 := cell_lt q2
    have lt_q3 := cell_lt q3
    have lt_r0 := cell_lt r0
    have lt_r1 := cell_lt r1
    have lt_r2 := cell_lt r2
    have lt_r3 := cell_lt r3
    replace z1 := z1.below hv_
    replace z2 := z2.below hv_
    replace f_z1 := z1.fr
    replace f_z2 := z2.fr
    replace HB := HB.trans (hv_.mono HB.size)
    clear hv_
    go_wp2_with fail
    refine (HT1.out _ HB).mono ?_
    rintro e w2 ⟨R1, c1, rfl, m1, h2⟩
    have hv_ : Below w1.heap.size w1 w2 := Below.trans (b := _) (by repeat (first | assumption | exact Bv _ _ | refine Ba ?_ (by simp; try omega) _ | refine Bd ?_ | refine Bn ?_ _)) (h2.mono (by simp; try omega))
    replace q0 := keep_cell hv_ q0
    replace q1 := keep_cell hv_ q1
    replace q2 := keep_cell hv_ q2
    replace q3 := keep_cell hv_ q3
    replace r0 := keep_cell hv_ r0
    replace r1 := keep_cell hv_ r1
    replace r2 := keep_cell hv_ r2
    replace r3 := keep_cell hv_ r3
    have lt_q0 := cell_lt q0
    have lt_q1 := cell_lt q1
    have lt_q2 := cell_lt q2
    have lt_q3 := cell_lt q3
    have lt_r0 := cell_lt r0
    have lt_r1 := cell_lt r1
    have lt_r2 := cell_lt r2
    have lt_r3 := cell_lt r3
    replace HB := HB.trans (hv_.mono HB.size)
    clear hv_
    go_wp2_with fail
    have s0 := at_alloc0 (W := w2) (a := .bool false) (b := .slice R1 t1 c1) (t := 53) rfl
    have s1 := at_alloc1 (W := w2) (a := .bool false) (b := .slice R1 t1 c1) (t := 53) rfl
    have hv_ : Below w2.heap.size w2 (w2.alloc (.cells #[.bool false, .slice R1 t1 c1] 53)) := (Below.refl _ _).alloc (Nat.le_refl _) _
    generalize w2.alloc (.cells #[.bool false, .slice R1 t1 c1] 53) = u2 at *
    replace m1 := m1.below hv_
    replace q0 := keep_cell hv_ q0
    replace q1 := keep_cell hv_ q1
    replace q2 := keep_cell hv_ q2
    replace q3 := keep_cell hv_ q3
    replace r0 := keep_cell hv_ r0
    replace r1 := keep_cell hv_ r1
    replace r2 := keep_cell hv_ r2
    replace r3 := keep_cell hv_ r3
    replace HB := HB.trans (hv_.mono HB.size)
    clear hv_
    refine (HT2.out _ HB).mono ?_
    rintro e w3 ⟨R2, c2, rfl, m2, h3⟩
    have hv_ : Below u2.heap.size u2 w3 := Below.trans (b := _) (by repeat (first | assumption | exact Bv _ _ | refine Ba ?_ (by simp; try omega) _ | refine Bd ?_ | refine Bn ?_ _)) (h3.mono (by simp; try omega))
    replace m1 := m1.below hv_
    replace s0 := keep_cell hv_ s0
    replace s1 := keep_cell hv_ s1
    have lt_s0 := cell_lt s0
    have lt_s1 := cell_lt s1
    replace HB := HB.trans (hv_.mono HB.size)
    clear hv_
    go_wp2_with fail
    have t0 := at_alloc0 (W := w3) (a := .bool false) (b := .slice R2 t2 c2) (t := 53) rfl
    have t1 := at_alloc1 (W := w3) (a := .bool false) (b := .slice R2 t2 c2) (t := 53) rfl
    have hv_ : Below w3.heap.size w3 (w3.alloc (.cells #[.bool false, .slice R2 t2 c2] 53)) := (Below.refl _ _).alloc (Nat.le_refl _) _
    generalize w3.alloc (.cells #[.bool false, .slice R2 t2 c2] 53) = u3 at *
    replace m1 := m1.below hv_
    replace m2 := m2.below hv_
    replace s0 := keep_cell hv_ s0
    replace s1 := keep_cell hv_ s1
    replace HB := HB.trans (hv_.mono HB.size)
    clear hv_
    have lt_s0 := cell_lt s0
    have lt_t0 := cell_lt t0
    refine (HC.out _ _ _ _ _ m1 m2).mono ?_
    rintro e w4 ⟨rfl, h4⟩
    go_wp2
    go_ret2
    exact ⟨rfl, bel_step HB h4⟩
set_option maxRecDepth 100000 in
set_option maxHeartbeats 4000000 in
theorem FrFloor_n {na nb : Bool} {xs ys : List Nat} {A B : Option Addr} {ca cb : Nat} {w : World} (ma : Mg w A ca xs) (mb : Mg w B cb ys) :
  Calls Tryz.prog 15 #[.agg #[.bool na, .slice A xs.length ca, .bool nb, .slice B ys.length cb]] w (RetZEp (Nw w.heap.size) w (intR flrF na xs nb ys).1 (intR flrF na xs nb ys).2) := by
 have HX := hid fun (w1 : World) (h : Below w.heap.size w w1) => Frvalid1 (na := na) (nb := nb) (u := w1) (ma.below h) (mb.below h)
 cases v1 : fvB na xs nb ys
 ·have hr_ : intR flrF na xs nb ys = (0, 1) := by unfold intR; rw [v1]; rfl
  rw [hr_]
  rw [v1] at HX
  clear hr_ v1 ma mb
  generalize xs.length = ka at *
  generalize ys.length = la at *
  go_enter Tryz.func15, Tryz.ntmps15
  go_wp2_with fail
  refine enterFI (P := fun u => Calls _ _ _ (u.alloc _) _) ?_
  intro u HB q0 q1 q2 q3 r0 r1 z1 z2 hsz
  have f_z1 := z1.fr
  have f_z2 := z2.fr
  have lt_q0 := cell_lt q0
  have lt_r0 := cell_lt r0
  have HX2 := HX.out u HB
  rw [hsz.out] at HX2
  refine HX2.mono ?_
  clear HX2
  rintro e w1 ⟨rfl, h1⟩
  have hv_ : Below u.heap.size u w1 := Below.trans (b := _) (by repeat (first | assumption | exact Bv _ _ | refine Ba ?_ (by simp; try omega) _ | refine Bd ?_ | refine Bn ?_ _)) (h1.mono (by simp; try omega))
  replace q0 := keep_cell hv_ q0
  replace q1 := keep_cell hv_ q1
  replace q2 := keep_cell hv_ q2
  replace q3 := keep_cell hv_ q3
  replace r0 := keep_cell hv_ r0
  replace r1 := keep_cell hv_ r1
  have lt_q0 := cell_lt q0
  have lt_q1 := cell_lt q1
  have lt_q2 := cell_lt q2
  have lt_q3 := cell_lt q3
  have lt_r0 := cell_lt r0
  have lt_r1 := cell_lt r1
  replace z1 := z1.below hv_
  replace z2 := z2.below hv_
  replace f_z1 := z1.fr
  replace f_z2 := z2.fr
  replace HB := HB.trans (hv_.mono HB.size)
  clear hv_
  go_wp2
  refine bodyPost_ret (v := .tuple #[.agg #[.bool false, .slice none 0 0], .int .i64 1]) ?_ rfl ?_
  ·simp [results, Tryz.results15, go_sem, r0, r1]
  ·exact retZEp_zero 1 (below_set (below_set HB (by omega) _ _) (by omega) _ _) .nil
 ·rw [v1] at HX
  obtain ⟨rfl, p1, p2, p3, p4, p5, p6⟩ := fvB_ok ma.ok mb.ok v1
  have hr_ : intR flrF na xs false ys = (flrF (sg na (val xs), val ys), 0) := by unfold intR; rw [v1]; rfl
  rw [hr_]
  have IF : Hid (Fz (sg na (val xs), val ys) na xs.length xs ys.length ys) := ⟨p1, by rw [natAbs_sg]; exact p2, rfl, p3, rfl⟩
  have NF := hid p4
  generalize (sg na (val xs), val ys) = f at *
  have hd0 : f.2 ≠ 0 := by have := p4.1; omega
  clear hr_ v1 p1 p2 p3 p4
  generalize xs.length = ka at *
  generalize ys.length = la at *
  obtain ⟨b, k3, L3, I3⟩ := iz (flrF f)
  obtain ⟨b4, k4, L4, I4⟩ := iz (f.1 % (f.2 : Int))
  have hdm := dm_floor f.1 hd0
  have HD := hid fun (w1 : World) (h : Below w.heap.size w w1) => (DivMod_gn (w := w1) IF.out.num IF.out.den I3.out I4.out (ma.below h) (mb.below h) (by unfold fits; rw [IF.out.n.len]; exact p5) (by rw [fits_nat, IF.out.d.len]; exact p6) (by omega) hdm.1 hdm.2).mono fun _ _ => GDMn.up h.size
  generalize flrF f = z at *
  clear hd0 ma mb IF I4 hdm NF
  go_enter Tryz.func15, Tryz.ntmps15
  go_wp2_with fail
  refine enterFI (P := fun u => Calls _ _ _ (u.alloc _) _) ?_
  intro u HB q0 q1 q2 q3 r0 r1 z1 z2 hsz
  have f_z1 := z1.fr
  have f_z2 := z2.fr
  have lt_q0 := cell_lt q0
  have lt_r0 := cell_lt r0
  have HX2 := HX.out u HB
  rw [hsz.out] at HX2
  refine HX2.mono ?_
  clear HX2
  rintro e w1 ⟨rfl, h1⟩
  have hv_ : Below u.heap.size u w1 := Below.trans (b := _) (by repeat (first | assumption | exact Bv _ _ | refine Ba ?_ (by simp; try omega) _ | refine Bd ?_ | refine Bn ?_ _)) (h1.mono (by simp; try omega))
  replace q0 := keep_cell hv_ q0
  replace q1 := keep_cell hv_ q1
  replace q2 := keep_cell hv_ q2
  replace q3 := keep_cell hv_ q3
  replace r0 := keep_cell hv_ r0
  replace r1 := keep_cell hv_ r1
  have lt_q0 := cell_lt q0
  have lt_q1 := cell_lt q1
  have lt_q2 := cell_lt q2
  have lt_q3 := cell_lt q3
  have lt_r0 := cell_lt r0
  have lt_r1 := cell_lt r1
  replace z1 := z1.below hv_
  replace z2 := z2.below hv_
  replace f_z1 := z1.fr
  replace f_z2 := z2.fr
  replace HB := HB.trans (hv_.mono HB.size)
  clear hv_
  go_wp2_with fail
  refine (HD.out _ HB).mono ?_
  rintro e w2 ⟨R1, c1, R2, c2, rfl, m1, m2, h2⟩
  have hv_ : Below w1.heap.size w1 w2 := Below.trans (b := _) (by repeat (first | assumption | exact Bv _ _ | refine Ba ?_ (by simp; try omega) _ | refine Bd ?_ | refine Bn ?_ _)) (h2.mono (by simp; try omega))
  replace r0 := keep_cell hv_ r0
  replace r1 := keep_cell hv_ r1
  have lt_r0 := cell_lt r0
  have lt_r1 := cell_lt r1
  replace z2 := z2.below hv_
  replace f_z2 := z2.fr
  replace HB := HB.trans (hv_.mono HB.size)
  clear hv_
  go_upto_region 4 with fail
  have s0 := keep_alloc (b := .cells #[.bool b4, .slice R2 k4 c2] 24) (at_alloc0 (W := w2) (a := .bool b) (b := .slice R1 k3 c1) (t := 24) rfl)
  have s1 := keep_alloc (b := .cells #[.bool b4, .slice R2 k4 c2] 24) (at_alloc1 (W := w2) (a := .bool b) (b := .slice R1 k3 c1) (t := 24) rfl)
  have t0 := at_alloc0 (W := w2.alloc (.cells #[.bool b, .slice R1 k3 c1] 24)) (a := .bool b4) (b := .slice R2 k4 c2) (t := 24) rfl
  have t1 := at_alloc1 (W := w2.alloc (.cells #[.bool b, .slice R1 k3 c1] 24)) (a := .bool b4) (b := .slice R2 k4 c2) (t := 24) rfl
  have hv_ : Below w2.heap.size w2 ((w2.alloc (.cells #[.bool b, .slice R1 k3 c1] 24)).alloc (.cells #[.bool b4, .slice R2 k4 c2] 24)) := ((Below.refl _ _).alloc (Nat.le_refl _) _).alloc (by simp) _
  simp only [World.size_alloc] at t0 t1
  generalize (w2.alloc (.cells #[.bool b, .slice R1 k3 c1] 24)).alloc (.cells #[.bool b4, .slice R2 k4 c2] 24) = u2 at *
  replace m1 := m1.below hv_
  replace z2 := z2.below hv_
  replace r0 := keep_cell hv_ r0
  replace r1 := keep_cell hv_ r1
  replace HB := HB.trans (hv_.mono HB.size)
  clear hv_
  have f_z2 := z2.fr
  go_wp2
  refine bodyPost_ret (v := .tuple #[.agg #[.bool b, .slice R1 k3 c1], .int .i64 0]) ?_ rfl ?_
  ·simp [results, Tryz.results15, go_sem, r0, r1]
  ·obtain ⟨j1_, j2_⟩ := fin_in m1 HB (by omega) r0 r1 (.bool b) (.slice R1 k3 c1)
   exact GZEn.r ⟨R1, c1, rfl, j1_, j2_⟩ I3.out
theorem FrFloor_any {na nb : Bool} {xs ys : List Nat} {A B : Option Addr} {ca cb : Nat} {w : World} (ma : Mg w A ca xs) (mb : Mg w B cb ys) :
  Calls Tryz.prog 15 #[.agg #[.bool na, .slice A xs.length ca, .bool nb, .slice B ys.length cb]] w (RetZE w (intR flrF na xs nb ys).1 (intR flrF na xs nb ys).2) := (FrFloor_n ma mb).mono fun _ _ h => h.any
theorem rnd_eq {f : Int × Nat} (hd : 0 < f.2) : (f.1 % (f.2 : Int) < f.2 - f.1 % (f.2 : Int) → rndF f = f.1 / f.2) ∧ (¬ f.1 % (f.2 : Int) < f.2 - f.1 % (f.2 : Int) → rndF f = f.1 / f.2 + 1) := by
 have h := round_floor (n := f.1) hd
 unfold rndF
 constructor
 ·intro h1; rw [h, if_pos h1, Int.add_zero]
 ·intro h1; rw [h, if_neg h1]
theorem rnd_abs {f : Int × Nat} (hd : 0 < f.2) (h : ¬ f.1 % (f.2 : Int) < f.2 - f.1 % (f.2 : Int)) : (f.1 / (f.2 : Int) + 1).natAbs ≤ f.1.natAbs := by
 have h1 := Int.mul_ediv_add_emod f.1 f.2
 have h2 := Int.emod_nonneg f.1 (show (f.2 : Int) ≠ 0 by omega)
 have h3 := Int.emod_lt_of_pos f.1 (show (0 : Int) < f.2 by omega)
 generalize f.1 % (f.2 : Int) = r at *
 generalize f.1 / (f.2 : Int) = q at *
 generalize f.1 = n at *
 generalize hD : (f.2 : Int) = d at *
 have hd2 : 2 ≤ d := by omega
 rcases (show q < 0 ∨ 0 ≤ q by omega) with hq | hq
 ·have : d * q ≤ 1 * q := by
   have := Int.mul_le_mul_of_nonpos_right (show (1 : Int) ≤ d by omega) (show q ≤ 0 by omega)
   exact this
  rcases (show q = -1 ∨ q ≤ -2 by omega) with h4 | h4
  ·subst h4; simp
  ·have h5 : d * q ≤ 2 * q := Int.mul_le_mul_of_nonpos_right hd2 (by omega)
   have h6 : d * (q + 1) ≤ 1 * (q + 1) := Int.mul_le_mul_of_nonpos_right (show (1 : Int) ≤ d by omega) (by omega)
   rw [Int.mul_add] at h6
   omega
 ·have h5 : 2 * q ≤ d * q := Int.mul_le_mul_of_nonneg_right hd2 hq
  omega
theorem emod_abs {n : Int} {d : Nat} (hd : 0 < d) : (n % (d : Int)).natAbs ≤ d ∧ ((d : Int) - n % (d : Int)).natAbs ≤ d ∧ (n / (d : Int)).natAbs ≤ n.natAbs := by
 have h2 := Int.emod_nonneg n (show (d : Int) ≠ 0 by omega)
 have h3 := Int.emod_lt_of_pos n (show (0 : Int) < d by omega)
 refine ⟨by omega, by omega, ?_⟩
 have h1 := Int.mul_ediv_add_emod n d
 generalize n % (d : Int) = r at *
 generalize n / (d : Int) = q at *
 generalize hD : (d : Int) = D at *
 rcases (show q < 0 ∨ 0 ≤ q by omega) with hq | hq
 ·have h6 : D * (q + 1) ≤ 1 * (q + 1) := Int.mul_le_mul_of_nonpos_right (show (1 : Int) ≤ D by omega) (by omega)
  rw [Int.mul_add] at h6
  omega
 ·have h5 : 1 * q ≤ D * q := Int.mul_le_mul_of_nonneg_right (show (1 : Int) ≤ D by omega) hq
  omega
theorem fits_abs {x : Int} {n k : Nat} {L : List Nat} (h : Lz n k L) (hk : k ≤ 512) (hx : x.natAbs ≤ n) : fits x := by
 unfold fits
 exact Nat.le_trans (limbs_mono hx) (by rw [h.len]; exact hk)
set_option maxRecDepth 100000 in
set_option maxHeartbeats 4000000 in
theorem FrRound_n {na nb : Bool} {xs ys : List Nat} {A B : Option Addr} {ca cb : Nat} {w : World} (ma : Mg w A ca xs) (mb : Mg w B cb ys) :
  Calls Tryz.prog 16 #[.agg #[.bool na, .slice A xs.length ca, .bool nb, .slice B ys.length cb]] w (RetZEp (Nw w.heap.size) w (intR rndF na xs nb ys).1 (intR rndF na xs nb ys).2) := by
 have HX := hid fun (w1 : World) (h : Below w.heap.size w w1) => Frvalid1 (na := na) (nb := nb) (u := w1) (ma.below h) (mb.below h)
 cases v1 : fvB na xs nb ys
 ·have hr_ : intR rndF na xs nb ys = (0, 1) := by unfold intR; rw [v1]; rfl
  rw [hr_]
  rw [v1] at HX
  clear hr_ v1 ma mb
  generalize xs.length = ka at *
  generalize ys.length = la at *
  go_enter Tryz.func16, Tryz.ntmps16
  go_wp2_with fail
  refine enterFI (P := fun u => Calls _ _ _ (u.alloc _) _) ?_
  intro u HB q0 q1 q2 q3 r0 r1 z1 z2 hsz
  have f_z1 := z1.fr
  have f_z2 := z2.fr
  have lt_q0 := cell_lt q0
  have lt_r0 := cell_lt r0
  have HX2 := HX.out u HB
  rw [hsz.out] at HX2
  refine HX2.mono ?_
  clear HX2
  rintro e w1 ⟨rfl, h1⟩
  have hv_ : Below u.heap.size u w1 := Below.trans (b := _) (by repeat (first | assumption | exact Bv _ _ | refine Ba ?_ (by simp; try omega) _ | refine Bd ?_ | refine Bn ?_ _)) (h1.mono (by simp; try omega))
  replace q0 := keep_cell hv_ q0
  replace q1 := keep_cell hv_ q1
  replace q2 := keep_cell hv_ q2
  replace q3 := keep_cell hv_ q3
  replace r0 := keep_cell hv_ r0
  replace r1 := keep_cell hv_ r1
  have lt_q0 := cell_lt q0
  have lt_q1 := cell_lt q1
  have lt_q2 := cell_lt q2
  have lt_q3 := cell_lt q3
  have lt_r0 := cell_lt r0
  have lt_r1 := cell_lt r1
  replace z1 := z1.below hv_
  replace z2 := z2.below hv_
  replace f_z1 := z1.fr
  replace f_z2 := z2.fr
  replace HB := HB.trans (hv_.mono HB.size)
  clear hv_
  go_wp2
  refine bodyPost_ret (v := .tuple #[.agg #[.bool false, .slice none 0 0], .int .i64 1]) ?_ rfl ?_
  ·simp [results, Tryz.results16, go_sem, r0, r1]
  ·exact retZEp_zero 1 (below_set (below_set HB (by omega) _ _) (by omega) _ _) .nil
 ·rw [v1] at HX
  obtain ⟨rfl, p1, p2, p3, p4, p5, p6⟩ := fvB_ok ma.ok mb.ok v1
  have hr_ : intR rndF na xs false ys = (rndF (sg na (val xs), val ys), 0) := by unfold intR; rw [v1]; rfl
  rw [hr_]
  have IF : Hid (Fz (sg na (val xs), val ys) na xs.length xs ys.length ys) := ⟨p1, by rw [natAbs_sg]; exact p2, rfl, p3, rfl⟩
  have NF := hid p4
  generalize (sg na (val xs), val ys) = f at *
  have hd0 : f.2 ≠ 0 := by have := p4.1; omega
  clear hr_ v1 p1 p2 p3 p4
  generalize xs.length = ka at *
  generalize ys.length = la at *
  obtain ⟨b, k3, L3, I3⟩ := iz (f.1 / (f.2 : Int))
  obtain ⟨b4, k4, L4, I4⟩ := iz (f.1 % (f.2 : Int))
  obtain ⟨b5, k5, L5, I5⟩ := iz ((f.2 : Int) - f.1 % (f.2 : Int))
  obtain ⟨b6, k6, L6, I6⟩ := iz 1
  have hdm := dm_floor f.1 hd0
  have hdp : 0 < f.2 := by omega
  obtain ⟨ab1, ab2, ab3⟩ := emod_abs (n := f.1) hdp
  have fx1 : fits (f.1 / (f.2 : Int)) := fits_abs IF.out.n p5 ab3
  have fx2 : fits (f.1 % (f.2 : Int)) := fits_abs IF.out.d p6 ab1
  have fx3 : fits ((f.2 : Int) - f.1 % (f.2 : Int)) := fits_abs IF.out.d p6 ab2
  have fd : fits ((f.2 : Nat) : Int) := by rw [fits_nat, IF.out.d.len]; exact p6
  have HD := hid fun (w1 : World) (h : Below w.heap.size w w1) => (DivMod_gn (w := w1) IF.out.num IF.out.den I3.out I4.out (ma.below h) (mb.below h) (by unfold fits; rw [IF.out.n.len]; exact p5) fd (by omega) hdm.1 hdm.2).mono fun _ _ => GDMn.up h.size
  have HS := hid fun (w1 : World) (h : Below w.heap.size w w1) (R : Option Addr) (c : Nat) (m : Mg w1 R c L4) => Sub_g (w := w1) IF.out.den I4.out I5.out (fitE_yes fx3) (mb.below h) m fd fx2 rfl
  have hre := rnd_eq hdp
  have hra := fun h => fits_abs IF.out.n p5 (rnd_abs hdp h)
  by_cases hlt : f.1 % (f.2 : Int) < f.2 - f.1 % (f.2 : Int)
  ·have HC := hid fun (w1 : World) (R Q : Option Addr) (c d : Nat) (m : Mg w1 R c L4) (m' : Mg w1 Q d L5) => Cmp_g (w := w1) I4.out I5.out m m' fx2 fx3 (-1) (by unfold zord; rw [if_pos hlt])
   rw [hre.1 hlt]
   have IQ := I3
   clear hre hra hlt fx1 fx2 fx3 fd ab1 ab2 ab3 hdp hdm ma mb IF NF I3 I4 I5 I6 hd0
   generalize f.1 / (f.2 : Int) = z at *
   go_enter Tryz.func16, Tryz.ntmps16
   go_wp2_with fail
   refine enterFI (P := fun u => Calls _ _ _ (u.alloc _) _) ?_
   intro u HB q0 q1 q2 q3 r0 r1 z1 z2 hsz
   have f_z1 := z1.fr
   have f_z2 := z2.fr
   have lt_q0 := cell_lt q0
   have lt_r0 := cell_lt r0
   have HX2 := HX.out u HB
   rw [hsz.out] at HX2
   refine HX2.mono ?_
   clear HX2
   rintro e w1 ⟨rfl, h1⟩
   have hv_ : Below u.heap.size u w1 := Below.trans (b := _) (by repeat (first | assumption | exact Bv _ _ | refine Ba ?_ (by simp; try omega) _ | refine Bd ?_ | refine Bn ?_ _)) (h1.mono (by simp; try omega))
   replace q0 := keep_cell hv_ q0
   replace q1 := keep_cell hv_ q1
   replace q2 := keep_cell hv_ q2
   replace q3 := keep_cell hv_ q3
   replace r0 := keep_cell hv_ r0
   replace r1 := keep_cell hv_ r1
   have lt_q0 := cell_lt q0
   have lt_q1 := cell_lt q1
   have lt_q2 := cell_lt q2
   have lt_q3 := cell_lt q3
   have lt_r0 := cell_lt r0
   have lt_r1 := cell_lt r1
   replace z1 := z1.below hv_
   replace z2 := z2.below hv_
   replace f_z1 := z1.fr
   replace f_z2 := z2.fr
   replace HB := HB.trans (hv_.mono HB.size)
   clear hv_
   go_wp2_with fail
   refine (HD.out _ HB).mono ?_
   rintro e w2 ⟨R1, c1, R2, c2, rfl, m1, m2, h2⟩
   have hv_ : Below w1.heap.size w1 w2 := Below.trans (b := _) (by repeat (first | assumption | exact Bv _ _ | refine Ba ?_ (by simp; try omega) _ | refine Bd ?_ | refine Bn ?_ _)) (h2.mono (by simp; try omega))
   replace q0 := keep_cell hv_ q0
   replace q1 := keep_cell hv_ q1
   replace q2 := keep_cell hv_ q2
   replace q3 := keep_cell hv_ q3
   replace r0 := keep_cell hv_ r0
   replace r1 := keep_cell hv_ r1
   have lt_q0 := cell_lt q0
   have lt_q1 := cell_lt q1
   have lt_q2 := cell_lt q2
   have lt_q3 := cell_lt q3
   have lt_r0 := cell_lt r0
   have lt_r1 := cell_lt r1
   replace z2 := z2.below hv_
   replace f_z2 := z2.fr
   replace HB := HB.trans (hv_.mono HB.size)
   clear hv_
   go_wp2_with fail
   have s0 := keep_alloc (b := .cells #[.bool b4, .slice R2 k4 c2] 24) (at_alloc0 (W := w2) (a := .bool b) (b := .slice R1 k3 c1) (t := 24) rfl)
   have s1 := keep_alloc (b := .cells #[.bool b4, .slice R2 k4 c2] 24) (at_alloc1 (W := w2) (a := .bool b) (b := .slice R1 k3 c1) (t := 24) rfl)
   have t0 := at_alloc0 (W := w2.alloc (.cells #[.bool b, .slice R1 k3 c1] 24)) (a := .bool b4) (b := .slice R2 k4 c2) (t := 24) rfl
   have t1 := at_alloc1 (W := w2.alloc (.cells #[.bool b, .slice R1 k3 c1] 24)) (a := .bool b4) (b := .slice R2 k4 c2) (t := 24) rfl
   have hv_ : Below w2.heap.size w2 ((w2.alloc (.cells #[.bool b, .slice R1 k3 c1] 24)).alloc (.cells #[.bool b4, .slice R2 k4 c2] 24)) := ((Below.refl _ _).alloc (Nat.le_refl _) _).alloc (by simp) _
   simp only [World.size_alloc] at t0 t1
   generalize (w2.alloc (.cells #[.bool b, .slice R1 k3 c1] 24)).alloc (.cells #[.bool b4, .slice R2 k4 c2] 24) = u2 at *
   replace m1 := m1.below hv_
   replace m2 := m2.below hv_
   replace z2 := z2.below hv_
   replace q0 := keep_cell hv_ q0
   replace q1 := keep_cell hv_ q1
   replace q2 := keep_cell hv_ q2
   replace q3 := keep_cell hv_ q3
   replace r0 := keep_cell hv_ r0
   replace r1 := keep_cell hv_ r1
   replace HB := HB.trans (hv_.mono HB.size)
   clear hv_
   refine (HS.out _ HB _ _ m2).mono ?_
   rintro e w3 ⟨R3, c3, rfl, m3, h3⟩
   have hv_ : Below u2.heap.size u2 w3 := Below.trans (b := _) (by repeat (first | assumption | exact Bv _ _ | refine Ba ?_ (by simp; try omega) _ | refine Bd ?_ | refine Bn ?_ _)) (h3.mono (by simp; try omega))
   replace m1 := m1.below hv_
   replace m2 := m2.below hv_
   replace z2 := z2.below hv_
   replace r0 := keep_cell hv_ r0
   replace r1 := keep_cell hv_ r1
   replace s0 := keep_cell hv_ s0
   replace s1 := keep_cell hv_ s1
   replace t0 := keep_cell hv_ t0
   replace t1 := keep_cell hv_ t1
   have lt_r0 := cell_lt r0
   have lt_r1 := cell_lt r1
   have lt_s0 := cell_lt s0
   have lt_s1 := cell_lt s1
   have lt_t0 := cell_lt t0
   have lt_t1 := cell_lt t1
   replace HB := HB.trans (hv_.mono HB.size)
   clear hv_
   go_wp2_with fail
   have x0 := at_alloc0 (W := w3) (a := .bool b5) (b := .slice R3 k5 c3) (t := 24) rfl
   have x1 := at_alloc1 (W := w3) (a := .bool b5) (b := .slice R3 k5 c3) (t := 24) rfl
   have hv_ : Below w3.heap.size w3 (w3.alloc (.cells #[.bool b5, .slice R3 k5 c3] 24)) := (Below.refl _ _).alloc (Nat.le_refl _) _
   generalize w3.alloc (.cells #[.bool b5, .slice R3 k5 c3] 24) = u3 at *
   replace m1 := m1.below hv_
   replace m2 := m2.below hv_
   replace m3 := m3.below hv_
   replace z2 := z2.below hv_
   replace r0 := keep_cell hv_ r0
   replace r1 := keep_cell hv_ r1
   replace s0 := keep_cell hv_ s0
   replace s1 := keep_cell hv_ s1
   replace t0 := keep_cell hv_ t0
   replace t1 := keep_cell hv_ t1
   replace HB := HB.trans (hv_.mono HB.size)
   clear hv_
   refine (HC.out _ _ _ _ _ m2 m3).mono ?_
   rintro e w4 ⟨rfl, h4⟩
   have hv_ : Below u3.heap.size u3 w4 := Below.trans (b := _) (by repeat (first | assumption | exact Bv _ _ | refine Ba ?_ (by simp; try omega) _ | refine Bd ?_ | refine Bn ?_ _)) (h4.mono (by simp; try omega))
   replace m1 := m1.below hv_
   replace z2 := z2.below hv_
   replace r0 := keep_cell hv_ r0
   replace r1 := keep_cell hv_ r1
   replace s0 := keep_cell hv_ s0
   replace s1 := keep_cell hv_ s1
   have lt_r0 := cell_lt r0
   have lt_r1 := cell_lt r1
   have lt_s0 := cell_lt s0
   have lt_s1 := cell_lt s1
   replace HB := HB.trans (hv_.mono HB.size)
   clear hv_
   have f_z2 := z2.fr
   go_wp2
   refine bodyPost_ret (v := .tuple #[.agg #[.bool b, .slice R1 k3 c1], .int .i64 0]) ?_ rfl ?_
   ·simp [results, Tryz.results16, go_sem, r0, r1]
   ·obtain ⟨j1_, j2_⟩ := fin_in m1 HB (by omega) r0 r1 (.bool b) (.slice R1 k3 c1)
    exact GZEn.r ⟨R1, c1, rfl, j1_, j2_⟩ IQ.out
  ·obtain ⟨b7, k7, L7, I7⟩ := iz (f.1 / (f.2 : Int) + 1)
   have HC := hid fun (w1 : World) (R Q : Option Addr) (c d : Nat) (m : Mg w1 R c L4) (m' : Mg w1 Q d L5) => Cmp_g (w := w1) I4.out I5.out m m' fx2 fx3 _ rfl
   have hzo : 0 ≤ zord (f.1 % (f.2 : Int)) ((f.2 : Int) - f.1 % (f.2 : Int)) := by unfold zord; rw [if_neg hlt]; split <;> omega
   have H1 := hid fun (w1 : World) => FromInt_g (w := w1) I6.out (by omega) (by omega)
   have HA := hid fun (w1 : World) (hw : w.heap.size ≤ w1.heap.size) (R Q : Option Addr) (c d : Nat) (m : Mg w1 R c L3) (m' : Mg w1 Q d L6) => (Add_gn (w := w1) I3.out I6.out I7.out (fitE_yes (hra hlt)) m m' fx1 (valid_int 1 (by omega) (by omega)) rfl).mono fun _ _ => GZEn.up hw
   rw [hre.2 hlt]
   generalize zord (f.1 % (f.2 : Int)) ((f.2 : Int) - f.1 % (f.2 : Int)) = zo at *
   clear hre hra hlt fx1 fx2 fx3 fd ab1 ab2 ab3 hdp hdm ma mb IF NF I3 I4 I5 I6 hd0
   generalize f.1 / (f.2 : Int) + 1 = z at *
   go_enter Tryz.func16, Tryz.ntmps16
   go_wp2_with fail
   refine enterFI (P := fun u => Calls _ _ _ (u.alloc _) _) ?_
   intro u HB q0 q1 q2 q3 r0 r1 z1 z2 hsz
   have f_z1 := z1.fr
   have f_z2 := z2.fr
   have lt_q0 := cell_lt q0
   have lt_r0 := cell_lt r0
   have HX2 := HX.out u HB
   rw [hsz.out] at HX2
   refine HX2.mono ?_
   clear HX2
   rintro e w1 ⟨rfl, h1⟩
   have hv_ : Below u.heap.size u w1 := Below.trans (b := _) (by repeat (first | assumption | exact Bv _ _ | refine Ba ?_ (by simp; try omega) _ | refine Bd ?_ | refine Bn ?_ _)) (h1.mono (by simp; try omega))
   replace q0 := keep_cell hv_ q0
   replace q1 := keep_cell hv_ q1
   replace q2 := keep_cell hv_ q2
   replace q3 := keep_cell hv_ q3
   replace r0 := keep_cell hv_ r0
   replace r1 := keep_cell hv_ r1
   have lt_q0 := cell_lt q0
   have lt_q1 := cell_lt q1
   have lt_q2 := cell_lt q2
   have lt_q3 := cell_lt q3
   have lt_r0 := cell_lt r0
   have lt_r1 := cell_lt r1
   replace z1 := z1.below hv_
   replace z2 := z2.below hv_
   replace f_z1 := z1.fr
   replace f_z2 := z2.fr
   replace HB := HB.trans (hv_.mono HB.size)
   clear hv_
   go_wp2_with fail
   refine (HD.out _ HB).mono ?_
   rintro e w2 ⟨R1, c1, R2, c2, rfl, m1, m2, h2⟩
   have hv_ : Below w1.heap.size w1 w2 := Below.trans (b := _) (by repeat (first | assumption | exact Bv _ _ | refine Ba ?_ (by simp; try omega) _ | refine Bd ?_ | refine Bn ?_ _)) (h2.mono (by simp; try omega))
   replace q0 := keep_cell hv_ q0
   replace q1 := keep_cell hv_ q1
   replace q2 := keep_cell hv_ q2
   replace q3 := keep_cell hv_ q3
   replace r0 := keep_cell hv_ r0
   replace r1 := keep_cell hv_ r1
   have lt_q0 := cell_lt q0
   have lt_q1 := cell_lt q1
   have lt_q2 := cell_lt q2
   have lt_q3 := cell_lt q3
   have lt_r0 := cell_lt r0
   have lt_r1 := cell_lt r1
   replace z2 := z2.below hv_
   replace f_z2 := z2.fr
   replace HB := HB.trans (hv_.mono HB.size)
   clear hv_
   go_wp2_with fail
   have s0 := keep_alloc (b := .cells #[.bool b4, .slice R2 k4 c2] 24) (at_alloc0 (W := w2) (a := .bool b) (b := .slice R1 k3 c1) (t := 24) rfl)
   have s1 := keep_alloc (b := .cells #[.bool b4, .slice R2 k4 c2] 24) (at_alloc1 (W := w2) (a := .bool b) (b := .slice R1 k3 c1) (t := 24) rfl)
   have t0 := at_alloc0 (W := w2.alloc (.cells #[.bool b, .slice R1 k3 c1] 24)) (a := .bool b4) (b := .slice R2 k4 c2) (t := 24) rfl
   have t1 := at_alloc1 (W := w2.alloc (.cells #[.bool b, .slice R1 k3 c1] 24)) (a := .bool b4) (b := .slice R2 k4 c2) (t := 24) rfl
   have hv_ : Below w2.heap.size w2 ((w2.alloc (.cells #[.bool b, .slice R1 k3 c1] 24)).alloc (.cells #[.bool b4, .slice R2 k4 c2] 24)) := ((Below.refl _ _).alloc (Nat.le_refl _) _).alloc (by simp) _
   simp only [World.size_alloc] at t0 t1
   generalize (w2.alloc (.cells #[.bool b, .slice R1 k3 c1] 24)).alloc (.cells #[.bool b4, .slice R2 k4 c2] 24) = u2 at *
   replace m1 := m1.below hv_
   replace m2 := m2.below hv_
   replace z2 := z2.below hv_
   replace q0 := keep_cell hv_ q0
   replace q1 := keep_cell hv_ q1
   replace q2 := keep_cell hv_ q2
   replace q3 := keep_cell hv_ q3
   replace r0 := keep_cell hv_ r0
   replace r1 := keep_cell hv_ r1
   replace HB := HB.trans (hv_.mono HB.size)
   clear hv_
   refine (HS.out _ HB _ _ m2).mono ?_
   rintro e w3 ⟨R3, c3, rfl, m3, h3⟩
   have hv_ : Below u2.heap.size u2 w3 := Below.trans (b := _) (by repeat (first | assumption | exact Bv _ _ | refine Ba ?_ (by simp; try omega) _ | refine Bd ?_ | refine Bn ?_ _)) (h3.mono (by simp; try omega))
   replace m1 := m1.below hv_
   replace m2 := m2.below hv_
   replace z2 := z2.below hv_
   replace r0 := keep_cell hv_ r0
   replace r1 := keep_cell hv_ r1
   replace s0 := keep_cell hv_ s0
   replace s1 := keep_cell hv_ s1
   replace t0 := keep_cell hv_ t0
   replace t1 := keep_cell hv_ t1
   have lt_r0 := cell_lt r0
   have lt_r1 := cell_lt r1
   have lt_s0 := cell_lt s0
   have lt_s1 := cell_lt s1
   have lt_t0 := cell_lt t0
   have lt_t1 := cell_lt t1
   replace HB := HB.trans (hv_.mono HB.size)
   clear hv_
   go_wp2_with fail
   have x0 := at_alloc0 (W := w3) (a := .bool b5) (b := .slice R3 k5 c3) (t := 24) rfl
   have x1 := at_alloc1 (W := w3) (a := .bool b5) (b := .slice R3 k5 c3) (t := 24) rfl
   have hv_ : Below w3.heap.size w3 (w3.alloc (.cells #[.bool b5, .slice R3 k5 c3] 24)) := (Below.refl _ _).alloc (Nat.le_refl _) _
   generalize w3.alloc (.cells #[.bool b5, .slice R3 k5 c3] 24) = u3 at *
   replace m1 := m1.below hv_
   replace m2 := m2.below hv_
   replace m3 := m3.below hv_
   replace z2 := z2.below hv_
   replace r0 := keep_cell hv_ r0
   replace r1 := keep_cell hv_ r1
   replace s0 := keep_cell hv_ s0
   replace s1 := keep_cell hv_ s1
   replace t0 := keep_cell hv_ t0
   replace t1 := keep_cell hv_ t1
   replace HB := HB.trans (hv_.mono HB.size)
   clear hv_
   refine (HC.out _ _ _ _ _ m2 m3).mono ?_
   rintro e w4 ⟨rfl, h4⟩
   have hv_ : Below u3.heap.size u3 w4 := Below.trans (b := _) (by repeat (first | assumption | exact Bv _ _ | refine Ba ?_ (by simp; try omega) _ | refine Bd ?_ | refine Bn ?_ _)) (h4.mono (by simp; try omega))
   replace m1 := m1.below hv_
   replace z2 := z2.below hv_
   replace r0 := keep_cell hv_ r0
   replace r1 := keep_cell hv_ r1
   replace s0 := keep_cell hv_ s0
   replace s1 := keep_cell hv_ s1
   have lt_r0 := cell_lt r0
   have lt_r1 := cell_lt r1
   have lt_s0 := cell_lt s0
   have lt_s1 := cell_lt s1
   replace HB := HB.trans (hv_.mono HB.size)
   clear hv_
   have f_z2 := z2.fr
   go_wp2_with fail
   have lt_s := cell_lt s0
   go_region_held3 (fun w' => w'.cell? ⟨w2.heap.size, 0, none⟩ = some (.bool b) ∧ w'.cell? ⟨w2.heap.size, 1, none⟩ = some (.slice R1 k3 c1)) (first | ((try dsimp only); repeat' (first | with_reducible assumption | apply And.intro | (with_reducible refine keep_alloc ?_) | (with_reducible refine keep_drew ?_) | (with_reducible refine keep_set (by first | omega | (simp only [World.size_alloc, World.size_setCell, World.size_drew]; done) | (simp only [World.size_alloc, World.size_setCell, World.size_drew]; omega)) ?_) | (with_reducible refine keep_cell (W := w4) ?_ ?_) | fail))) (first | (go_at_call 38; (with_reducible refine (H1.out _).mono ?_); rintro e y1 ⟨Ri, ci, rfl, mi, hq_⟩; have qy1 : Below w4.heap.size w4 y1 := bel_step BG hq_) | (go_at_call 42; (with_reducible refine (HA.out _ (bel_step HB BG).size _ _ _ _ (m1.m.below BG) (mi.below BG)).mono ?_); rintro e y2 ⟨Ra, ca', rfl, ma', hq_⟩; have qy2 : Below w4.heap.size w4 y2 := bel_step BG hq_; have r0 := keep_cell qy2 r0; have r1 := keep_cell qy2 r1; have z2 := z2.below qy2; have f_z2 := z2.fr))
   all_goals
    replace HB := bel_step HB qy2
    go_wp2
    refine bodyPost_ret (v := .tuple #[.agg #[.bool b7, .slice Ra k7 ca'], .int .i64 0]) ?_ rfl ?_
    ·simp [results, Tryz.results16, go_sem, r0, r1]
    ·obtain ⟨j1_, j2_⟩ := fin_in ma' HB (by omega) r0 r1 (.bool b7) (.slice Ra k7 ca')
     exact GZEn.r ⟨Ra, ca', rfl, j1_, j2_⟩ I7.out
theorem FrRound_any {na nb : Bool} {xs ys : List Nat} {A B : Option Addr} {ca cb : Nat} {w : World} (ma : Mg w A ca xs) (mb : Mg w B cb ys) :
  Calls Tryz.prog 16 #[.agg #[.bool na, .slice A xs.length ca, .bool nb, .slice B ys.length cb]] w (RetZE w (intR rndF na xs nb ys).1 (intR rndF na xs nb ys).2) := (FrRound_n ma mb).mono fun _ _ h => h.any
end Go.Proofs.YtfdmlfpldgobjaaGreatDoor
