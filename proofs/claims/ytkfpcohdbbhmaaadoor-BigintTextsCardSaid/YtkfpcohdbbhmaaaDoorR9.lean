/- The reference: the walk of DivMod. Conditions: none. -/
import Derived.Test.YtkfpcohdbbhmaaaDoorR8
namespace Go.Proofs.YtkfpcohdbbhmaaaDoor
set_option linter.unusedVariables false
set_option linter.unusedSimpArgs false
open Go.RowKit Big

set_option maxHeartbeats 1000000 in
theorem RDivMod_bad1 (na nb : Bool) (xs ys : List Nat) (A B : Option Addr) (c d : Nat) (w : World) (ha : Mg w A c xs) (h : validB na xs = false) :
    Calls Tryd.prog 16 #[.agg #[.bool na, .slice A xs.length c], .agg #[.bool nb, .slice B ys.length d]] w (RetDM w 0 0 1) := by
  have HX := hid fun (w1 : World) (h1 : Below w.heap.size w w1) => RValid_f (ha.below h1) h
  clear ha h
  generalize xs.length = lx at *
  generalize ys.length = ly at *
  go_enter Tryd.func16, Tryd.ntmps16
  go_wp2_with fail
  refine (HX.out _ (by repeat (first | assumption | exact Below.refl _ _ | refine Below.alloc ?_ (by simp; try omega) _ | refine Below.drew ?_ | refine below_drewN ?_ _))).mono ?_
  rintro e w1 ⟨rfl, h1⟩
  obtain ⟨q1, q2, q3, q4, q5, q6, q7, q8, q9⟩ := box4_keep h1
  have b2 : Below w.heap.size w w1 := Below.trans (b := _) (by repeat (first | assumption | exact Below.refl _ _ | refine Below.alloc ?_ (by simp; try omega) _ | refine Below.drew ?_ | refine below_drewN ?_ _)) (h1.mono (by simp; omega))
  have k0 := q5 0
  have k1 := q5 1
  have k2 := q7 0
  have k3 := q7 1
  simp at k0 k1 k2 k3
  go_wp2
  refine bodyPost_ret (v := .tuple #[.agg #[.bool false, .slice none 0 0], .agg #[.bool false, .slice none 0 0], .int .i64 1]) ?_ rfl ?_
  · simp [results, Tryd.results16, go_sem, k0, k1, k2, k3]
  · exact retDM_zero 1 (below_set (below_set (below_set (below_set b2 (by omega) _ _) (by omega) _ _) (by omega) _ _) (by omega) _ _)

set_option maxHeartbeats 1000000 in
theorem RDivMod_bad2 (x : Int) (nb : Bool) (ys : List Nat) (A B : Option Addr) (c d : Nat) (w : World) (ha : Mg w A c (limbs x.natAbs)) (hb : Mg w B d ys) (fx : fits x) (h : validB nb ys = false) :
    Calls Tryd.prog 16 #[.agg #[.bool (decide ((x) < 0)), .slice A (limbs (Int.natAbs (x))).length c], .agg #[.bool nb, .slice B ys.length d]] w (RetDM w 0 0 1) := by
  have HX := hid fun (w1 : World) (h : Below w.heap.size w w1) => RValid_t (ha.below h) fx
  have HY := hid fun (w1 : World) (h1 : Below w.heap.size w w1) => RValid_f (hb.below h1) h
  clear ha hb fx h
  generalize decide (x < 0) = bx at *
  generalize (limbs x.natAbs).length = lx at *
  generalize ys.length = ly at *
  go_enter Tryd.func16, Tryd.ntmps16
  go_wp2_with fail
  refine (HX.out _ (by repeat (first | assumption | exact Below.refl _ _ | refine Below.alloc ?_ (by simp; try omega) _ | refine Below.drew ?_ | refine below_drewN ?_ _))).mono ?_
  rintro e w1 ⟨rfl, h1⟩
  obtain ⟨p1, p2, p3, p4, p5, p6, p7, p8, p9⟩ := box4_keep h1
  have b1 : Below w.heap.size w w1 := Below.trans (b := _) (by repeat (first | assumption | exact Below.refl _ _ | refine Below.alloc ?_ (by simp; try omega) _ | refine Below.drew ?_ | refine below_drewN ?_ _)) (h1.mono (by simp; omega))
  go_wp2_with fail
  refine (HY.out _ b1).mono ?_
  rintro e w2 ⟨rfl, h2⟩
  have h12 := h1.trans (h2.mono h1.size)
  obtain ⟨q1, q2, q3, q4, q5, q6, q7, q8, q9⟩ := box4_keep h12
  have b2 := b1.trans (h2.mono b1.size)
  clear p1 p2 p3 p4 p5 p6 p7 p8 p9
  have k0 := q5 0
  have k1 := q5 1
  have k2 := q7 0
  have k3 := q7 1
  simp at k0 k1 k2 k3
  go_wp2
  refine bodyPost_ret (v := .tuple #[.agg #[.bool false, .slice none 0 0], .agg #[.bool false, .slice none 0 0], .int .i64 1]) ?_ rfl ?_
  · simp [results, Tryd.results16, go_sem, k0, k1, k2, k3]
  · exact retDM_zero 1 (below_set (below_set (below_set (below_set b2 (by omega) _ _) (by omega) _ _) (by omega) _ _) (by omega) _ _)

set_option maxHeartbeats 1000000 in
theorem RDivMod_zero (x : Int) (A B : Option Addr) (c d : Nat) (w : World) (ha : Mg w A c (limbs x.natAbs)) (hb : Mg w B d (limbs (0 : Int).natAbs)) (fx : fits x) :
    Calls Tryd.prog 16 #[.agg #[.bool (decide ((x) < 0)), .slice A (limbs (Int.natAbs (x))).length c], .agg #[.bool (decide (((0 : Int)) < 0)), .slice B (limbs (Int.natAbs ((0 : Int)))).length d]] w (RetDM w 0 0 12) := by
  have HX := hid fun (w1 : World) (h : Below w.heap.size w w1) => RValid_t (ha.below h) fx
  have HY := hid fun (w1 : World) (h : Below w.heap.size w w1) => RValid_t (z := 0) (hb.below h) (by simp [fits, limbs_zero])
  have e0 : (limbs (0 : Int).natAbs).length = 0 := by simp [limbs_zero]
  have e1 : decide ((0 : Int) < 0) = false := rfl
  rw [e0, e1] at HY ⊢
  clear ha hb fx e0 e1
  generalize decide (x < 0) = bx at *
  generalize (limbs x.natAbs).length = lx at *
  go_enter Tryd.func16, Tryd.ntmps16
  go_wp2_with fail
  refine (HX.out _ (by repeat (first | assumption | exact Below.refl _ _ | refine Below.alloc ?_ (by simp; try omega) _ | refine Below.drew ?_ | refine below_drewN ?_ _))).mono ?_
  rintro e w1 ⟨rfl, h1⟩
  obtain ⟨p1, p2, p3, p4, p5, p6, p7, p8, p9⟩ := box4_keep h1
  have b1 : Below w.heap.size w w1 := Below.trans (b := _) (by repeat (first | assumption | exact Below.refl _ _ | refine Below.alloc ?_ (by simp; try omega) _ | refine Below.drew ?_ | refine below_drewN ?_ _)) (h1.mono (by simp; omega))
  go_wp2_with fail
  refine (HY.out _ b1).mono ?_
  rintro e w2 ⟨rfl, h2⟩
  have h12 := h1.trans (h2.mono h1.size)
  obtain ⟨q1, q2, q3, q4, q5, q6, q7, q8, q9⟩ := box4_keep h12
  have b2 := b1.trans (h2.mono b1.size)
  clear p1 p2 p3 p4 p5 p6 p7 p8 p9
  have k0 := q5 0
  have k1 := q5 1
  have k2 := q7 0
  have k3 := q7 1
  simp at k0 k1 k2 k3
  go_wp2
  refine bodyPost_ret (v := .tuple #[.agg #[.bool false, .slice none 0 0], .agg #[.bool false, .slice none 0 0], .int .i64 12]) ?_ rfl ?_
  · simp [results, Tryd.results16, go_sem, k0, k1, k2, k3]
  · exact retDM_zero 12 (below_set (below_set (below_set (below_set b2 (by omega) _ _) (by omega) _ _) (by omega) _ _) (by omega) _ _)

set_option maxRecDepth 100000 in
set_option maxHeartbeats 1000000 in
theorem RDivMod_ok (x y : Int) (A B : Option Addr) (c d : Nat) (w : World) (ha : Mg w A c (limbs x.natAbs)) (hb : Mg w B d (limbs y.natAbs)) (fx : fits x) (fy : fits y) (hy : y ≠ 0) :
    Calls Tryd.prog 16 #[.agg #[.bool (decide ((x) < 0)), .slice A (limbs (Int.natAbs (x))).length c], .agg #[.bool (decide ((y) < 0)), .slice B (limbs (Int.natAbs (y))).length d]] w (RetDM w (dmQ x y) (dmR x y) 0) := by
  have hm : y.natAbs ≠ 0 := by omega
  have lx5 : (limbs x.natAbs).length ≤ 512 := fx
  have ly5 : (limbs y.natAbs).length ≤ 512 := fy
  have HX := hid fun (w1 : World) (h : Below w.heap.size w w1) => RValid_t (ha.below h) fx
  have HY := hid fun (w1 : World) (h : Below w.heap.size w w1) => RValid_t (hb.below h) fy
  have HM := hid fun (w1 : World) (h : Below w.heap.size w w1) => Rdivide_n A B c d x.natAbs y.natAbs w1 (ha.below h) (hb.below h) (by omega) (by omega) hm
  have hly0 : 0 < (limbs y.natAbs).length := by rw [limbs_pos hm]; simp
  have hlt := Nat.mod_lt x.natAbs (Nat.pos_of_ne_zero hm)
  have hql : (limbs (x.natAbs / y.natAbs)).length ≤ 512 := Nat.le_trans (limbs_mono (Nat.div_le_self _ _)) lx5
  have hrl : (limbs (x.natAbs % y.natAbs)).length ≤ 512 := Nat.le_trans (limbs_mono (Nat.le_of_lt hlt)) ly5
  have hq1 : (limbs (x.natAbs / y.natAbs + 1)).length ≤ 513 := Nat.le_trans (by have := limbs_len2 (n := x.natAbs / y.natAbs) (m := 1) (p := 1) (by omega) (by omega); rwa [Nat.mul_one] at this) (show _ + 1 ≤ 513 by omega)
  by_cases hP : dmP x y
  · have eq : dmQ x y = sg true (x.natAbs / y.natAbs + 1) := by unfold dmQ; rw [if_pos hP]
    have er : dmR x y = sg (decide (y < 0)) (y.natAbs - x.natAbs % y.natAbs) := by unfold dmR; rw [if_pos hP]
    rw [eq, er]
    obtain ⟨hs, hr0⟩ := hP
    have hr1 : 0 < (limbs (x.natAbs % y.natAbs)).length := by rw [limbs_pos hr0]; simp
    have hsl : (limbs (y.natAbs - x.natAbs % y.natAbs)).length ≤ 512 := Nat.le_trans (limbs_mono (Nat.sub_le _ _)) ly5
    have HSu := hid fun (w1 : World) (h : Below w.heap.size w w1) (A1 : Option Addr) (c1 : Nat) (h1 : Mg w1 A1 c1 (limbs (x.natAbs % y.natAbs))) => Rminus_n B A1 d c1 y.natAbs (x.natAbs % y.natAbs) w1 (hb.below h) h1 (by omega) (by omega) (by omega)
    have HAd := hid fun (w1 : World) (A1 A2 : Option Addr) (c1 c2 : Nat) (h1 : Mg w1 A1 c1 (limbs (x.natAbs / y.natAbs))) (h2 : Mg w1 A2 c2 [1]) => (show Calls Tryd.prog 57 #[.slice A1 (limbs (x.natAbs / y.natAbs)).length c1, .slice A2 1 c2] w1 (RetN w1 (x.natAbs / y.natAbs + 1)) by
      have h3 := Rplus_n A1 A2 c1 c2 (x.natAbs / y.natAbs) 1 w1 h1 (by rw [limbs_one]; exact h2) (by omega) (by rw [limbs_one]; decide)
      rw [limbs_one] at h3
      exact h3)
    have H1 := hid fun (w1 : World) (A1 : Option Addr) (c1 : Nat) (h : Mg w1 A1 c1 (limbs (x.natAbs / y.natAbs + 1))) => Rsigned_n A1 c1 _ w1 h (by omega) true
    have H2 := hid fun (w1 : World) (A1 : Option Addr) (c1 : Nat) (h : Mg w1 A1 c1 (limbs (y.natAbs - x.natAbs % y.natAbs))) => Rsigned_n A1 c1 _ w1 h (by omega) (decide (y < 0))
    generalize x.natAbs / y.natAbs = Qn at *
    generalize x.natAbs % y.natAbs = Rn at *
    generalize y.natAbs - Rn = Sn at *
    have hse : (decide (x < 0) == decide (y < 0)) = false := by simp [hs]
    have hrz : (((limbs Rn).length : Int) == 0) = false := by rw [beq_eq_false_iff_ne]; omega
    clear eq er hlt hql ha hb fx fy hm hy hs hr0 hrl hq1 hsl lx5 ly5
    generalize hbx : decide (x < 0) = bx at *
    generalize hby : decide (y < 0) = by_ at *
    generalize hlx : (limbs x.natAbs).length = lx at *
    generalize hly : (limbs y.natAbs).length = ly at *
    clear hlx hbx hby hly
    go_enter Tryd.func16, Tryd.ntmps16
    go_wp2_with fail
    refine (HX.out _ (by repeat (first | assumption | exact Below.refl _ _ | refine Below.alloc ?_ (by simp; try omega) _ | refine Below.drew ?_ | refine below_drewN ?_ _))).mono ?_
    rintro e w1 ⟨rfl, h1⟩
    obtain ⟨p1, p2, p3, p4, p5, p6, p7, p8, p9⟩ := box4_keep h1
    have b1 : Below w.heap.size w w1 := Below.trans (b := _) (by repeat (first | assumption | exact Below.refl _ _ | refine Below.alloc ?_ (by simp; try omega) _ | refine Below.drew ?_ | refine below_drewN ?_ _)) (h1.mono (by simp; omega))
    go_wp2_with fail
    refine (HY.out _ b1).mono ?_
    rintro e w2 ⟨rfl, h2⟩
    have h12 := h1.trans (h2.mono h1.size)
    obtain ⟨q1, q2, q3, q4, q5, q6, q7, q8, q9⟩ := box4_keep h12
    have b2 := b1.trans (h2.mono b1.size)
    clear p1 p2 p3 p4 p5 p6 p7 p8 p9
    go_wp2_with fail
    refine (HM.out _ b2).mono ?_
    rintro e w3 ⟨Aq, cq, Ar, cr, rfl, hq, hr, h3⟩
    have h13 := h12.trans (h3.mono h12.size)
    obtain ⟨v1, v2, v3, v4, v5, v6, v7, v8, v9⟩ := box4_keep h13
    have b3 := b2.trans (h3.mono b2.size)
    have c30 : w3.cell? ⟨w.heap.size + 1, 0, none⟩ = some (.bool by_) := (v3 0).trans rfl
    have c31 : w3.cell? ⟨w.heap.size + 1, 1, none⟩ = some (.slice B ly d) := (v3 1).trans rfl
    clear q1 q2 q3 q4 q5 q6 q7 q8 q9
    go_wp2_with fail
    go_region_held3 (fun w' => w'.cell? ⟨w.heap.size + 1, 0, none⟩ = some (.bool by_) ∧ w'.cell? ⟨w.heap.size + 1, 1, none⟩ = some (.slice B ly d)) (first | ((try dsimp only); repeat' (first | with_reducible assumption | apply And.intro | (with_reducible refine keep_alloc ?_) | (with_reducible refine keep_drew ?_) | (with_reducible refine keep_set (by first | omega | (simp only [World.size_alloc, World.size_setCell, World.size_drew]; done) | (simp only [World.size_alloc, World.size_setCell, World.size_drew]; omega)) ?_) | (with_reducible refine keep_cell (W := w3) ?_ ?_) | fail))) (first | (go_at_call 56; (with_reducible refine (H2.out _ _ _ hr6).mono ?_); rintro e w7 ⟨R7, c7, rfl, hr7, h7⟩; have h37 := bel_step h36 h7; have c70 := keep_cell h37 c30; have h1f := h13.trans (h37.mono h13.size); obtain ⟨r1, r2, r3, r4, r5, r6, r7, r8, r9⟩ := box4_keep h1f; have c71 := keep_cell h37 c31) | (go_at_call 58; (with_reducible refine (HSu.out _ (b3.trans (h35.mono b3.size)) _ _ (hr.below h35)).mono ?_); rintro e w6 ⟨R6, c6, rfl, hr6, h6⟩; have h36 := bel_step h35 h6; have c60 := keep_cell h36 c30; have c61 := keep_cell h36 c31) | (go_at_call 56; (with_reducible refine (H1.out _ _ _ hr4).mono ?_); rintro e w5 ⟨R5, c5, rfl, hr5, h5⟩; have h35 := bel_step h34 h5; have c50 := keep_cell h35 c30; have c51 := keep_cell h35 c31) | (go_at_call 57; (with_reducible refine (HAd.out _ _ _ _ _ (hq.below (by repeat' (first | with_reducible assumption | exact Below.refl _ _ | (refine Below.alloc ?_ (by first | omega | (simp only [World.size_alloc, World.size_setCell, World.size_drew]; done) | (simp only [World.size_alloc, World.size_setCell, World.size_drew]; omega)) _) | (refine Below.drew ?_) | (refine below_drewN ?_ _) | (refine Below.setCell ?_ (by first | omega | (simp only [World.size_alloc, World.size_setCell, World.size_drew]; done) | (simp only [World.size_alloc, World.size_setCell, World.size_drew]; omega)) _)))) ((mg_one w3).below ((Below.refl _ _).drew))).mono ?_); rintro e w4 ⟨R4, c4, rfl, hr4, h4⟩; have h34 : Below w3.heap.size w3 w4 := bel_step (by repeat' (first | with_reducible assumption | exact Below.refl _ _ | (refine Below.alloc ?_ (by first | omega | (simp only [World.size_alloc, World.size_setCell, World.size_drew]; done) | (simp only [World.size_alloc, World.size_setCell, World.size_drew]; omega)) _) | (refine Below.drew ?_) | (refine below_drewN ?_ _) | (refine Below.setCell ?_ (by first | omega | (simp only [World.size_alloc, World.size_setCell, World.size_drew]; done) | (simp only [World.size_alloc, World.size_setCell, World.size_drew]; omega)) _))) h4; have c40 := keep_cell h34 c30; have c41 := keep_cell h34 c31))
    all_goals
      have bf := b3.trans ((h37).mono b3.size)
      have k0 := r5 0
      have k1 := r5 1
      have k2 := r7 0
      have k3 := r7 1
      simp at k0 k1 k2 k3
      go_wp2
      refine bodyPost_ret (v := .tuple #[.agg #[.bool (decide ((sg true (Qn + 1)) < 0)), .slice R5 (limbs (Int.natAbs (sg true (Qn + 1)))).length c5], .agg #[.bool (decide ((sg by_ Sn) < 0)), .slice R7 (limbs (Int.natAbs (sg by_ Sn))).length c7], .int .i64 0]) ?_ rfl ?_
      · simp [results, Tryd.results16, go_sem, k0, k1, k2, k3]
      · exact fin_dm ((hr5.below h6).below h7) (hr7) bf (by omega) (by omega) (by omega) k0 k1 k2 k3 _ _ _ _
  · have eq : dmQ x y = sg (decide (x < 0) != decide (y < 0)) (x.natAbs / y.natAbs) := by unfold dmQ; rw [if_neg hP]
    have er : dmR x y = sg (decide (y < 0)) (x.natAbs % y.natAbs) := by unfold dmR; rw [if_neg hP]
    rw [eq, er]
    have hPP : decide (x < 0) = decide (y < 0) ∨ (decide (x < 0) ≠ decide (y < 0) ∧ x.natAbs % y.natAbs = 0) := by
      unfold dmP at hP
      by_cases h1 : decide (x < 0) = decide (y < 0)
      · exact .inl h1
      · exact .inr ⟨h1, by
          rcases Nat.eq_zero_or_pos (x.natAbs % y.natAbs) with h | h
          · exact h
          · exact absurd ⟨h1, by omega⟩ hP⟩
    generalize x.natAbs / y.natAbs = Qn at *
    generalize x.natAbs % y.natAbs = Rn at *
    have H1 := hid fun (w1 : World) (A1 : Option Addr) (c1 : Nat) (h : Mg w1 A1 c1 (limbs Qn)) => Rsigned_n A1 c1 Qn w1 h (by omega) (decide (x < 0) != decide (y < 0))
    have H2 := hid fun (w1 : World) (A1 : Option Addr) (c1 : Nat) (h : Mg w1 A1 c1 (limbs Rn)) => Rsigned_n A1 c1 Rn w1 h (by omega) (decide (y < 0))
    clear eq er hP hlt hql ha hb fx fy hm hy hrl hq1 lx5 ly5
    rcases hPP with hs | ⟨hs, hr0⟩
    · have hsb : (decide (x < 0) != decide (y < 0)) = false := by rw [hs]; simp
      have hse : (decide (x < 0) == decide (y < 0)) = true := by rw [hs]; simp
      rw [hsb] at H1 ⊢
      clear hs
      generalize hbx : decide (x < 0) = bx at *
      generalize hby : decide (y < 0) = by_ at *
      generalize hlx : (limbs x.natAbs).length = lx at *
      generalize hly : (limbs y.natAbs).length = ly at *
      clear hlx hbx hby hly
      go_enter Tryd.func16, Tryd.ntmps16
      go_wp2_with fail
      refine (HX.out _ (by repeat (first | assumption | exact Below.refl _ _ | refine Below.alloc ?_ (by simp; try omega) _ | refine Below.drew ?_ | refine below_drewN ?_ _))).mono ?_
      rintro e w1 ⟨rfl, h1⟩
      obtain ⟨p1, p2, p3, p4, p5, p6, p7, p8, p9⟩ := box4_keep h1
      have b1 : Below w.heap.size w w1 := Below.trans (b := _) (by repeat (first | assumption | exact Below.refl _ _ | refine Below.alloc ?_ (by simp; try omega) _ | refine Below.drew ?_ | refine below_drewN ?_ _)) (h1.mono (by simp; omega))
      go_wp2_with fail
      refine (HY.out _ b1).mono ?_
      rintro e w2 ⟨rfl, h2⟩
      have h12 := h1.trans (h2.mono h1.size)
      obtain ⟨q1, q2, q3, q4, q5, q6, q7, q8, q9⟩ := box4_keep h12
      have b2 := b1.trans (h2.mono b1.size)
      clear p1 p2 p3 p4 p5 p6 p7 p8 p9
      go_wp2_with fail
      refine (HM.out _ b2).mono ?_
      rintro e w3 ⟨Aq, cq, Ar, cr, rfl, hq, hr, h3⟩
      have h13 := h12.trans (h3.mono h12.size)
      obtain ⟨v1, v2, v3, v4, v5, v6, v7, v8, v9⟩ := box4_keep h13
      have b3 := b2.trans (h3.mono b2.size)
      have c30 : w3.cell? ⟨w.heap.size + 1, 0, none⟩ = some (.bool by_) := (v3 0).trans rfl
      have c31 : w3.cell? ⟨w.heap.size + 1, 1, none⟩ = some (.slice B ly d) := (v3 1).trans rfl
      clear q1 q2 q3 q4 q5 q6 q7 q8 q9
      go_wp2_with fail
      go_region_held3 (fun w' => w'.cell? ⟨w.heap.size + 1, 0, none⟩ = some (.bool by_)) (first | ((try dsimp only); repeat' (first | with_reducible assumption | apply And.intro | (with_reducible refine keep_alloc ?_) | (with_reducible refine keep_drew ?_) | (with_reducible refine keep_set (by first | omega | (simp only [World.size_alloc, World.size_setCell, World.size_drew]; done) | (simp only [World.size_alloc, World.size_setCell, World.size_drew]; omega)) ?_) | (with_reducible refine keep_cell (W := w3) ?_ ?_) | fail))) (first | (go_at_call 56; (with_reducible refine (H2.out _ _ _ (hr.below h35)).mono ?_); rintro e w7 ⟨R7, c7, rfl, hr7, h7⟩; have h37 := bel_step h35 h7; have c70 := keep_cell h37 c30; have h1f := h13.trans (h37.mono h13.size); obtain ⟨r1, r2, r3, r4, r5, r6, r7, r8, r9⟩ := box4_keep h1f; skip) | (go_at_call 56; (with_reducible refine (H1.out _ _ _ (hq.below (by repeat' (first | with_reducible assumption | exact Below.refl _ _ | (refine Below.alloc ?_ (by first | omega | (simp only [World.size_alloc, World.size_setCell, World.size_drew]; done) | (simp only [World.size_alloc, World.size_setCell, World.size_drew]; omega)) _) | (refine Below.drew ?_) | (refine below_drewN ?_ _) | (refine Below.setCell ?_ (by first | omega | (simp only [World.size_alloc, World.size_setCell, World.size_drew]; done) | (simp only [World.size_alloc, World.size_setCell, World.size_drew]; omega)) _))))).mono ?_); rintro e w5 ⟨R5, c5, rfl, hr5, h5⟩; have h35 : Below w3.heap.size w3 w5 := bel_step (by repeat' (first | with_reducible assumption | exact Below.refl _ _ | (refine Below.alloc ?_ (by first | omega | (simp only [World.size_alloc, World.size_setCell, World.size_drew]; done) | (simp only [World.size_alloc, World.size_setCell, World.size_drew]; omega)) _) | (refine Below.drew ?_) | (refine below_drewN ?_ _) | (refine Below.setCell ?_ (by first | omega | (simp only [World.size_alloc, World.size_setCell, World.size_drew]; done) | (simp only [World.size_alloc, World.size_setCell, World.size_drew]; omega)) _))) h5; have c50 := keep_cell h35 c30))
      all_goals
        have bf := b3.trans ((h37).mono b3.size)
        have k0 := r5 0
        have k1 := r5 1
        have k2 := r7 0
        have k3 := r7 1
        simp at k0 k1 k2 k3
        go_wp2
        refine bodyPost_ret (v := .tuple #[.agg #[.bool (decide ((sg false Qn) < 0)), .slice R5 (limbs (Int.natAbs (sg false Qn))).length c5], .agg #[.bool (decide ((sg by_ Rn) < 0)), .slice R7 (limbs (Int.natAbs (sg by_ Rn))).length c7], .int .i64 0]) ?_ rfl ?_
        · simp [results, Tryd.results16, go_sem, k0, k1, k2, k3]
        · exact fin_dm (hr5.below h7) (hr7) bf (by omega) (by omega) (by omega) k0 k1 k2 k3 _ _ _ _
    · have hsb : (decide (x < 0) != decide (y < 0)) = true := by simp [hs]
      have hse : (decide (x < 0) == decide (y < 0)) = false := by simp [hs]
      rw [hsb] at H1 ⊢
      subst hr0
      have hrz : ((limbs 0).length : Int) = 0 := by simp [limbs_zero]
      rw [sg_zero]
      clear hs H2
      generalize hbx : decide (x < 0) = bx at *
      generalize hby : decide (y < 0) = by_ at *
      generalize hlx : (limbs x.natAbs).length = lx at *
      generalize hly : (limbs y.natAbs).length = ly at *
      clear hlx hbx hby hly
      go_enter Tryd.func16, Tryd.ntmps16
      go_wp2_with fail
      refine (HX.out _ (by repeat (first | assumption | exact Below.refl _ _ | refine Below.alloc ?_ (by simp; try omega) _ | refine Below.drew ?_ | refine below_drewN ?_ _))).mono ?_
      rintro e w1 ⟨rfl, h1⟩
      obtain ⟨p1, p2, p3, p4, p5, p6, p7, p8, p9⟩ := box4_keep h1
      have b1 : Below w.heap.size w w1 := Below.trans (b := _) (by repeat (first | assumption | exact Below.refl _ _ | refine Below.alloc ?_ (by simp; try omega) _ | refine Below.drew ?_ | refine below_drewN ?_ _)) (h1.mono (by simp; omega))
      go_wp2_with fail
      refine (HY.out _ b1).mono ?_
      rintro e w2 ⟨rfl, h2⟩
      have h12 := h1.trans (h2.mono h1.size)
      obtain ⟨q1, q2, q3, q4, q5, q6, q7, q8, q9⟩ := box4_keep h12
      have b2 := b1.trans (h2.mono b1.size)
      clear p1 p2 p3 p4 p5 p6 p7 p8 p9
      go_wp2_with fail
      refine (HM.out _ b2).mono ?_
      rintro e w3 ⟨Aq, cq, Ar, cr, rfl, hq, hr, h3⟩
      have h13 := h12.trans (h3.mono h12.size)
      obtain ⟨v1, v2, v3, v4, v5, v6, v7, v8, v9⟩ := box4_keep h13
      have b3 := b2.trans (h3.mono b2.size)
      have c30 : w3.cell? ⟨w.heap.size + 1, 0, none⟩ = some (.bool by_) := (v3 0).trans rfl
      have c31 : w3.cell? ⟨w.heap.size + 1, 1, none⟩ = some (.slice B ly d) := (v3 1).trans rfl
      clear q1 q2 q3 q4 q5 q6 q7 q8 q9
      go_wp2_with fail
      refine (H1.out _ _ _ hq).mono ?_
      rintro e w5 ⟨R5, c5, rfl, hr5, h35⟩
      have c50 := keep_cell h35 c30
      have h1f := h13.trans (h35.mono h13.size)
      obtain ⟨r1, r2, r3, r4, r5, r6, r7, r8, r9⟩ := box4_keep h1f
      have bf := b3.trans (h35.mono b3.size)
      have k0 := r5 0
      have k1 := r5 1
      have k2 := r7 0
      have k3 := r7 1
      simp at k0 k1 k2 k3
      go_wp2
      refine bodyPost_ret (v := .tuple #[.agg #[.bool (decide ((sg true Qn) < 0)), .slice R5 (limbs (Int.natAbs (sg true Qn))).length c5], .agg #[.bool false, .slice none 0 0], .int .i64 0]) ?_ rfl ?_
      · simp [results, Tryd.results16, go_sem, k0, k1, k2, k3]
      · have hfin := fin_dm (r := 0) (B := none) (d := 0) hr5 (mg_nil w5) bf (show w.heap.size ≤ w.heap.size + 1 + 1 by omega) (show w.heap.size ≤ w.heap.size + 1 + 1 + 1 by omega) (by omega) k0 k1 k2 k3 (.bool (decide (sg true Qn < 0))) (.slice R5 (limbs (sg true Qn).natAbs).length c5) (.bool false) (.slice none 0 0) (err := 0)
        have e1 : (limbs (0 : Int).natAbs).length = 0 := by simp [limbs_zero]
        rw [e1] at hfin
        exact hfin
end Go.Proofs.YtkfpcohdbbhmaaaDoor
