/- The law BigintOrder: its walk. Conditions: none. -/
import Derived.Test.YtkfpcohdbbhmaaaDoorG
import Derived.IntWalk
import Derived.Deep.DeepCutAuto
set_option linter.unusedVariables false
set_option linter.unusedSimpArgs false
namespace Go.Proofs.YtkfpcohdbbhmaaaDoor
open Go.RowKit Big

theorem zord_neg (x y : Int) : zord (-y) (-x) = zord x y := by unfold zord; split <;> split <;> (try split) <;> (try split) <;> omega
theorem zord_flip (x y : Int) : zord y x = -zord x y := by unfold zord; split <;> split <;> (try split) <;> (try split) <;> omega
theorem zord_zero (x y : Int) : decide (x = y) = (zord x y == 0) := by
  unfold zord; split
  · simp; omega
  · split
    · simp; omega
    · simp; omega
theorem zord_bd (x y : Int) : -1 ≤ zord x y ∧ zord x y ≤ 1 := by unfold zord; split <;> (try split) <;> omega
theorem zord_tr {x y z : Int} (h1 : zord x y ≤ 0) (h2 : zord y z ≤ 0) : zord x z = if zord x y + zord y z < 0 then -1 else 0 := by
  unfold zord at *
  repeat' split at h1
  all_goals repeat' split at h2
  all_goals repeat' split
  all_goals omega
theorem zord_add (x y z : Int) : zord (x + z) (y + z) = zord x y := by unfold zord; split <;> split <;> (try split) <;> (try split) <;> omega
theorem fitE_cases (z : Int) : (fits z ∧ fitE z = (z, 0)) ∨ (¬ fits z ∧ fitE z = (0, 4)) := by
  by_cases h : fits z
  · exact .inl ⟨h, fitE_yes h⟩
  · exact .inr ⟨h, fitE_no h⟩
theorem fits_neg {z : Int} (h : fits z) : fits (-z) := by unfold fits at *; rwa [Int.natAbs_neg]

set_option maxHeartbeats 2000000 in
set_option maxRecDepth 100000 in
theorem order_ok {x y z : Int} {bx by_ bz : Bool} {nx ny nz : Nat} {X Y Z : List Nat} {A B C : Option Addr} {ca cb cc : Nat} {w : World} (HE : Hid (ExOk w)) (Ix : Iz x bx nx X) (Iy : Iz y by_ ny Y) (Iz_ : Iz z bz nz Z) (ma : Mg w A ca X) (mb : Mg w B cb Y) (mc : Mg w C cc Z) (fx : fits x) (fy : fits y) (fz : fits z) :
    Calls Tryd.prog 11 #[.agg #[.bool bx, .slice A nx ca], .agg #[.bool by_, .slice B ny cb], .agg #[.bool bz, .slice C nz cc]] w (RetB w true) := by
  obtain ⟨t1, ht1⟩ : ∃ t, zord x y = t := ⟨_, rfl⟩
  obtain ⟨t2, ht2⟩ : ∃ t, zord y z = t := ⟨_, rfl⟩
  obtain ⟨t3, ht3⟩ : ∃ t, zord x z = t := ⟨_, rfl⟩
  have d1 := zord_bd x y
  have d2 := zord_bd y z
  have ht : t1 ≤ 0 → t2 ≤ 0 → t3 = if t1 + t2 < 0 then -1 else 0 := by subst ht1; subst ht2; subst ht3; exact zord_tr
  rw [ht1] at d1
  rw [ht2] at d2
  obtain ⟨d1a, d1b⟩ := d1
  obtain ⟨d2a, d2b⟩ := d2
  obtain ⟨b1, n1, X1, I1⟩ := iz (-x)
  obtain ⟨b2, n2, X2, I2⟩ := iz (-y)
  have HVa := hid fun (w1 : World) (m : Mg w1 A ca X) => Valid_g (w := w1) Ix m fx
  have HVb := hid fun (w1 : World) (m : Mg w1 B cb Y) => Valid_g (w := w1) Iy m fy
  have HVc := hid fun (w1 : World) (m : Mg w1 C cc Z) => Valid_g (w := w1) Iz_ m fz
  have HC1 := hid fun (w1 : World) (m : Mg w1 A ca X) (m' : Mg w1 B cb Y) => Cmp_g (w := w1) Ix Iy m m' fx fy t1 ht1
  have HC2 := hid fun (w1 : World) (m : Mg w1 B cb Y) (m' : Mg w1 C cc Z) => Cmp_g (w := w1) Iy Iz_ m m' fy fz t2 ht2
  have HC3 := hid fun (w1 : World) (m : Mg w1 B cb Y) (m' : Mg w1 A ca X) => Cmp_g (w := w1) Iy Ix m m' fy fx (-t1) (by rw [← ht1]; exact zord_flip _ _)
  have HC4 := hid fun (w1 : World) (m : Mg w1 A ca X) (m' : Mg w1 C cc Z) => Cmp_g (w := w1) Ix Iz_ m m' fx fz t3 ht3
  have HS := hid fun (w1 : World) (m : Mg w1 A ca X) (m' : Mg w1 B cb Y) => Same_g (w := w1) Ix Iy m m' (t1 == 0) (by rw [← ht1]; exact zord_zero _ _)
  have HN1 := hid fun (w1 : World) (m : Mg w1 A ca X) => Neg_g (w := w1) Ix I1.out m fx rfl
  have HN2 := hid fun (w1 : World) (m : Mg w1 B cb Y) => Neg_g (w := w1) Iy I2.out m fy rfl
  have HC5 := hid fun (w1 : World) (A' B' : Option Addr) (c' d' : Nat) (m : Mg w1 B' d' X2) (m' : Mg w1 A' c' X1) => Cmp_g (w := w1) I2.out I1.out m m' (fits_neg fy) (fits_neg fx) t1 (by rw [← ht1]; exact zord_neg _ _)
  have HT := hid ht
  obtain ⟨z1, e1, hp1⟩ : ∃ z1 e1, fitE (x + z) = (z1, e1) := ⟨_, _, rfl⟩
  obtain ⟨z2, e2, hp2⟩ : ∃ z2 e2, fitE (y + z) = (z2, e2) := ⟨_, _, rfl⟩
  obtain ⟨bS, nS, S, IS⟩ := iz z1
  obtain ⟨bT, nT, T, IT⟩ := iz z2
  have HA1 := hid fun (w1 : World) (m : Mg w1 A ca X) (m' : Mg w1 C cc Z) => Add_g (w := w1) Ix Iz_ IS.out hp1 m m' fx fz rfl
  have HA2 := hid fun (w1 : World) (m : Mg w1 B cb Y) (m' : Mg w1 C cc Z) => Add_g (w := w1) Iy Iz_ IT.out hp2 m m' fy fz rfl
  have HP1 := hid hp1
  have HP2 := hid hp2
  clear hp1 hp2
  clear ht
  have g1 : decide (t1 < -1) = false := by simp; omega
  have g2 : decide (1 < t1) = false := by simp; omega
  have HB : Below w.heap.size w w := Below.refl _ _
  have JX := hid (And.intro ht1 (And.intro ht2 ht3))
  clear ht1 ht2 ht3
  go_enter Tryd.func11, Tryd.ntmps11
  go_wp2_with fail
  refine (HVa.out _ (ma.below (by repeat' (first | with_reducible assumption | exact Below.refl _ _ | (refine Below.alloc ?_ (by first | omega | (simp only [World.size_alloc, World.size_setCell, World.size_drew]; done) | (simp only [World.size_alloc, World.size_setCell, World.size_drew]; omega)) _) | (refine Below.drew ?_) | (refine below_drewN ?_ _) | (refine Below.setCell ?_ (by first | omega | (simp only [World.size_alloc, World.size_setCell, World.size_drew]; done) | (simp only [World.size_alloc, World.size_setCell, World.size_drew]; omega)) _))))).mono ?_
  rintro e w1 ⟨rfl, h1⟩
  have hv_ : Below w.heap.size w w1 := Below.trans (b := _) (by repeat (first | assumption | exact Below.refl _ _ | refine Below.alloc ?_ (by simp; try omega) _ | refine Below.drew ?_ | refine below_drewN ?_ _)) (h1.mono (by simp; try omega))
  replace ma := ma.below hv_
  replace mb := mb.below hv_
  replace mc := mc.below hv_
  replace HB := HB.trans (hv_.mono HB.size)
  clear hv_
  obtain ⟨f1, f2, f3, f4, f5, f6⟩ := new3 h1
  go_wp2_with fail
  refine (HVb.out _ mb).mono ?_
  rintro e w2 ⟨rfl, h2⟩
  have hv_ : Below w1.heap.size w1 w2 := Below.trans (b := _) (by repeat (first | assumption | exact Below.refl _ _ | refine Below.alloc ?_ (by simp; try omega) _ | refine Below.drew ?_ | refine below_drewN ?_ _)) (h2.mono (by simp; try omega))
  replace ma := ma.below hv_
  replace mb := mb.below hv_
  replace mc := mc.below hv_
  replace f1 := keep_cell hv_ f1
  replace f2 := keep_cell hv_ f2
  replace f3 := keep_cell hv_ f3
  replace f4 := keep_cell hv_ f4
  replace f5 := keep_cell hv_ f5
  replace f6 := keep_cell hv_ f6
  have lt_f1 := cell_lt f1
  have lt_f2 := cell_lt f2
  have lt_f3 := cell_lt f3
  have lt_f4 := cell_lt f4
  have lt_f5 := cell_lt f5
  have lt_f6 := cell_lt f6
  replace HB := HB.trans (hv_.mono HB.size)
  clear hv_
  go_wp2_with fail
  refine (HVc.out _ mc).mono ?_
  rintro e w3 ⟨rfl, h3⟩
  have hv_ : Below w2.heap.size w2 w3 := Below.trans (b := _) (by repeat (first | assumption | exact Below.refl _ _ | refine Below.alloc ?_ (by simp; try omega) _ | refine Below.drew ?_ | refine below_drewN ?_ _)) (h3.mono (by simp; try omega))
  replace ma := ma.below hv_
  replace mb := mb.below hv_
  replace mc := mc.below hv_
  replace f1 := keep_cell hv_ f1
  replace f2 := keep_cell hv_ f2
  replace f3 := keep_cell hv_ f3
  replace f4 := keep_cell hv_ f4
  replace f5 := keep_cell hv_ f5
  replace f6 := keep_cell hv_ f6
  have lt_f1 := cell_lt f1
  have lt_f2 := cell_lt f2
  have lt_f3 := cell_lt f3
  have lt_f4 := cell_lt f4
  have lt_f5 := cell_lt f5
  have lt_f6 := cell_lt f6
  replace HB := HB.trans (hv_.mono HB.size)
  clear hv_
  go_wp2_with fail
  refine (HC1.out _ ma mb).mono ?_
  rintro e w4 ⟨rfl, h4⟩
  have hv_ : Below w3.heap.size w3 w4 := Below.trans (b := _) (by repeat (first | assumption | exact Below.refl _ _ | refine Below.alloc ?_ (by simp; try omega) _ | refine Below.drew ?_ | refine below_drewN ?_ _)) (h4.mono (by simp; try omega))
  replace ma := ma.below hv_
  replace mb := mb.below hv_
  replace mc := mc.below hv_
  replace f1 := keep_cell hv_ f1
  replace f2 := keep_cell hv_ f2
  replace f3 := keep_cell hv_ f3
  replace f4 := keep_cell hv_ f4
  replace f5 := keep_cell hv_ f5
  replace f6 := keep_cell hv_ f6
  have lt_f1 := cell_lt f1
  have lt_f2 := cell_lt f2
  have lt_f3 := cell_lt f3
  have lt_f4 := cell_lt f4
  have lt_f5 := cell_lt f5
  have lt_f6 := cell_lt f6
  replace HB := HB.trans (hv_.mono HB.size)
  clear hv_
  go_wp2_with fail
  refine (HC2.out _ mb mc).mono ?_
  rintro e w5 ⟨rfl, h5⟩
  have hv_ : Below w4.heap.size w4 w5 := Below.trans (b := _) (by repeat (first | assumption | exact Below.refl _ _ | refine Below.alloc ?_ (by simp; try omega) _ | refine Below.drew ?_ | refine below_drewN ?_ _)) (h5.mono (by simp; try omega))
  replace ma := ma.below hv_
  replace mb := mb.below hv_
  replace mc := mc.below hv_
  replace f1 := keep_cell hv_ f1
  replace f2 := keep_cell hv_ f2
  replace f3 := keep_cell hv_ f3
  replace f4 := keep_cell hv_ f4
  replace f5 := keep_cell hv_ f5
  replace f6 := keep_cell hv_ f6
  have lt_f1 := cell_lt f1
  have lt_f2 := cell_lt f2
  have lt_f3 := cell_lt f3
  have lt_f4 := cell_lt f4
  have lt_f5 := cell_lt f5
  have lt_f6 := cell_lt f6
  replace HB := HB.trans (hv_.mono HB.size)
  clear hv_
  go_wp2_with fail
  have gw : IntKind.i64.wrap (-t1) = -t1 := IntWalk.i64_in _ (by omega)
  go_region_held3 (fun w' => w'.cell? ⟨w.heap.size, 0, none⟩ = some (.bool bx) ∧ w'.cell? ⟨w.heap.size, 1, none⟩ = some (.slice A nx ca) ∧ w'.cell? ⟨w.heap.size + 1, 0, none⟩ = some (.bool by_) ∧ w'.cell? ⟨w.heap.size + 1, 1, none⟩ = some (.slice B ny cb)) (first | ((try dsimp only); repeat' (first | with_reducible assumption | apply And.intro | (with_reducible refine keep_cell (W := w5) ?_ ?_) | exact (Below.refl _ _).drew | fail))) (first | (go_at_call 44; (with_reducible refine (HC3.out _ (mb.below (by repeat' (first | with_reducible assumption | exact Below.refl _ _ | (refine Below.alloc ?_ (by first | omega | (simp only [World.size_alloc, World.size_setCell, World.size_drew]; done) | (simp only [World.size_alloc, World.size_setCell, World.size_drew]; omega)) _) | (refine Below.drew ?_) | (refine below_drewN ?_ _) | (refine Below.setCell ?_ (by first | omega | (simp only [World.size_alloc, World.size_setCell, World.size_drew]; done) | (simp only [World.size_alloc, World.size_setCell, World.size_drew]; omega)) _)))) (ma.below (by repeat' (first | with_reducible assumption | exact Below.refl _ _ | (refine Below.alloc ?_ (by first | omega | (simp only [World.size_alloc, World.size_setCell, World.size_drew]; done) | (simp only [World.size_alloc, World.size_setCell, World.size_drew]; omega)) _) | (refine Below.drew ?_) | (refine below_drewN ?_ _) | (refine Below.setCell ?_ (by first | omega | (simp only [World.size_alloc, World.size_setCell, World.size_drew]; done) | (simp only [World.size_alloc, World.size_setCell, World.size_drew]; omega)) _))))).mono ?_); rintro e w6 ⟨rfl, hq_⟩; have qw6 : Below w5.heap.size w5 w6 := bel_step (by repeat' (first | with_reducible assumption | exact Below.refl _ _ | (refine Below.alloc ?_ (by first | omega | (simp only [World.size_alloc, World.size_setCell, World.size_drew]; done) | (simp only [World.size_alloc, World.size_setCell, World.size_drew]; omega)) _) | (refine Below.drew ?_) | (refine below_drewN ?_ _) | (refine Below.setCell ?_ (by first | omega | (simp only [World.size_alloc, World.size_setCell, World.size_drew]; done) | (simp only [World.size_alloc, World.size_setCell, World.size_drew]; omega)) _))) hq_) | (go_at_call 19; (with_reducible refine (HS.out _ (ma.below (by repeat' (first | with_reducible assumption | exact Below.refl _ _ | (refine Below.alloc ?_ (by first | omega | (simp only [World.size_alloc, World.size_setCell, World.size_drew]; done) | (simp only [World.size_alloc, World.size_setCell, World.size_drew]; omega)) _) | (refine Below.drew ?_) | (refine below_drewN ?_ _) | (refine Below.setCell ?_ (by first | omega | (simp only [World.size_alloc, World.size_setCell, World.size_drew]; done) | (simp only [World.size_alloc, World.size_setCell, World.size_drew]; omega)) _)))) (mb.below (by repeat' (first | with_reducible assumption | exact Below.refl _ _ | (refine Below.alloc ?_ (by first | omega | (simp only [World.size_alloc, World.size_setCell, World.size_drew]; done) | (simp only [World.size_alloc, World.size_setCell, World.size_drew]; omega)) _) | (refine Below.drew ?_) | (refine below_drewN ?_ _) | (refine Below.setCell ?_ (by first | omega | (simp only [World.size_alloc, World.size_setCell, World.size_drew]; done) | (simp only [World.size_alloc, World.size_setCell, World.size_drew]; omega)) _))))).mono ?_); rintro e w7 ⟨rfl, hq_⟩; have qw7 : Below w5.heap.size w5 w7 := bel_step (by repeat' (first | with_reducible assumption | exact Below.refl _ _ | (refine Below.alloc ?_ (by first | omega | (simp only [World.size_alloc, World.size_setCell, World.size_drew]; done) | (simp only [World.size_alloc, World.size_setCell, World.size_drew]; omega)) _) | (refine Below.drew ?_) | (refine below_drewN ?_ _) | (refine Below.setCell ?_ (by first | omega | (simp only [World.size_alloc, World.size_setCell, World.size_drew]; done) | (simp only [World.size_alloc, World.size_setCell, World.size_drew]; omega)) _))) hq_) | (go_at_call 43; (with_reducible refine (HN2.out _ (mb.below (by repeat' (first | with_reducible assumption | exact Below.refl _ _ | (refine Below.alloc ?_ (by first | omega | (simp only [World.size_alloc, World.size_setCell, World.size_drew]; done) | (simp only [World.size_alloc, World.size_setCell, World.size_drew]; omega)) _) | (refine Below.drew ?_) | (refine below_drewN ?_ _) | (refine Below.setCell ?_ (by first | omega | (simp only [World.size_alloc, World.size_setCell, World.size_drew]; done) | (simp only [World.size_alloc, World.size_setCell, World.size_drew]; omega)) _))))).mono ?_); rintro e w8 ⟨Rn, cn, rfl, mn, hq_⟩; have qw8 : Below w5.heap.size w5 w8 := bel_step (by repeat' (first | with_reducible assumption | exact Below.refl _ _ | (refine Below.alloc ?_ (by first | omega | (simp only [World.size_alloc, World.size_setCell, World.size_drew]; done) | (simp only [World.size_alloc, World.size_setCell, World.size_drew]; omega)) _) | (refine Below.drew ?_) | (refine below_drewN ?_ _) | (refine Below.setCell ?_ (by first | omega | (simp only [World.size_alloc, World.size_setCell, World.size_drew]; done) | (simp only [World.size_alloc, World.size_setCell, World.size_drew]; omega)) _))) hq_) | (go_at_call 43; (with_reducible refine (HN1.out _ (ma.below (by repeat' (first | with_reducible assumption | exact Below.refl _ _ | (refine Below.alloc ?_ (by first | omega | (simp only [World.size_alloc, World.size_setCell, World.size_drew]; done) | (simp only [World.size_alloc, World.size_setCell, World.size_drew]; omega)) _) | (refine Below.drew ?_) | (refine below_drewN ?_ _) | (refine Below.setCell ?_ (by first | omega | (simp only [World.size_alloc, World.size_setCell, World.size_drew]; done) | (simp only [World.size_alloc, World.size_setCell, World.size_drew]; omega)) _))))).mono ?_); rintro e w9 ⟨Rp, cp, rfl, mp, hq_⟩; have qw9 : Below w5.heap.size w5 w9 := bel_step (by repeat' (first | with_reducible assumption | exact Below.refl _ _ | (refine Below.alloc ?_ (by first | omega | (simp only [World.size_alloc, World.size_setCell, World.size_drew]; done) | (simp only [World.size_alloc, World.size_setCell, World.size_drew]; omega)) _) | (refine Below.drew ?_) | (refine below_drewN ?_ _) | (refine Below.setCell ?_ (by first | omega | (simp only [World.size_alloc, World.size_setCell, World.size_drew]; done) | (simp only [World.size_alloc, World.size_setCell, World.size_drew]; omega)) _))) hq_) | (go_at_call 44; (with_reducible refine (HC5.out _ _ _ _ _ (mn.below (by repeat' (first | with_reducible assumption | exact Below.refl _ _ | (refine Below.alloc ?_ (by first | omega | (simp only [World.size_alloc, World.size_setCell, World.size_drew]; done) | (simp only [World.size_alloc, World.size_setCell, World.size_drew]; omega)) _) | (refine Below.drew ?_) | (refine below_drewN ?_ _) | (refine Below.setCell ?_ (by first | omega | (simp only [World.size_alloc, World.size_setCell, World.size_drew]; done) | (simp only [World.size_alloc, World.size_setCell, World.size_drew]; omega)) _)))) mp).mono ?_); rintro e w10 ⟨rfl, hq_⟩; have qw10 : Below w5.heap.size w5 w10 := bel_step (by repeat' (first | with_reducible assumption | exact Below.refl _ _ | (refine Below.alloc ?_ (by first | omega | (simp only [World.size_alloc, World.size_setCell, World.size_drew]; done) | (simp only [World.size_alloc, World.size_setCell, World.size_drew]; omega)) _) | (refine Below.drew ?_) | (refine below_drewN ?_ _) | (refine Below.setCell ?_ (by first | omega | (simp only [World.size_alloc, World.size_setCell, World.size_drew]; done) | (simp only [World.size_alloc, World.size_setCell, World.size_drew]; omega)) _))) hq_))
  have ma := ma.below qw10
  have mb := mb.below qw10
  have mc := mc.below qw10
  have f1 := keep_cell qw10 f1
  have f2 := keep_cell qw10 f2
  have f3 := keep_cell qw10 f3
  have f4 := keep_cell qw10 f4
  have f5 := keep_cell qw10 f5
  have f6 := keep_cell qw10 f6
  have HB := HB.trans (qw10.mono HB.size)
  clear qw6 qw7 qw8 qw9 qw10 gw
  go_upto_region 7 with fail
  go_cut [101] (fun s wx => s = .bool false ∧ Below w10.heap.size w10 wx)
  case first =>
    by_cases p1 : t1 ≤ 0
    · by_cases p2 : t2 ≤ 0
      · have h3 := HT.out p1 p2
        by_cases p3 : t1 + t2 < 0
        · rw [if_pos p3] at h3
          subst h3
          go_wp2_with fail
          refine (HC4.out _ ma mc).mono ?_
          rintro e w11 ⟨rfl, h11⟩
          have hv_ : Below w10.heap.size w10 w11 := Below.trans (b := _) (by repeat (first | assumption | exact Below.refl _ _ | refine Below.alloc ?_ (by simp; try omega) _ | refine Below.drew ?_ | refine below_drewN ?_ _)) (h11.mono (by simp; try omega))
          replace ma := ma.below hv_
          replace mb := mb.below hv_
          replace mc := mc.below hv_
          replace f1 := keep_cell hv_ f1
          replace f2 := keep_cell hv_ f2
          replace f3 := keep_cell hv_ f3
          replace f4 := keep_cell hv_ f4
          replace f5 := keep_cell hv_ f5
          replace f6 := keep_cell hv_ f6
          have lt_f1 := cell_lt f1
          have lt_f2 := cell_lt f2
          have lt_f3 := cell_lt f3
          have lt_f4 := cell_lt f4
          have lt_f5 := cell_lt f5
          have lt_f6 := cell_lt f6
          replace HB := HB.trans (hv_.mono HB.size)
          clear hv_
          go_wp2_with fail
          refine (HC4.out _ ma mc).mono ?_
          rintro e w12 ⟨rfl, h12⟩
          go_wp2_with fail
          go_meet
          exact ⟨rfl, h11.trans (h12.mono h11.size)⟩
        · rw [if_neg p3] at h3
          subst h3
          go_wp2_with fail
          refine (HC4.out _ ma mc).mono ?_
          rintro e w11 ⟨rfl, h11⟩
          go_wp2_with fail
          go_meet
          exact ⟨rfl, h11⟩
      · go_wp2_with fail
        go_meet
        exact ⟨rfl, Below.refl _ _⟩
    · go_wp2_with fail
      go_meet
      exact ⟨rfl, Below.refl _ _⟩
  case rest =>
    obtain ⟨rfl, hx⟩ := hcut
    have ma := ma.below hx
    have mb := mb.below hx
    have mc := mc.below hx
    have f1 := keep_cell hx f1
    have f2 := keep_cell hx f2
    have f3 := keep_cell hx f3
    have f4 := keep_cell hx f4
    have f5 := keep_cell hx f5
    have f6 := keep_cell hx f6
    have HB := HB.trans (hx.mono HB.size)
    go_wp2_with fail
    refine (HA1.out _ ma mc).mono ?_
    rintro e w11 ⟨Rs, cs, rfl, ms, h11⟩
    have hv_ : Below wc.heap.size wc w11 := Below.trans (b := _) (by repeat (first | assumption | exact Below.refl _ _ | refine Below.alloc ?_ (by simp; try omega) _ | refine Below.drew ?_ | refine below_drewN ?_ _)) (h11.mono (by simp; try omega))
    replace mb := mb.below hv_
    replace mc := mc.below hv_
    replace f3 := keep_cell hv_ f3
    replace f4 := keep_cell hv_ f4
    replace f5 := keep_cell hv_ f5
    replace f6 := keep_cell hv_ f6
    have lt_f3 := cell_lt f3
    have lt_f4 := cell_lt f4
    have lt_f5 := cell_lt f5
    have lt_f6 := cell_lt f6
    replace HB := HB.trans (hv_.mono HB.size)
    clear hv_
    have lt_f3 := cell_lt f3
    have lt_f5 := cell_lt f5
    go_wp2_with fail
    refine (HA2.out _ (mb.below (by repeat' (first | with_reducible assumption | exact Below.refl _ _ | (refine Below.alloc ?_ (by first | omega | (simp only [World.size_alloc, World.size_setCell, World.size_drew]; done) | (simp only [World.size_alloc, World.size_setCell, World.size_drew]; omega)) _) | (refine Below.drew ?_) | (refine below_drewN ?_ _) | (refine Below.setCell ?_ (by first | omega | (simp only [World.size_alloc, World.size_setCell, World.size_drew]; done) | (simp only [World.size_alloc, World.size_setCell, World.size_drew]; omega)) _)))) (mc.below (by repeat' (first | with_reducible assumption | exact Below.refl _ _ | (refine Below.alloc ?_ (by first | omega | (simp only [World.size_alloc, World.size_setCell, World.size_drew]; done) | (simp only [World.size_alloc, World.size_setCell, World.size_drew]; omega)) _) | (refine Below.drew ?_) | (refine below_drewN ?_ _) | (refine Below.setCell ?_ (by first | omega | (simp only [World.size_alloc, World.size_setCell, World.size_drew]; done) | (simp only [World.size_alloc, World.size_setCell, World.size_drew]; omega)) _))))).mono ?_
    rintro e w12 ⟨Rt, ct, rfl, mt, h12⟩
    have hv_ : Below w11.heap.size w11 w12 := Below.trans (b := _) (by repeat (first | assumption | exact Below.refl _ _ | refine Below.alloc ?_ (by simp; try omega) _ | refine Below.drew ?_ | refine below_drewN ?_ _)) (h12.mono (by simp; try omega))
    replace ms := ms.below hv_
    replace HB := HB.trans (hv_.mono HB.size)
    clear hv_
    obtain ⟨s0, s1⟩ := new1 h12
    have lt_s0 := cell_lt s0
    rcases fitE_cases (x + z) with ⟨hf1, he1⟩ | ⟨_, he1⟩
    · have hp := HP1.out
      rw [he1, Prod.mk.injEq] at hp
      obtain ⟨rfl, rfl⟩ := hp
      rcases fitE_cases (y + z) with ⟨hf2, he2⟩ | ⟨_, he2⟩
      · have hp := HP2.out
        rw [he2, Prod.mk.injEq] at hp
        obtain ⟨rfl, rfl⟩ := hp
        have HC6 := hid fun (w1 : World) (m : Mg w1 Rs cs S) (m' : Mg w1 Rt ct T) => Cmp_g (w := w1) IS.out IT.out m m' hf1 hf2 t1 (by rw [zord_add]; exact JX.out.1)
        clear he1 he2 hf1 hf2 HP1 HP2
        go_wp2_with fail
        refine (HC6.out _ (ms.below (by repeat' (first | with_reducible assumption | exact Below.refl _ _ | (refine Below.alloc ?_ (by first | omega | (simp only [World.size_alloc, World.size_setCell, World.size_drew]; done) | (simp only [World.size_alloc, World.size_setCell, World.size_drew]; omega)) _) | (refine Below.drew ?_) | (refine below_drewN ?_ _) | (refine Below.setCell ?_ (by first | omega | (simp only [World.size_alloc, World.size_setCell, World.size_drew]; done) | (simp only [World.size_alloc, World.size_setCell, World.size_drew]; omega)) _)))) (mt.below (by repeat' (first | with_reducible assumption | exact Below.refl _ _ | (refine Below.alloc ?_ (by first | omega | (simp only [World.size_alloc, World.size_setCell, World.size_drew]; done) | (simp only [World.size_alloc, World.size_setCell, World.size_drew]; omega)) _) | (refine Below.drew ?_) | (refine below_drewN ?_ _) | (refine Below.setCell ?_ (by first | omega | (simp only [World.size_alloc, World.size_setCell, World.size_drew]; done) | (simp only [World.size_alloc, World.size_setCell, World.size_drew]; omega)) _))))).mono ?_
        rintro e w13 ⟨rfl, h13⟩
        have hy : Below w12.heap.size w12 w13 := bel_step (by repeat' (first | with_reducible assumption | exact Below.refl _ _ | (refine Below.alloc ?_ (by first | omega | (simp only [World.size_alloc, World.size_setCell, World.size_drew]; done) | (simp only [World.size_alloc, World.size_setCell, World.size_drew]; omega)) _) | (refine Below.drew ?_) | (refine below_drewN ?_ _) | (refine Below.setCell ?_ (by first | omega | (simp only [World.size_alloc, World.size_setCell, World.size_drew]; done) | (simp only [World.size_alloc, World.size_setCell, World.size_drew]; omega)) _))) h13
        have HB := HB.trans (hy.mono HB.size)
        go_wp2_with fail
        refine (HE.out _ HB).mono ?_
        rintro e w14 ⟨rfl, h14⟩
        go_wp2_with fail
        go_ret
        exact ⟨rfl, HB.trans (h14.mono HB.size)⟩
      · have hp := HP2.out
        rw [he2, Prod.mk.injEq] at hp
        obtain ⟨_, rfl⟩ := hp
        clear he1 he2 HP1 HP2 hf1
        go_wp2_with fail
        refine (HE.out _ (HB.trans (Below.mono (by repeat' (first | with_reducible assumption | exact Below.refl _ _ | (refine Below.alloc ?_ (by first | omega | (simp only [World.size_alloc, World.size_setCell, World.size_drew]; done) | (simp only [World.size_alloc, World.size_setCell, World.size_drew]; omega)) _) | (refine Below.drew ?_) | (refine below_drewN ?_ _) | (refine Below.setCell ?_ (by first | omega | (simp only [World.size_alloc, World.size_setCell, World.size_drew]; done) | (simp only [World.size_alloc, World.size_setCell, World.size_drew]; omega)) _))) HB.size))).mono ?_
        rintro e w14 ⟨rfl, h14⟩
        go_wp2_with fail
        go_ret
        exact ⟨rfl, bel_step (HB.trans (Below.mono (by repeat' (first | with_reducible assumption | exact Below.refl _ _ | (refine Below.alloc ?_ (by first | omega | (simp only [World.size_alloc, World.size_setCell, World.size_drew]; done) | (simp only [World.size_alloc, World.size_setCell, World.size_drew]; omega)) _) | (refine Below.drew ?_) | (refine below_drewN ?_ _) | (refine Below.setCell ?_ (by first | omega | (simp only [World.size_alloc, World.size_setCell, World.size_drew]; done) | (simp only [World.size_alloc, World.size_setCell, World.size_drew]; omega)) _))) HB.size)) h14⟩
    · have hp := HP1.out
      rw [he1, Prod.mk.injEq] at hp
      obtain ⟨_, rfl⟩ := hp
      clear he1 HP1 HP2
      go_wp2_with fail
      refine (HE.out _ (HB.trans (Below.mono (by repeat' (first | with_reducible assumption | exact Below.refl _ _ | (refine Below.alloc ?_ (by first | omega | (simp only [World.size_alloc, World.size_setCell, World.size_drew]; done) | (simp only [World.size_alloc, World.size_setCell, World.size_drew]; omega)) _) | (refine Below.drew ?_) | (refine below_drewN ?_ _) | (refine Below.setCell ?_ (by first | omega | (simp only [World.size_alloc, World.size_setCell, World.size_drew]; done) | (simp only [World.size_alloc, World.size_setCell, World.size_drew]; omega)) _))) HB.size))).mono ?_
      rintro e w14 ⟨rfl, h14⟩
      go_wp2_with fail
      go_ret
      exact ⟨rfl, bel_step (HB.trans (Below.mono (by repeat' (first | with_reducible assumption | exact Below.refl _ _ | (refine Below.alloc ?_ (by first | omega | (simp only [World.size_alloc, World.size_setCell, World.size_drew]; done) | (simp only [World.size_alloc, World.size_setCell, World.size_drew]; omega)) _) | (refine Below.drew ?_) | (refine below_drewN ?_ _) | (refine Below.setCell ?_ (by first | omega | (simp only [World.size_alloc, World.size_setCell, World.size_drew]; done) | (simp only [World.size_alloc, World.size_setCell, World.size_drew]; omega)) _))) HB.size)) h14⟩
end Go.Proofs.YtkfpcohdbbhmaaaDoor
