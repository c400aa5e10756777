/- The law BigintEuclid: its walk. Conditions: none. -/
import Derived.Test.YtkfpcohdbbhmaaaDoorLe
import Derived.Test.YtkfpcohdbbhmaaaDoorEx
import Derived.Deep.RegionWith
import Derived.Deep.Light
import Derived.Deep.DeepCutAuto
import Derived.Test.YtkfpcohdbbhmaaaDoorExP
namespace Go.Proofs.YtkfpcohdbbhmaaaDoor
set_option linter.unusedVariables false
set_option linter.unusedSimpArgs false
open Go.RowKit Big

/-! ### plain facts on quotients -/
theorem sg_t (n : Nat) : sg true n = -(n : Int) := rfl
theorem sg_f (n : Nat) : sg false n = (n : Int) := rfl
theorem dm_eq (x y : Int) (hy : y ≠ 0) : dmQ x y * y + dmR x y = x := by
  have h1 := Nat.div_add_mod x.natAbs y.natAbs
  have h2 := Nat.mod_lt x.natAbs (show 0 < y.natAbs by omega)
  obtain ⟨q, hq⟩ : ∃ q, x.natAbs / y.natAbs = q := ⟨_, rfl⟩
  obtain ⟨r, hr⟩ : ∃ r, x.natAbs % y.natAbs = r := ⟨_, rfl⟩
  obtain ⟨m, hm⟩ : ∃ m, y.natAbs = m := ⟨_, rfl⟩
  have h3 : (m : Int) * (q : Int) + (r : Int) = (x.natAbs : Int) := by rw [← h1, hq, hr, hm]; simp
  have h4 : ((q : Int) + 1) * (m : Int) = (m : Int) * (q : Int) + m := by rw [Int.add_mul, Int.one_mul, Int.mul_comm]
  have h5 : (q : Int) * (m : Int) = (m : Int) * (q : Int) := Int.mul_comm _ _
  rw [hr, hm] at h2
  have e2 : ((m - r : Nat) : Int) = (m : Int) - r := by omega
  have e3 : ((q + 1 : Nat) : Int) = (q : Int) + 1 := by simp
  by_cases hp : dmP x y
  · have eq : dmQ x y = sg true (q + 1) := by unfold dmQ; rw [if_pos hp, hq]
    have er : dmR x y = sg (decide (y < 0)) (m - r) := by unfold dmR; rw [if_pos hp, hr, hm]
    rw [eq, er, sg_t, e3]
    obtain ⟨hs, _⟩ := hp
    by_cases h0 : y < 0
    · have hd : decide (y < 0) = true := by simpa using h0
      have hx : ¬ x < 0 := by
        intro hx
        apply hs
        rw [hd]
        simpa using hx
      have ey : y = -(m : Int) := by omega
      rw [hd, sg_t, e2, ey, Int.neg_mul_neg, h4]
      omega
    · have hd : decide (y < 0) = false := by simpa using h0
      have hx : x < 0 := by
        rcases Decidable.em (x < 0) with h | h
        · exact h
        · exfalso
          apply hs
          rw [hd]
          simpa using h
      have ey : y = (m : Int) := by omega
      rw [hd, sg_f, e2, ey, Int.neg_mul, h4]
      omega
  · have eq : dmQ x y = sg (decide (x < 0) != decide (y < 0)) q := by unfold dmQ; rw [if_neg hp, hq]
    have er : dmR x y = sg (decide (y < 0)) r := by unfold dmR; rw [if_neg hp, hr]
    rw [eq, er]
    have hz : decide (x < 0) = decide (y < 0) ∨ r = 0 := by
      rcases Decidable.em (decide (x < 0) = decide (y < 0)) with h | h
      · exact .inl h
      · rcases Decidable.em (r = 0) with h' | h'
        · exact .inr h'
        · exact absurd ⟨h, by rw [hr]; exact h'⟩ hp
    by_cases h0 : y < 0
    · have hd : decide (y < 0) = true := by simpa using h0
      have ey : y = -(m : Int) := by omega
      by_cases hx : x < 0
      · have hdx : decide (x < 0) = true := by simpa using hx
        rw [hd, hdx, show (true != true) = false from rfl, sg_f, sg_t, ey, Int.mul_neg, h5]
        omega
      · have hdx : decide (x < 0) = false := by simpa using hx
        have hr0 : r = 0 := by
          rcases hz with h | h
          · rw [hd, hdx] at h; cases h
          · exact h
        rw [hd, hdx, show (false != true) = true from rfl, sg_t, sg_t, ey, Int.neg_mul_neg, h5]
        omega
    · have hd : decide (y < 0) = false := by simpa using h0
      have ey : y = (m : Int) := by omega
      by_cases hx : x < 0
      · have hdx : decide (x < 0) = true := by simpa using hx
        have hr0 : r = 0 := by
          rcases hz with h | h
          · rw [hd, hdx] at h; cases h
          · exact h
        rw [hd, hdx, show (true != false) = true from rfl, sg_t, sg_f, ey, Int.neg_mul, h5]
        omega
      · have hdx : decide (x < 0) = false := by simpa using hx
        rw [hd, hdx, show (false != false) = false from rfl, sg_f, sg_f, ey, h5]
        omega
theorem dm_zero (x y : Int) (h : y.natAbs ∣ x.natAbs) : dmR x y = 0 := by
  have h0 := Nat.mod_eq_zero_of_dvd h
  have hp : ¬ dmP x y := fun hp => hp.2 h0
  unfold dmR
  rw [if_neg hp, h0, sg_zero]
theorem dm_abs (x y : Int) (hy : y ≠ 0) : (dmR x y).natAbs < y.natAbs := by
  have h2 := Nat.mod_lt x.natAbs (show 0 < y.natAbs by omega)
  by_cases hp : dmP x y
  · have e : dmR x y = sg (decide (y < 0)) (y.natAbs - x.natAbs % y.natAbs) := by unfold dmR; rw [if_pos hp]
    have := hp.2
    rw [e, natAbs_sg]
    omega
  · have e : dmR x y = sg (decide (y < 0)) (x.natAbs % y.natAbs) := by unfold dmR; rw [if_neg hp]
    rw [e, natAbs_sg]
    exact h2
theorem dm_sign (x y : Int) (h : dmR x y ≠ 0) : decide (dmR x y < 0) = decide (y < 0) := by
  obtain ⟨k, hk⟩ : ∃ k, dmR x y = sg (decide (y < 0)) k := by
    unfold dmR
    by_cases hp : dmP x y
    · exact ⟨_, if_pos hp⟩
    · exact ⟨_, if_neg hp⟩
  rw [hk] at h ⊢
  apply sg_neg
  rintro rfl
  rw [sg_zero] at h
  exact h rfl
theorem dm_gcd (x y : Int) (hy : y ≠ 0) : Nat.gcd y.natAbs (dmR x y).natAbs = Nat.gcd x.natAbs y.natAbs := by
  have h1 := Nat.mod_lt x.natAbs (show 0 < y.natAbs by omega)
  have e0 : Nat.gcd y.natAbs (x.natAbs % y.natAbs) = Nat.gcd x.natAbs y.natAbs := by
    rw [Nat.gcd_comm y.natAbs, ← Nat.gcd_rec, Nat.gcd_comm]
  by_cases hp : dmP x y
  · have e : dmR x y = sg (decide (y < 0)) (y.natAbs - x.natAbs % y.natAbs) := by unfold dmR; rw [if_pos hp]
    rw [e, natAbs_sg, ← e0]
    rw [Nat.gcd_self_sub_right (by omega)]
  · have e : dmR x y = sg (decide (y < 0)) (x.natAbs % y.natAbs) := by unfold dmR; rw [if_neg hp]
    rw [e, natAbs_sg]
    exact e0
theorem dm_qabs (x y : Int) (hy : y ≠ 0) : (dmQ x y).natAbs ≤ x.natAbs := by
  have h1 := Nat.div_add_mod x.natAbs y.natAbs
  by_cases hp : dmP x y
  · have e : dmQ x y = sg true (x.natAbs / y.natAbs + 1) := by unfold dmQ; rw [if_pos hp]
    rw [e, natAbs_sg]
    have h2 := hp.2
    have h3 := Nat.mod_lt x.natAbs (show 0 < y.natAbs by omega)
    have h4 : 2 ≤ y.natAbs := by
      rcases Nat.lt_or_ge y.natAbs 2 with h | h
      · have : y.natAbs = 1 := by omega
        rw [this, Nat.mod_one] at h2
        exact absurd rfl h2
      · exact h
    have h5 : 2 * (x.natAbs / y.natAbs) ≤ y.natAbs * (x.natAbs / y.natAbs) := Nat.mul_le_mul_right _ h4
    omega
  · have e : dmQ x y = sg (decide (x < 0) != decide (y < 0)) (x.natAbs / y.natAbs) := by unfold dmQ; rw [if_neg hp]
    rw [e, natAbs_sg]
    exact Nat.div_le_self _ _
theorem fits_le {x y : Int} (h : x.natAbs ≤ y.natAbs) (f : fits y) : fits x := by
  unfold fits at *
  exact Nat.le_trans (limbs_mono h) f

theorem DivMod_0 {x : Int} {b b' b2 : Bool} {n n' n2 : Nat} {xs ys zs : List Nat} {A B : Option Addr} {c d : Nat} {w : World} (hx : Iz x b n xs) (hy : Iz 0 b' n' ys) (hz : Iz 0 b2 n2 zs) (ha : Mg w A c xs) (hb : Mg w B d ys) (fx : fits x) :
    Calls Tryd.prog 15 #[.agg #[.bool b, .slice A n c], .agg #[.bool b', .slice B n' d]] w (GDM w b2 n2 zs b2 n2 zs 12) := by
  obtain ⟨rfl, rfl, rfl⟩ := hx
  obtain ⟨rfl, rfl, rfl⟩ := hy
  obtain ⟨rfl, rfl, rfl⟩ := hz
  exact DivMod_zero x A B c d w ha hb fx


def gcdZ (x y : Int) : Int := (Nat.gcd x.natAbs y.natAbs : Nat)
theorem gcdZ_fits {x y : Int} (fx : fits x) (fy : fits y) : fits (gcdZ x y) := by
  unfold gcdZ
  by_cases h : x.natAbs = 0
  · refine fits_le (y := y) ?_ fy
    rw [h, Nat.gcd_zero_left, Int.natAbs_natCast]
    exact Nat.le_refl _
  · refine fits_le (y := x) ?_ fx
    rw [Int.natAbs_natCast]
    exact Nat.gcd_le_left _ (by omega)

set_option maxHeartbeats 4000000 in
set_option maxRecDepth 100000 in
theorem euclid_zero {x y : Int} {bx by_ : Bool} {nx ny : Nat} {X Y : List Nat} {A B : Option Addr} {ca cb : Nat} {w : World} (HE : Hid (ExOk w)) (Ix : Iz x bx nx X) (Iy : Iz y by_ ny Y) (ma : Mg w A ca X) (mb : Mg w B cb Y) (fx : fits x) (fy : fits y) (hy : y = 0) :
    Calls Tryd.prog 14 #[.agg #[.bool bx, .slice A nx ca], .agg #[.bool by_, .slice B ny cb]] w (RetB w true) := by
  obtain ⟨G, hG⟩ : ∃ G, gcdZ x y = G := ⟨_, rfl⟩
  have fG : fits G := by rw [← hG]; exact gcdZ_fits fx fy
  have hG2 : gcdZ y x = G := by rw [← hG]; unfold gcdZ; rw [Nat.gcd_comm]
  have hGa : G.natAbs = Nat.gcd x.natAbs y.natAbs := by rw [← hG]; simp [gcdZ]
  obtain ⟨bG, nG, LG, IG⟩ := iz G
  have hbG : bG = false := by rw [IG.out.hb, ← hG]; exact decide_eq_false (by unfold gcdZ; omega)
  subst hbG
  obtain ⟨bO, nO, LO, IO⟩ := iz 0
  have hxG : (x.natAbs : Int) = G := by rw [← hG, hy]; simp [gcdZ]
  have HVa := hid fun (w1 : World) (m : Mg w1 A ca X) => Valid_g (w := w1) Ix m fx
  have HVb := hid fun (w1 : World) (m : Mg w1 B cb Y) => Valid_g (w := w1) Iy m fy
  have HG1 := hid fun (w1 : World) (m : Mg w1 A ca X) (m' : Mg w1 B cb Y) => GCD_g (w := w1) Ix Iy IG.out m m' fx fy hG
  have HG2 := hid fun (w1 : World) (m : Mg w1 B cb Y) (m' : Mg w1 A ca X) => GCD_g (w := w1) Iy Ix IG.out m m' fy fx hG2
  have HS := hid fun (w1 : World) (R Q : Option Addr) (c d : Nat) (m : Mg w1 R c LG) (m' : Mg w1 Q d LG) => Same_g (w := w1) IG.out IG.out m m' true (by simp)
  have HD1 := hid fun (w1 : World) (R : Option Addr) (c : Nat) (m : Mg w1 R c LG) (m' : Mg w1 A ca X) => divides_g (w := w1) Ix IG.out m' m fx fG (fun h => by rw [h] at hGa; have := Nat.gcd_eq_zero_iff.1 hGa.symm; omega) (fun _ => dm_zero _ _ (by rw [hGa]; exact Nat.gcd_dvd_left _ _))
  have HD2 := hid fun (w1 : World) (R : Option Addr) (c : Nat) (m : Mg w1 R c LG) (m' : Mg w1 B cb Y) => divides_g (w := w1) Iy IG.out m' m fy fG (fun _ => hy) (fun _ => dm_zero _ _ (by rw [hGa]; exact Nat.gcd_dvd_right _ _))
  have HDM := hid fun (w1 : World) (m : Mg w1 A ca X) (m' : Mg w1 B cb Y) => DivMod_0 (w := w1) Ix (by rw [← hy]; exact Iy) IO.out m m' fx
  have HMa := hid fun (w1 : World) (m : Mg w1 A ca X) => magnitude_g (w := w1) Ix IG.out m fx hxG
  have hny : ny = 0 := Iy.zero.2 hy
  subst hny
  have HB : Below w.heap.size w w := Below.refl _ _
  clear hG hG2 hGa hxG hy fG
  go_enter Tryd.func14, Tryd.ntmps14
  go_wp2_with fail
  refine (HVa.out _ (ma.below (by repeat' (first | with_reducible assumption | exact Below.refl _ _ | (refine Below.alloc ?_ (by first | omega | (simp only [World.size_alloc, World.size_setCell, World.size_drew]; done) | (simp only [World.size_alloc, World.size_setCell, World.size_drew]; omega)) _) | (refine Below.drew ?_) | (refine below_drewN ?_ _) | (refine Below.setCell ?_ (by first | omega | (simp only [World.size_alloc, World.size_setCell, World.size_drew]; done) | (simp only [World.size_alloc, World.size_setCell, World.size_drew]; omega)) _))))).mono ?_
  rintro e w1 ⟨rfl, h1⟩
  have hv_ : Below w.heap.size w w1 := Below.trans (b := _) (by repeat (first | assumption | exact Below.refl _ _ | refine Below.alloc ?_ (by simp; try omega) _ | refine Below.drew ?_ | refine below_drewN ?_ _)) (h1.mono (by simp; try omega))
  replace ma := ma.below hv_
  replace mb := mb.below hv_
  replace HB := HB.trans (hv_.mono HB.size)
  clear hv_
  obtain ⟨f1, f2, f3, f4⟩ := new2 h1
  go_wp2_with fail
  refine (HVb.out _ mb).mono ?_
  rintro e w2 ⟨rfl, h2⟩
  have hv_ : Below w1.heap.size w1 w2 := Below.trans (b := _) (by repeat (first | assumption | exact Below.refl _ _ | refine Below.alloc ?_ (by simp; try omega) _ | refine Below.drew ?_ | refine below_drewN ?_ _)) (h2.mono (by simp; try omega))
  replace ma := ma.below hv_
  replace mb := mb.below hv_
  replace f1 := keep_cell hv_ f1
  replace f2 := keep_cell hv_ f2
  replace f3 := keep_cell hv_ f3
  replace f4 := keep_cell hv_ f4
  have lt_f1 := cell_lt f1
  have lt_f2 := cell_lt f2
  have lt_f3 := cell_lt f3
  have lt_f4 := cell_lt f4
  replace HB := HB.trans (hv_.mono HB.size)
  clear hv_
  go_wp2_with fail
  refine (HG1.out _ ma mb).mono ?_
  rintro e w3 ⟨Rg, cg, rfl, mg, h3⟩
  have hv_ : Below w2.heap.size w2 w3 := Below.trans (b := _) (by repeat (first | assumption | exact Below.refl _ _ | refine Below.alloc ?_ (by simp; try omega) _ | refine Below.drew ?_ | refine below_drewN ?_ _)) (h3.mono (by simp; try omega))
  replace ma := ma.below hv_
  replace mb := mb.below hv_
  replace f1 := keep_cell hv_ f1
  replace f2 := keep_cell hv_ f2
  replace f3 := keep_cell hv_ f3
  replace f4 := keep_cell hv_ f4
  have lt_f1 := cell_lt f1
  have lt_f2 := cell_lt f2
  have lt_f3 := cell_lt f3
  have lt_f4 := cell_lt f4
  replace HB := HB.trans (hv_.mono HB.size)
  clear hv_
  go_wp2_with fail
  have g0 := at_alloc0 (W := w3) (a := .bool false) (b := .slice Rg nG cg) (t := 24) rfl
  have g1 := at_alloc1 (W := w3) (a := .bool false) (b := .slice Rg nG cg) (t := 24) rfl
  have hv_ : Below w3.heap.size w3 (w3.alloc (.cells #[.bool false, .slice Rg nG cg] 24)) := (Below.refl _ _).alloc (Nat.le_refl _) _
  generalize w3.alloc (.cells #[.bool false, .slice Rg nG cg] 24) = u3 at *
  replace ma := ma.below hv_
  replace mb := mb.below hv_
  replace mg := mg.below hv_
  replace f1 := keep_cell hv_ f1
  replace f2 := keep_cell hv_ f2
  replace f3 := keep_cell hv_ f3
  replace f4 := keep_cell hv_ f4
  replace HB := HB.trans (hv_.mono HB.size)
  clear hv_
  refine (HG2.out _ mb ma).mono ?_
  rintro e w4 ⟨Rh, ch, rfl, mh, h4⟩
  have hv_ : Below u3.heap.size u3 w4 := Below.trans (b := _) (by repeat (first | assumption | exact Below.refl _ _ | refine Below.alloc ?_ (by simp; try omega) _ | refine Below.drew ?_ | refine below_drewN ?_ _)) (h4.mono (by simp; try omega))
  replace ma := ma.below hv_
  replace mb := mb.below hv_
  replace mg := mg.below hv_
  replace f1 := keep_cell hv_ f1
  replace f2 := keep_cell hv_ f2
  replace f3 := keep_cell hv_ f3
  replace f4 := keep_cell hv_ f4
  replace g0 := keep_cell hv_ g0
  replace g1 := keep_cell hv_ g1
  have lt_f1 := cell_lt f1
  have lt_f2 := cell_lt f2
  have lt_f3 := cell_lt f3
  have lt_f4 := cell_lt f4
  have lt_g0 := cell_lt g0
  have lt_g1 := cell_lt g1
  replace HB := HB.trans (hv_.mono HB.size)
  clear hv_
  go_wp2_with fail
  have h0 := at_alloc0 (W := w4) (a := .bool false) (b := .slice Rh nG ch) (t := 24) rfl
  have h1 := at_alloc1 (W := w4) (a := .bool false) (b := .slice Rh nG ch) (t := 24) rfl
  have hv_ : Below w4.heap.size w4 (w4.alloc (.cells #[.bool false, .slice Rh nG ch] 24)) := (Below.refl _ _).alloc (Nat.le_refl _) _
  generalize w4.alloc (.cells #[.bool false, .slice Rh nG ch] 24) = u4 at *
  replace ma := ma.below hv_
  replace mb := mb.below hv_
  replace mg := mg.below hv_
  replace mh := mh.below hv_
  replace f1 := keep_cell hv_ f1
  replace f2 := keep_cell hv_ f2
  replace f3 := keep_cell hv_ f3
  replace f4 := keep_cell hv_ f4
  replace g0 := keep_cell hv_ g0
  replace g1 := keep_cell hv_ g1
  replace HB := HB.trans (hv_.mono HB.size)
  clear hv_
  refine (HS.out _ _ _ _ _ mg mh).mono ?_
  rintro e w5 ⟨rfl, h5⟩
  have hv_ : Below u4.heap.size u4 w5 := Below.trans (b := _) (by repeat (first | assumption | exact Below.refl _ _ | refine Below.alloc ?_ (by simp; try omega) _ | refine Below.drew ?_ | refine below_drewN ?_ _)) (h5.mono (by simp; try omega))
  replace ma := ma.below hv_
  replace mb := mb.below hv_
  replace mg := mg.below hv_
  replace f1 := keep_cell hv_ f1
  replace f2 := keep_cell hv_ f2
  replace f3 := keep_cell hv_ f3
  replace f4 := keep_cell hv_ f4
  replace g0 := keep_cell hv_ g0
  replace g1 := keep_cell hv_ g1
  have lt_f1 := cell_lt f1
  have lt_f2 := cell_lt f2
  have lt_f3 := cell_lt f3
  have lt_f4 := cell_lt f4
  have lt_g0 := cell_lt g0
  have lt_g1 := cell_lt g1
  replace HB := HB.trans (hv_.mono HB.size)
  clear hv_
  go_wp2_with fail
  refine (HD1.out _ _ _ mg ma).mono ?_
  rintro e w6 ⟨rfl, h6⟩
  have hv_ : Below w5.heap.size w5 w6 := Below.trans (b := _) (by repeat (first | assumption | exact Below.refl _ _ | refine Below.alloc ?_ (by simp; try omega) _ | refine Below.drew ?_ | refine below_drewN ?_ _)) (h6.mono (by simp; try omega))
  replace ma := ma.below hv_
  replace mb := mb.below hv_
  replace mg := mg.below hv_
  replace f1 := keep_cell hv_ f1
  replace f2 := keep_cell hv_ f2
  replace f3 := keep_cell hv_ f3
  replace f4 := keep_cell hv_ f4
  replace g0 := keep_cell hv_ g0
  replace g1 := keep_cell hv_ g1
  have lt_f1 := cell_lt f1
  have lt_f2 := cell_lt f2
  have lt_f3 := cell_lt f3
  have lt_f4 := cell_lt f4
  have lt_g0 := cell_lt g0
  have lt_g1 := cell_lt g1
  replace HB := HB.trans (hv_.mono HB.size)
  clear hv_
  go_wp2_with fail
  refine (HD2.out _ _ _ mg mb).mono ?_
  rintro e w7 ⟨rfl, h7⟩
  have hv_ : Below w6.heap.size w6 w7 := Below.trans (b := _) (by repeat (first | assumption | exact Below.refl _ _ | refine Below.alloc ?_ (by simp; try omega) _ | refine Below.drew ?_ | refine below_drewN ?_ _)) (h7.mono (by simp; try omega))
  replace ma := ma.below hv_
  replace mb := mb.below hv_
  replace mg := mg.below hv_
  replace f1 := keep_cell hv_ f1
  replace f2 := keep_cell hv_ f2
  replace f3 := keep_cell hv_ f3
  replace f4 := keep_cell hv_ f4
  replace g0 := keep_cell hv_ g0
  replace g1 := keep_cell hv_ g1
  have lt_f1 := cell_lt f1
  have lt_f2 := cell_lt f2
  have lt_f3 := cell_lt f3
  have lt_f4 := cell_lt f4
  have lt_g0 := cell_lt g0
  have lt_g1 := cell_lt g1
  replace HB := HB.trans (hv_.mono HB.size)
  clear hv_
  go_wp2_with fail
  refine (HDM.out _ ma mb).mono ?_
  rintro e w8 ⟨Rq, cq, Rr, cr, rfl, mq, mr, h8⟩
  have hv_ : Below w7.heap.size w7 w8 := Below.trans (b := _) (by repeat (first | assumption | exact Below.refl _ _ | refine Below.alloc ?_ (by simp; try omega) _ | refine Below.drew ?_ | refine below_drewN ?_ _)) (h8.mono (by simp; try omega))
  replace ma := ma.below hv_
  replace mb := mb.below hv_
  replace mg := mg.below hv_
  replace f1 := keep_cell hv_ f1
  replace f2 := keep_cell hv_ f2
  replace f3 := keep_cell hv_ f3
  replace f4 := keep_cell hv_ f4
  replace g0 := keep_cell hv_ g0
  replace g1 := keep_cell hv_ g1
  have lt_f1 := cell_lt f1
  have lt_f2 := cell_lt f2
  have lt_f3 := cell_lt f3
  have lt_f4 := cell_lt f4
  have lt_g0 := cell_lt g0
  have lt_g1 := cell_lt g1
  replace HB := HB.trans (hv_.mono HB.size)
  clear hv_
  go_wp2_with fail
  have q0 := keep_alloc (b := .cells #[.bool bO, .slice Rr nO cr] 24) (at_alloc0 (W := w8) (a := .bool bO) (b := .slice Rq nO cq) (t := 24) rfl)
  have q1 := keep_alloc (b := .cells #[.bool bO, .slice Rr nO cr] 24) (at_alloc1 (W := w8) (a := .bool bO) (b := .slice Rq nO cq) (t := 24) rfl)
  have r0 := at_alloc0 (W := w8.alloc (.cells #[.bool bO, .slice Rq nO cq] 24)) (a := .bool bO) (b := .slice Rr nO cr) (t := 24) rfl
  have r1 := at_alloc1 (W := w8.alloc (.cells #[.bool bO, .slice Rq nO cq] 24)) (a := .bool bO) (b := .slice Rr nO cr) (t := 24) rfl
  have hv_ : Below w8.heap.size w8 ((w8.alloc (.cells #[.bool bO, .slice Rq nO cq] 24)).alloc (.cells #[.bool bO, .slice Rr nO cr] 24)) := ((Below.refl _ _).alloc (Nat.le_refl _) _).alloc (by simp) _
  simp only [World.size_alloc] at r0 r1
  generalize (w8.alloc (.cells #[.bool bO, .slice Rq nO cq] 24)).alloc (.cells #[.bool bO, .slice Rr nO cr] 24) = u8 at *
  replace ma := ma.below hv_
  replace mg := mg.below hv_
  replace f1 := keep_cell hv_ f1
  replace f2 := keep_cell hv_ f2
  replace f3 := keep_cell hv_ f3
  replace f4 := keep_cell hv_ f4
  replace g0 := keep_cell hv_ g0
  replace g1 := keep_cell hv_ g1
  replace HB := HB.trans (hv_.mono HB.size)
  clear hv_
  go_region_held3 (fun w' => (w'.cell? ⟨w3.heap.size, 0, none⟩ = some (.bool false) ∧ w'.cell? ⟨w3.heap.size, 1, none⟩ = some (.slice Rg nG cg)) ∧ (w'.cell? ⟨w.heap.size, 0, none⟩ = some (.bool bx) ∧ w'.cell? ⟨w.heap.size, 1, none⟩ = some (.slice A nx ca))) (first | ((try dsimp only); repeat' (first | with_reducible assumption | apply And.intro | (with_reducible refine keep_cell (W := u8) ?_ ?_) | exact (Below.refl _ _).drew | fail))) (first | (go_at_call 50; (with_reducible refine (HMa.out _ (ma.below (by repeat' (first | with_reducible assumption | exact Below.refl _ _ | (refine Below.alloc ?_ (by first | omega | (simp only [World.size_alloc, World.size_setCell, World.size_drew]; done) | (simp only [World.size_alloc, World.size_setCell, World.size_drew]; omega)) _) | (refine Below.drew ?_) | (refine below_drewN ?_ _) | (refine Below.setCell ?_ (by first | omega | (simp only [World.size_alloc, World.size_setCell, World.size_drew]; done) | (simp only [World.size_alloc, World.size_setCell, World.size_drew]; omega)) _))))).mono ?_); rintro e y1 ⟨Rm, cm, rfl, mm, hq_⟩; have qy1 : Below u8.heap.size u8 y1 := bel_step (by repeat' (first | with_reducible assumption | exact Below.refl _ _ | (refine Below.alloc ?_ (by first | omega | (simp only [World.size_alloc, World.size_setCell, World.size_drew]; done) | (simp only [World.size_alloc, World.size_setCell, World.size_drew]; omega)) _) | (refine Below.drew ?_) | (refine below_drewN ?_ _) | (refine Below.setCell ?_ (by first | omega | (simp only [World.size_alloc, World.size_setCell, World.size_drew]; done) | (simp only [World.size_alloc, World.size_setCell, World.size_drew]; omega)) _))) hq_) | (go_at_call 19; (with_reducible refine (HS.out _ _ _ _ _ (mg.below (by repeat' (first | with_reducible assumption | exact Below.refl _ _ | (refine Below.alloc ?_ (by first | omega | (simp only [World.size_alloc, World.size_setCell, World.size_drew]; done) | (simp only [World.size_alloc, World.size_setCell, World.size_drew]; omega)) _) | (refine Below.drew ?_) | (refine below_drewN ?_ _) | (refine Below.setCell ?_ (by first | omega | (simp only [World.size_alloc, World.size_setCell, World.size_drew]; done) | (simp only [World.size_alloc, World.size_setCell, World.size_drew]; omega)) _)))) mm).mono ?_); rintro e y2 ⟨rfl, hq_⟩; have qy2 : Below u8.heap.size u8 y2 := bel_step (by repeat' (first | with_reducible assumption | exact Below.refl _ _ | (refine Below.alloc ?_ (by first | omega | (simp only [World.size_alloc, World.size_setCell, World.size_drew]; done) | (simp only [World.size_alloc, World.size_setCell, World.size_drew]; omega)) _) | (refine Below.drew ?_) | (refine below_drewN ?_ _) | (refine Below.setCell ?_ (by first | omega | (simp only [World.size_alloc, World.size_setCell, World.size_drew]; done) | (simp only [World.size_alloc, World.size_setCell, World.size_drew]; omega)) _))) hq_) | (go_at_call 20; (with_reducible refine (exRun HE (bel_step HB (by repeat' (first | with_reducible assumption | exact Below.refl _ _ | (refine Below.alloc ?_ (by first | omega | (simp only [World.size_alloc, World.size_setCell, World.size_drew]; done) | (simp only [World.size_alloc, World.size_setCell, World.size_drew]; omega)) _) | (refine Below.drew ?_) | (refine below_drewN ?_ _) | (refine Below.setCell ?_ (by first | omega | (simp only [World.size_alloc, World.size_setCell, World.size_drew]; done) | (simp only [World.size_alloc, World.size_setCell, World.size_drew]; omega)) _))))).mono ?_); rintro e y3 ⟨rfl, hq_⟩; have qy3 : Below u8.heap.size u8 y3 := bel_step (by repeat' (first | with_reducible assumption | exact Below.refl _ _ | (refine Below.alloc ?_ (by first | omega | (simp only [World.size_alloc, World.size_setCell, World.size_drew]; done) | (simp only [World.size_alloc, World.size_setCell, World.size_drew]; omega)) _) | (refine Below.drew ?_) | (refine below_drewN ?_ _) | (refine Below.setCell ?_ (by first | omega | (simp only [World.size_alloc, World.size_setCell, World.size_drew]; done) | (simp only [World.size_alloc, World.size_setCell, World.size_drew]; omega)) _))) hq_))
  all_goals
    go_wp2_with fail
    go_ret
    exact ⟨rfl, HB.trans (qy3.mono HB.size)⟩

set_option maxHeartbeats 8000000 in
set_option maxRecDepth 100000 in
theorem euclid_ok {x y : Int} {bx by_ : Bool} {nx ny : Nat} {X Y : List Nat} {A B : Option Addr} {ca cb : Nat} {w : World} (HE : Hid (ExOk w)) (Ix : Iz x bx nx X) (Iy : Iz y by_ ny Y) (ma : Mg w A ca X) (mb : Mg w B cb Y) (fx : fits x) (fy : fits y) (hy : y ≠ 0) :
    Calls Tryd.prog 14 #[.agg #[.bool bx, .slice A nx ca], .agg #[.bool by_, .slice B ny cb]] w (RetB w true) := by
  obtain ⟨G, hG⟩ : ∃ G, gcdZ x y = G := ⟨_, rfl⟩
  have fG : fits G := by rw [← hG]; exact gcdZ_fits fx fy
  have hG2 : gcdZ y x = G := by rw [← hG]; unfold gcdZ; rw [Nat.gcd_comm]
  have hGa : G.natAbs = Nat.gcd x.natAbs y.natAbs := by rw [← hG]; simp [gcdZ]
  obtain ⟨bG, nG, LG, IG⟩ := iz G
  have hbG : bG = false := by rw [IG.out.hb, ← hG]; exact decide_eq_false (by unfold gcdZ; omega)
  subst hbG
  obtain ⟨Q, hQ⟩ : ∃ Q, dmQ x y = Q := ⟨_, rfl⟩
  obtain ⟨R, hR⟩ : ∃ R, dmR x y = R := ⟨_, rfl⟩
  have fQ : fits Q := by rw [← hQ]; exact fits_le (dm_qabs x y hy) fx
  have hRa : R.natAbs < y.natAbs := by rw [← hR]; exact dm_abs x y hy
  have fR : fits R := fits_le (Nat.le_of_lt hRa) fy
  have hRs : R ≠ 0 → decide (R < 0) = decide (y < 0) := fun h => by rw [← hR] at h ⊢; exact dm_sign x y h
  have hGR : gcdZ y R = G := by rw [← hG, ← hR]; unfold gcdZ; rw [dm_gcd x y hy]
  have hQR : Q * y + R = x := by rw [← hQ, ← hR]; exact dm_eq x y hy
  obtain ⟨bQ, nQ, LQ, IQ⟩ := iz Q
  obtain ⟨bR, nR, LR, IR⟩ := iz R
  obtain ⟨b1, n1, L1, I1⟩ := iz (R.natAbs : Int)
  obtain ⟨b2, n2, L2, I2⟩ := iz (y.natAbs : Int)
  obtain ⟨vP, eP, hP⟩ : ∃ v e, fitE (Q * y) = (v, e) := ⟨_, _, rfl⟩
  obtain ⟨bP, nP, LP, IP⟩ := iz vP
  have HVa := hid fun (w1 : World) (m : Mg w1 A ca X) => Valid_g (w := w1) Ix m fx
  have HVb := hid fun (w1 : World) (m : Mg w1 B cb Y) => Valid_g (w := w1) Iy m fy
  have HG1 := hid fun (w1 : World) (m : Mg w1 A ca X) (m' : Mg w1 B cb Y) => GCD_g (w := w1) Ix Iy IG.out m m' fx fy hG
  have HG2 := hid fun (w1 : World) (m : Mg w1 B cb Y) (m' : Mg w1 A ca X) => GCD_g (w := w1) Iy Ix IG.out m m' fy fx hG2
  have HG3 := hid fun (w1 : World) (Rr : Option Addr) (cr : Nat) (m : Mg w1 B cb Y) (m' : Mg w1 Rr cr LR) => GCD_g (w := w1) Iy IR.out IG.out m m' fy fR hGR
  have HS := hid fun (w1 : World) (R Q : Option Addr) (c d : Nat) (m : Mg w1 R c LG) (m' : Mg w1 Q d LG) => Same_g (w := w1) IG.out IG.out m m' true (by simp)
  have HSx := hid fun (w1 : World) (R : Option Addr) (c : Nat) (m : Mg w1 R c X) (m' : Mg w1 A ca X) => Same_g (w := w1) Ix Ix m m' true (by simp)
  have HD1 := hid fun (w1 : World) (R : Option Addr) (c : Nat) (m : Mg w1 R c LG) (m' : Mg w1 A ca X) => divides_g (w := w1) Ix IG.out m' m fx fG (fun h => by rw [h] at hGa; have := Nat.gcd_eq_zero_iff.1 hGa.symm; omega) (fun _ => dm_zero _ _ (by rw [hGa]; exact Nat.gcd_dvd_left _ _))
  have HD2 := hid fun (w1 : World) (R : Option Addr) (c : Nat) (m : Mg w1 R c LG) (m' : Mg w1 B cb Y) => divides_g (w := w1) Iy IG.out m' m fy fG (fun h => by rw [h] at hGa; have := Nat.gcd_eq_zero_iff.1 hGa.symm; omega) (fun _ => dm_zero _ _ (by rw [hGa]; exact Nat.gcd_dvd_right _ _))
  have HDM := hid fun (w1 : World) (m : Mg w1 A ca X) (m' : Mg w1 B cb Y) => DivMod_g (w := w1) Ix Iy IQ.out IR.out m m' fx fy hy hQ hR
  have HM1 := hid fun (w1 : World) (Rr : Option Addr) (cr : Nat) (m : Mg w1 Rr cr LR) => magnitude_g (w := w1) IR.out I1.out m fR rfl
  have HM2 := hid fun (w1 : World) (m : Mg w1 B cb Y) => magnitude_g (w := w1) Iy I2.out m fy rfl
  have HC := hid fun (w1 : World) (R' Q' : Option Addr) (c d : Nat) (m : Mg w1 R' c L1) (m' : Mg w1 Q' d L2) => Cmp_g (w := w1) I1.out I2.out m m' (fits_natAbs fR) (fits_natAbs fy) (-1) (by unfold zord; rw [if_pos (by omega)])
  have HP := hid fun (w1 : World) (Rq : Option Addr) (cq : Nat) (m : Mg w1 Rq cq LQ) (m' : Mg w1 B cb Y) => Mul_g (w := w1) IQ.out Iy IP.out hP m m' fQ fy rfl
  have hny : ((ny : Int) == 0) = false := by
    rw [beq_eq_false_iff_ne]
    intro h
    exact hy (Iy.zero.1 (by omega))
  have HB : Below w.heap.size w w := Below.refl _ _
  have HX := hid (And.intro hP (And.intro hQR (And.intro fR hRs)))
  clear hG hG2 hGa fG hQ hR hP hQR hGR hRs fQ fR hRa
  go_enter Tryd.func14, Tryd.ntmps14
  go_wp2_with fail
  refine (HVa.out _ (ma.below (by repeat' (first | with_reducible assumption | exact Below.refl _ _ | (refine Below.alloc ?_ (by first | omega | (simp only [World.size_alloc, World.size_setCell, World.size_drew]; done) | (simp only [World.size_alloc, World.size_setCell, World.size_drew]; omega)) _) | (refine Below.drew ?_) | (refine below_drewN ?_ _) | (refine Below.setCell ?_ (by first | omega | (simp only [World.size_alloc, World.size_setCell, World.size_drew]; done) | (simp only [World.size_alloc, World.size_setCell, World.size_drew]; omega)) _))))).mono ?_
  rintro e w1 ⟨rfl, h1⟩
  have hv_ : Below w.heap.size w w1 := Below.trans (b := _) (by repeat (first | assumption | exact Below.refl _ _ | refine Below.alloc ?_ (by simp; try omega) _ | refine Below.drew ?_ | refine below_drewN ?_ _)) (h1.mono (by simp; try omega))
  replace ma := ma.below hv_
  replace mb := mb.below hv_
  replace HB := HB.trans (hv_.mono HB.size)
  clear hv_
  obtain ⟨f1, f2, f3, f4⟩ := new2 h1
  go_wp2_with fail
  refine (HVb.out _ mb).mono ?_
  rintro e w2 ⟨rfl, h2⟩
  have hv_ : Below w1.heap.size w1 w2 := Below.trans (b := _) (by repeat (first | assumption | exact Below.refl _ _ | refine Below.alloc ?_ (by simp; try omega) _ | refine Below.drew ?_ | refine below_drewN ?_ _)) (h2.mono (by simp; try omega))
  replace ma := ma.below hv_
  replace mb := mb.below hv_
  replace f1 := keep_cell hv_ f1
  replace f2 := keep_cell hv_ f2
  replace f3 := keep_cell hv_ f3
  replace f4 := keep_cell hv_ f4
  have lt_f1 := cell_lt f1
  have lt_f2 := cell_lt f2
  have lt_f3 := cell_lt f3
  have lt_f4 := cell_lt f4
  replace HB := HB.trans (hv_.mono HB.size)
  clear hv_
  go_wp2_with fail
  refine (HG1.out _ ma mb).mono ?_
  rintro e w3 ⟨Rg, cg, rfl, mg, h3⟩
  have hv_ : Below w2.heap.size w2 w3 := Below.trans (b := _) (by repeat (first | assumption | exact Below.refl _ _ | refine Below.alloc ?_ (by simp; try omega) _ | refine Below.drew ?_ | refine below_drewN ?_ _)) (h3.mono (by simp; try omega))
  replace ma := ma.below hv_
  replace mb := mb.below hv_
  replace f1 := keep_cell hv_ f1
  replace f2 := keep_cell hv_ f2
  replace f3 := keep_cell hv_ f3
  replace f4 := keep_cell hv_ f4
  have lt_f1 := cell_lt f1
  have lt_f2 := cell_lt f2
  have lt_f3 := cell_lt f3
  have lt_f4 := cell_lt f4
  replace HB := HB.trans (hv_.mono HB.size)
  clear hv_
  go_wp2_with fail
  have g0 := at_alloc0 (W := w3) (a := .bool false) (b := .slice Rg nG cg) (t := 24) rfl
  have g1 := at_alloc1 (W := w3) (a := .bool false) (b := .slice Rg nG cg) (t := 24) rfl
  have hv_ : Below w3.heap.size w3 (w3.alloc (.cells #[.bool false, .slice Rg nG cg] 24)) := (Below.refl _ _).alloc (Nat.le_refl _) _
  generalize w3.alloc (.cells #[.bool false, .slice Rg nG cg] 24) = u3 at *
  replace ma := ma.below hv_
  replace mb := mb.below hv_
  replace mg := mg.below hv_
  replace f1 := keep_cell hv_ f1
  replace f2 := keep_cell hv_ f2
  replace f3 := keep_cell hv_ f3
  replace f4 := keep_cell hv_ f4
  replace HB := HB.trans (hv_.mono HB.size)
  clear hv_
  refine (HG2.out _ mb ma).mono ?_
  rintro e w4 ⟨Rh, ch, rfl, mh, h4⟩
  have hv_ : Below u3.heap.size u3 w4 := Below.trans (b := _) (by repeat (first | assumption | exact Below.refl _ _ | refine Below.alloc ?_ (by simp; try omega) _ | refine Below.drew ?_ | refine below_drewN ?_ _)) (h4.mono (by simp; try omega))
  replace ma := ma.below hv_
  replace mb := mb.below hv_
  replace mg := mg.below hv_
  replace f1 := keep_cell hv_ f1
  replace f2 := keep_cell hv_ f2
  replace f3 := keep_cell hv_ f3
  replace f4 := keep_cell hv_ f4
  replace g0 := keep_cell hv_ g0
  replace g1 := keep_cell hv_ g1
  have lt_f1 := cell_lt f1
  have lt_f2 := cell_lt f2
  have lt_f3 := cell_lt f3
  have lt_f4 := cell_lt f4
  have lt_g0 := cell_lt g0
  have lt_g1 := cell_lt g1
  replace HB := HB.trans (hv_.mono HB.size)
  clear hv_
  go_wp2_with fail
  have h0 := at_alloc0 (W := w4) (a := .bool false) (b := .slice Rh nG ch) (t := 24) rfl
  have h1 := at_alloc1 (W := w4) (a := .bool false) (b := .slice Rh nG ch) (t := 24) rfl
  have hv_ : Below w4.heap.size w4 (w4.alloc (.cells #[.bool false, .slice Rh nG ch] 24)) := (Below.refl _ _).alloc (Nat.le_refl _) _
  generalize w4.alloc (.cells #[.bool false, .slice Rh nG ch] 24) = u4 at *
  replace ma := ma.below hv_
  replace mb := mb.below hv_
  replace mg := mg.below hv_
  replace mh := mh.below hv_
  replace f1 := keep_cell hv_ f1
  replace f2 := keep_cell hv_ f2
  replace f3 := keep_cell hv_ f3
  replace f4 := keep_cell hv_ f4
  replace g0 := keep_cell hv_ g0
  replace g1 := keep_cell hv_ g1
  replace HB := HB.trans (hv_.mono HB.size)
  clear hv_
  refine (HS.out _ _ _ _ _ mg mh).mono ?_
  rintro e w5 ⟨rfl, h5⟩
  have hv_ : Below u4.heap.size u4 w5 := Below.trans (b := _) (by repeat (first | assumption | exact Below.refl _ _ | refine Below.alloc ?_ (by simp; try omega) _ | refine Below.drew ?_ | refine below_drewN ?_ _)) (h5.mono (by simp; try omega))
  replace ma := ma.below hv_
  replace mb := mb.below hv_
  replace mg := mg.below hv_
  replace f1 := keep_cell hv_ f1
  replace f2 := keep_cell hv_ f2
  replace f3 := keep_cell hv_ f3
  replace f4 := keep_cell hv_ f4
  replace g0 := keep_cell hv_ g0
  replace g1 := keep_cell hv_ g1
  have lt_f1 := cell_lt f1
  have lt_f2 := cell_lt f2
  have lt_f3 := cell_lt f3
  have lt_f4 := cell_lt f4
  have lt_g0 := cell_lt g0
  have lt_g1 := cell_lt g1
  replace HB := HB.trans (hv_.mono HB.size)
  clear hv_
  go_wp2_with fail
  refine (HD1.out _ _ _ mg ma).mono ?_
  rintro e w6 ⟨rfl, h6⟩
  have hv_ : Below w5.heap.size w5 w6 := Below.trans (b := _) (by repeat (first | assumption | exact Below.refl _ _ | refine Below.alloc ?_ (by simp; try omega) _ | refine Below.drew ?_ | refine below_drewN ?_ _)) (h6.mono (by simp; try omega))
  replace ma := ma.below hv_
  replace mb := mb.below hv_
  replace mg := mg.below hv_
  replace f1 := keep_cell hv_ f1
  replace f2 := keep_cell hv_ f2
  replace f3 := keep_cell hv_ f3
  replace f4 := keep_cell hv_ f4
  replace g0 := keep_cell hv_ g0
  replace g1 := keep_cell hv_ g1
  have lt_f1 := cell_lt f1
  have lt_f2 := cell_lt f2
  have lt_f3 := cell_lt f3
  have lt_f4 := cell_lt f4
  have lt_g0 := cell_lt g0
  have lt_g1 := cell_lt g1
  replace HB := HB.trans (hv_.mono HB.size)
  clear hv_
  go_wp2_with fail
  refine (HD2.out _ _ _ mg mb).mono ?_
  rintro e w7 ⟨rfl, h7⟩
  have hv_ : Below w6.heap.size w6 w7 := Below.trans (b := _) (by repeat (first | assumption | exact Below.refl _ _ | refine Below.alloc ?_ (by simp; try omega) _ | refine Below.drew ?_ | refine below_drewN ?_ _)) (h7.mono (by simp; try omega))
  replace ma := ma.below hv_
  replace mb := mb.below hv_
  replace mg := mg.below hv_
  replace f1 := keep_cell hv_ f1
  replace f2 := keep_cell hv_ f2
  replace f3 := keep_cell hv_ f3
  replace f4 := keep_cell hv_ f4
  replace g0 := keep_cell hv_ g0
  replace g1 := keep_cell hv_ g1
  have lt_f1 := cell_lt f1
  have lt_f2 := cell_lt f2
  have lt_f3 := cell_lt f3
  have lt_f4 := cell_lt f4
  have lt_g0 := cell_lt g0
  have lt_g1 := cell_lt g1
  replace HB := HB.trans (hv_.mono HB.size)
  clear hv_
  go_wp2_with fail
  refine (HDM.out _ ma mb).mono ?_
  rintro e w8 ⟨Rq, cq, Rr, cr, rfl, mq, mr, h8⟩
  have hv_ : Below w7.heap.size w7 w8 := Below.trans (b := _) (by repeat (first | assumption | exact Below.refl _ _ | refine Below.alloc ?_ (by simp; try omega) _ | refine Below.drew ?_ | refine below_drewN ?_ _)) (h8.mono (by simp; try omega))
  replace ma := ma.below hv_
  replace mb := mb.below hv_
  replace mg := mg.below hv_
  replace f1 := keep_cell hv_ f1
  replace f2 := keep_cell hv_ f2
  replace f3 := keep_cell hv_ f3
  replace f4 := keep_cell hv_ f4
  replace g0 := keep_cell hv_ g0
  replace g1 := keep_cell hv_ g1
  have lt_f1 := cell_lt f1
  have lt_f2 := cell_lt f2
  have lt_f3 := cell_lt f3
  have lt_f4 := cell_lt f4
  have lt_g0 := cell_lt g0
  have lt_g1 := cell_lt g1
  replace HB := HB.trans (hv_.mono HB.size)
  clear hv_
  go_wp2_with fail
  have q0 := keep_alloc (b := .cells #[.bool bR, .slice Rr nR cr] 24) (at_alloc0 (W := w8) (a := .bool bQ) (b := .slice Rq nQ cq) (t := 24) rfl)
  have q1 := keep_alloc (b := .cells #[.bool bR, .slice Rr nR cr] 24) (at_alloc1 (W := w8) (a := .bool bQ) (b := .slice Rq nQ cq) (t := 24) rfl)
  have r0 := at_alloc0 (W := w8.alloc (.cells #[.bool bQ, .slice Rq nQ cq] 24)) (a := .bool bR) (b := .slice Rr nR cr) (t := 24) rfl
  have r1 := at_alloc1 (W := w8.alloc (.cells #[.bool bQ, .slice Rq nQ cq] 24)) (a := .bool bR) (b := .slice Rr nR cr) (t := 24) rfl
  have hv_ : Below w8.heap.size w8 ((w8.alloc (.cells #[.bool bQ, .slice Rq nQ cq] 24)).alloc (.cells #[.bool bR, .slice Rr nR cr] 24)) := ((Below.refl _ _).alloc (Nat.le_refl _) _).alloc (by simp) _
  simp only [World.size_alloc] at r0 r1
  generalize (w8.alloc (.cells #[.bool bQ, .slice Rq nQ cq] 24)).alloc (.cells #[.bool bR, .slice Rr nR cr] 24) = u8 at *
  replace ma := ma.below hv_
  replace mb := mb.below hv_
  replace mg := mg.below hv_
  replace mq := mq.below hv_
  replace mr := mr.below hv_
  replace f1 := keep_cell hv_ f1
  replace f2 := keep_cell hv_ f2
  replace f3 := keep_cell hv_ f3
  replace f4 := keep_cell hv_ f4
  replace g0 := keep_cell hv_ g0
  replace g1 := keep_cell hv_ g1
  replace HB := HB.trans (hv_.mono HB.size)
  clear hv_
  refine (HG3.out _ _ _ mb mr).mono ?_
  rintro e w9 ⟨Ru, cu, rfl, mu, h9⟩
  have hv_ : Below u8.heap.size u8 w9 := Below.trans (b := _) (by repeat (first | assumption | exact Below.refl _ _ | refine Below.alloc ?_ (by simp; try omega) _ | refine Below.drew ?_ | refine below_drewN ?_ _)) (h9.mono (by simp; try omega))
  replace ma := ma.below hv_
  replace mb := mb.below hv_
  replace mg := mg.below hv_
  replace mq := mq.below hv_
  replace mr := mr.below hv_
  replace f1 := keep_cell hv_ f1
  replace f2 := keep_cell hv_ f2
  replace f3 := keep_cell hv_ f3
  replace f4 := keep_cell hv_ f4
  replace g0 := keep_cell hv_ g0
  replace g1 := keep_cell hv_ g1
  replace q0 := keep_cell hv_ q0
  replace q1 := keep_cell hv_ q1
  replace r0 := keep_cell hv_ r0
  replace r1 := keep_cell hv_ r1
  have lt_f1 := cell_lt f1
  have lt_f2 := cell_lt f2
  have lt_f3 := cell_lt f3
  have lt_f4 := cell_lt f4
  have lt_g0 := cell_lt g0
  have lt_g1 := cell_lt g1
  have lt_q0 := cell_lt q0
  have lt_q1 := cell_lt q1
  have lt_r0 := cell_lt r0
  have lt_r1 := cell_lt r1
  replace HB := HB.trans (hv_.mono HB.size)
  clear hv_
  go_upto_region 11 with fail
  have u0 := at_alloc0 (W := w9) (a := .bool false) (b := .slice Ru nG cu) (t := 24) rfl
  have u1 := at_alloc1 (W := w9) (a := .bool false) (b := .slice Ru nG cu) (t := 24) rfl
  have hv_ : Below w9.heap.size w9 (w9.alloc (.cells #[.bool false, .slice Ru nG cu] 24)) := (Below.refl _ _).alloc (Nat.le_refl _) _
  generalize w9.alloc (.cells #[.bool false, .slice Ru nG cu] 24) = u9 at *
  replace ma := ma.below hv_
  replace mb := mb.below hv_
  replace mg := mg.below hv_
  replace mq := mq.below hv_
  replace mr := mr.below hv_
  replace mu := mu.below hv_
  replace f1 := keep_cell hv_ f1
  replace f2 := keep_cell hv_ f2
  replace f3 := keep_cell hv_ f3
  replace f4 := keep_cell hv_ f4
  replace g0 := keep_cell hv_ g0
  replace g1 := keep_cell hv_ g1
  replace q0 := keep_cell hv_ q0
  replace q1 := keep_cell hv_ q1
  replace r0 := keep_cell hv_ r0
  replace r1 := keep_cell hv_ r1
  replace HB := HB.trans (hv_.mono HB.size)
  clear hv_
  go_cut [127] (fun s wx => s = .bool false ∧ Below u9.heap.size u9 wx)
  case first =>
    by_cases hr0 : R = 0
    · have hnR : nR = 0 := IR.out.zero.2 hr0
      subst hnR
      clear hr0
      have hd_ : u9.drew.cell? ⟨w9.heap.size, 0, none⟩ = some (.bool false) ∧ u9.drew.cell? ⟨w9.heap.size, 1, none⟩ = some (.slice Ru nG cu) := ⟨u0, u1⟩
      refine wp_region_held_drew (S := fun w' => (w'.cell? ⟨w9.heap.size, 0, none⟩ = some (.bool false) ∧ w'.cell? ⟨w9.heap.size, 1, none⟩ = some (.slice Ru nG cu)) ∧ (w'.cell? ⟨w3.heap.size, 0, none⟩ = some (.bool false) ∧ w'.cell? ⟨w3.heap.size, 1, none⟩ = some (.slice Rg nG cg)) ∧ (w'.cell? ⟨w8.heap.size + 1, 0, none⟩ = some (.bool bR) ∧ w'.cell? ⟨w8.heap.size + 1, 1, none⟩ = some (.slice Rr 0 cr)) ∧ (w'.cell? ⟨w.heap.size + 1, 0, none⟩ = some (.bool by_) ∧ w'.cell? ⟨w.heap.size + 1, 1, none⟩ = some (.slice B ny cb))) (by kernel_rfl) ?_ (fun hHeld => ?_)
      · exact ⟨⟨u0, u1⟩, ⟨g0, g1⟩, ⟨r0, r1⟩, ⟨f3, f4⟩⟩
      refine' wpAnyH_take (i := 0) ?_ ?_ ?_ ?_ ?_ ?_ ?_ ?_
      rotate_left 2
      · (simp only [List.getElem?_toArray, List.getElem?_cons_succ, List.getElem?_cons_zero]; rfl)
      · kernel_rfl
      · kernel_rfl
      · kernel_rfl
      · exact fun _ _ _ h => h
      · (refine Or.inl ⟨by rfl, ?_⟩; intro w_ hSw_; (try dsimp only at hSw_); go_simp; (try with_reducible rfl))
      · assumption
      (try simp only [Act.put, List.setIfInBounds_toArray, List.set_cons_zero, List.set_cons_succ])
      refine' wpAnyH_take (i := 1) ?_ ?_ ?_ ?_ ?_ ?_ ?_ ?_
      rotate_left 2
      · (simp only [List.getElem?_toArray, List.getElem?_cons_succ, List.getElem?_cons_zero]; rfl)
      · kernel_rfl
      · kernel_rfl
      · kernel_rfl
      · exact fun _ _ _ h => h
      · (refine Or.inl ⟨by rfl, ?_⟩; intro w_ hSw_; (try dsimp only at hSw_); go_simp; (try with_reducible rfl))
      · assumption
      (try simp only [Act.put, List.setIfInBounds_toArray, List.set_cons_zero, List.set_cons_succ])
      refine' wpAnyH_take (i := 2) ?_ ?_ ?_ ?_ ?_ ?_ ?_ ?_
      rotate_left 2
      · (simp only [List.getElem?_toArray, List.getElem?_cons_succ, List.getElem?_cons_zero]; rfl)
      · kernel_rfl
      · kernel_rfl
      · kernel_rfl
      · exact fun _ _ _ h => h
      · (refine Or.inl ⟨by rfl, ?_⟩; intro w_ hSw_; (try dsimp only at hSw_); go_simp; (try with_reducible rfl))
      · assumption
      (try simp only [Act.put, List.setIfInBounds_toArray, List.set_cons_zero, List.set_cons_succ])
      refine' wpAnyH_take (i := 3) ?_ ?_ ?_ ?_ ?_ ?_ ?_ ?_
      rotate_left 2
      · (simp only [List.getElem?_toArray, List.getElem?_cons_succ, List.getElem?_cons_zero]; rfl)
      · kernel_rfl
      · kernel_rfl
      · kernel_rfl
      · exact fun _ _ _ h => h
      · (refine Or.inl ⟨by rfl, ?_⟩; intro w_ hSw_; (try dsimp only at hSw_); go_simp; (try with_reducible rfl))
      · assumption
      (try simp only [Act.put, List.setIfInBounds_toArray, List.set_cons_zero, List.set_cons_succ])
      refine' wpAnyH_take (i := 4) ?_ ?_ ?_ ?_ ?_ ?_ ?_ ?_
      rotate_left 2
      · (simp only [List.getElem?_toArray, List.getElem?_cons_succ, List.getElem?_cons_zero]; rfl)
      · kernel_rfl
      · kernel_rfl
      · kernel_rfl
      · exact fun _ _ _ h => h
      · (refine Or.inl ⟨by rfl, ?_⟩; intro w_ hSw_; (try dsimp only at hSw_); go_simp; (try with_reducible rfl))
      · assumption
      (try simp only [Act.put, List.setIfInBounds_toArray, List.set_cons_zero, List.set_cons_succ])
      refine' wpAnyH_take (i := 5) ?_ ?_ ?_ ?_ ?_ ?_ ?_ ?_
      rotate_left 2
      · (simp only [List.getElem?_toArray, List.getElem?_cons_succ, List.getElem?_cons_zero]; rfl)
      · kernel_rfl
      · kernel_rfl
      · kernel_rfl
      · exact fun _ _ _ h => h
      · (refine Or.inl ⟨by rfl, ?_⟩; intro w_ hSw_; (try dsimp only at hSw_); go_simp; (try with_reducible rfl))
      · assumption
      (try simp only [Act.put, List.setIfInBounds_toArray, List.set_cons_zero, List.set_cons_succ])
      refine' wpAnyH_take (i := 6) ?_ ?_ ?_ ?_ ?_ ?_ ?_ ?_
      rotate_left 2
      · (simp only [List.getElem?_toArray, List.getElem?_cons_succ, List.getElem?_cons_zero]; rfl)
      · kernel_rfl
      · kernel_rfl
      · kernel_rfl
      · exact fun _ _ _ h => h
      · (refine Or.inl ⟨by rfl, ?_⟩; intro w_ hSw_; (try dsimp only at hSw_); go_simp; (try with_reducible rfl))
      · assumption
      (try simp only [Act.put, List.setIfInBounds_toArray, List.set_cons_zero, List.set_cons_succ])
      refine' wpAnyH_take (i := 7) ?_ ?_ ?_ ?_ ?_ ?_ ?_ ?_
      rotate_left 2
      · (simp only [List.getElem?_toArray, List.getElem?_cons_succ, List.getElem?_cons_zero]; rfl)
      · kernel_rfl
      · kernel_rfl
      · kernel_rfl
      · exact fun _ _ _ h => h
      · (refine Or.inl ⟨by rfl, ?_⟩; intro w_ hSw_; (try dsimp only at hSw_); go_simp; (try with_reducible rfl))
      · assumption
      (try simp only [Act.put, List.setIfInBounds_toArray, List.set_cons_zero, List.set_cons_succ])
      refine' wpAnyH_take (i := 8) ?_ ?_ ?_ ?_ ?_ ?_ ?_ ?_
      rotate_left 2
      · (simp only [List.getElem?_toArray, List.getElem?_cons_succ, List.getElem?_cons_zero]; rfl)
      · kernel_rfl
      · kernel_rfl
      · kernel_rfl
      · exact fun _ _ _ h => h
      · (refine Or.inl ⟨by rfl, ?_⟩; intro w_ hSw_; (try dsimp only at hSw_); go_simp; (try with_reducible rfl))
      · assumption
      (try simp only [Act.put, List.setIfInBounds_toArray, List.set_cons_zero, List.set_cons_succ])
      refine wpAnyH_ready (rs := [9]) (by kernel_rfl) (by simp) ?_
      refine' AllReadyH.cons (o := _) (by simp only [List.getElem?_toArray, List.getElem?_cons_succ, List.getElem?_cons_zero]; rfl) (fun K hK => ?_) AllReadyH.nil
      go_simp
      (go_at_call 19; (with_reducible refine (HS.out _ _ _ _ _ (mu.below (by repeat' (first | with_reducible assumption | exact Below.refl _ _ | (refine Below.alloc ?_ (by first | omega | (simp only [World.size_alloc, World.size_setCell, World.size_drew]; done) | (simp only [World.size_alloc, World.size_setCell, World.size_drew]; omega)) _) | (refine Below.drew ?_) | (refine below_drewN ?_ _) | (refine Below.setCell ?_ (by first | omega | (simp only [World.size_alloc, World.size_setCell, World.size_drew]; done) | (simp only [World.size_alloc, World.size_setCell, World.size_drew]; omega)) _)))) (mg.below (by repeat' (first | with_reducible assumption | exact Below.refl _ _ | (refine Below.alloc ?_ (by first | omega | (simp only [World.size_alloc, World.size_setCell, World.size_drew]; done) | (simp only [World.size_alloc, World.size_setCell, World.size_drew]; omega)) _) | (refine Below.drew ?_) | (refine below_drewN ?_ _) | (refine Below.setCell ?_ (by first | omega | (simp only [World.size_alloc, World.size_setCell, World.size_drew]; done) | (simp only [World.size_alloc, World.size_setCell, World.size_drew]; omega)) _))))).mono ?_); rintro e y1 ⟨rfl, hq_⟩; have qy1 : Below u9.heap.size u9 y1 := bel_step (by repeat' (first | with_reducible assumption | exact Below.refl _ _ | (refine Below.alloc ?_ (by first | omega | (simp only [World.size_alloc, World.size_setCell, World.size_drew]; done) | (simp only [World.size_alloc, World.size_setCell, World.size_drew]; omega)) _) | (refine Below.drew ?_) | (refine below_drewN ?_ _) | (refine Below.setCell ?_ (by first | omega | (simp only [World.size_alloc, World.size_setCell, World.size_drew]; done) | (simp only [World.size_alloc, World.size_setCell, World.size_drew]; omega)) _))) hq_)
      (try go_wp2_with fail)
      refine hK.out _ _ ?_ (fun hHeld => ?_)
      · (first | ((try dsimp only); repeat' (first | with_reducible assumption | apply And.intro | (with_reducible refine keep_cell (W := u9) ?_ ?_) | exact (Below.refl _ _).drew | fail)))
      clear hK K
      (try simp only [Act.put, List.setIfInBounds_toArray, List.set_cons_zero, List.set_cons_succ])
      refine' wpAnyH_take (i := 10) ?_ ?_ ?_ ?_ ?_ ?_ ?_ ?_
      rotate_left 2
      · (simp only [List.getElem?_toArray, List.getElem?_cons_succ, List.getElem?_cons_zero]; rfl)
      · kernel_rfl
      · kernel_rfl
      · kernel_rfl
      · exact fun _ _ _ h => h
      · (refine Or.inl ⟨by rfl, ?_⟩; intro w_ hSw_; (try dsimp only at hSw_); go_simp; (try with_reducible rfl))
      · assumption
      (try simp only [Act.put, List.setIfInBounds_toArray, List.set_cons_zero, List.set_cons_succ])
      refine' wpAnyH_take (i := 11) ?_ ?_ ?_ ?_ ?_ ?_ ?_ ?_
      rotate_left 2
      · (simp only [List.getElem?_toArray, List.getElem?_cons_succ, List.getElem?_cons_zero]; rfl)
      · kernel_rfl
      · kernel_rfl
      · kernel_rfl
      · exact fun _ _ _ h => h
      · (refine Or.inl ⟨by rfl, ?_⟩; intro w_ hSw_; (try dsimp only at hSw_); go_simp; (try with_reducible rfl))
      · assumption
      (try simp only [Act.put, List.setIfInBounds_toArray, List.set_cons_zero, List.set_cons_succ])
      refine' wpAnyH_take (i := 12) ?_ ?_ ?_ ?_ ?_ ?_ ?_ ?_
      rotate_left 2
      · (simp only [List.getElem?_toArray, List.getElem?_cons_succ, List.getElem?_cons_zero]; rfl)
      · kernel_rfl
      · kernel_rfl
      · kernel_rfl
      · exact fun _ _ _ h => h
      · (refine Or.inl ⟨by rfl, ?_⟩; intro w_ hSw_; (try dsimp only at hSw_); go_simp; (try with_reducible rfl))
      · assumption
      (try simp only [Act.put, List.setIfInBounds_toArray, List.set_cons_zero, List.set_cons_succ])
      refine' wpAnyH_take (i := 13) ?_ ?_ ?_ ?_ ?_ ?_ ?_ ?_
      rotate_left 2
      · (simp only [List.getElem?_toArray, List.getElem?_cons_succ, List.getElem?_cons_zero]; rfl)
      · kernel_rfl
      · kernel_rfl
      · kernel_rfl
      · exact fun _ _ _ h => h
      · (refine Or.inl ⟨by rfl, ?_⟩; intro w_ hSw_; (try dsimp only at hSw_); go_simp; (try with_reducible rfl))
      · assumption
      (try simp only [Act.put, List.setIfInBounds_toArray, List.set_cons_zero, List.set_cons_succ])
      refine' wpAnyH_take (i := 14) ?_ ?_ ?_ ?_ ?_ ?_ ?_ ?_
      rotate_left 2
      · (simp only [List.getElem?_toArray, List.getElem?_cons_succ, List.getElem?_cons_zero]; rfl)
      · kernel_rfl
      · kernel_rfl
      · kernel_rfl
      · exact fun _ _ _ h => h
      · (refine Or.inl ⟨by rfl, ?_⟩; intro w_ hSw_; (try dsimp only at hSw_); go_simp; (try with_reducible rfl))
      · assumption
      (try simp only [Act.put, List.setIfInBounds_toArray, List.set_cons_zero, List.set_cons_succ])
      refine' wpAnyH_take (i := 15) ?_ ?_ ?_ ?_ ?_ ?_ ?_ ?_
      rotate_left 2
      · (simp only [List.getElem?_toArray, List.getElem?_cons_succ, List.getElem?_cons_zero]; rfl)
      · kernel_rfl
      · kernel_rfl
      · kernel_rfl
      · exact fun _ _ _ h => h
      · (refine Or.inl ⟨by rfl, ?_⟩; intro w_ hSw_; (try dsimp only at hSw_); go_simp; (try with_reducible rfl))
      · assumption
      (try simp only [Act.put, List.setIfInBounds_toArray, List.set_cons_zero, List.set_cons_succ])
      refine' wpAnyH_take (i := 16) ?_ ?_ ?_ ?_ ?_ ?_ ?_ ?_
      rotate_left 2
      · (simp only [List.getElem?_toArray, List.getElem?_cons_succ, List.getElem?_cons_zero]; rfl)
      · kernel_rfl
      · kernel_rfl
      · kernel_rfl
      · exact fun _ _ _ h => h
      · (refine Or.inl ⟨by rfl, ?_⟩; intro w_ hSw_; (try dsimp only at hSw_); go_simp; (try with_reducible rfl))
      · assumption
      (try simp only [Act.put, List.setIfInBounds_toArray, List.set_cons_zero, List.set_cons_succ])
      refine' wpAnyH_take (i := 17) ?_ ?_ ?_ ?_ ?_ ?_ ?_ ?_
      rotate_left 2
      · (simp only [List.getElem?_toArray, List.getElem?_cons_succ, List.getElem?_cons_zero]; rfl)
      · kernel_rfl
      · kernel_rfl
      · kernel_rfl
      · exact fun _ _ _ h => h
      · (refine Or.inl ⟨by rfl, ?_⟩; intro w_ hSw_; (try dsimp only at hSw_); go_simp; (try with_reducible rfl))
      · assumption
      (try simp only [Act.put, List.setIfInBounds_toArray, List.set_cons_zero, List.set_cons_succ])
      refine' wpAnyH_take (i := 18) (v := undef) ?_ ?_ ?_ ?_ ?_ ?_ ?_ ?_
      rotate_left 1
      · (simp only [List.getElem?_toArray, List.getElem?_cons_succ, List.getElem?_cons_zero]; rfl)
      · kernel_rfl
      · kernel_rfl
      · kernel_rfl
      · exact fun _ _ _ h => h
      · exact Or.inr ⟨by rfl, rfl⟩
      · assumption
      (try simp only [Act.put, List.setIfInBounds_toArray, List.set_cons_zero, List.set_cons_succ])
      refine' wpAnyH_take (i := 19) (v := undef) ?_ ?_ ?_ ?_ ?_ ?_ ?_ ?_
      rotate_left 1
      · (simp only [List.getElem?_toArray, List.getElem?_cons_succ, List.getElem?_cons_zero]; rfl)
      · kernel_rfl
      · kernel_rfl
      · kernel_rfl
      · exact fun _ _ _ h => h
      · exact Or.inr ⟨by rfl, rfl⟩
      · assumption
      (try simp only [Act.put, List.setIfInBounds_toArray, List.set_cons_zero, List.set_cons_succ])
      refine' wpAnyH_take (i := 20) (v := undef) ?_ ?_ ?_ ?_ ?_ ?_ ?_ ?_
      rotate_left 1
      · (simp only [List.getElem?_toArray, List.getElem?_cons_succ, List.getElem?_cons_zero]; rfl)
      · kernel_rfl
      · kernel_rfl
      · kernel_rfl
      · exact fun _ _ _ h => h
      · exact Or.inr ⟨by rfl, rfl⟩
      · assumption
      (try simp only [Act.put, List.setIfInBounds_toArray, List.set_cons_zero, List.set_cons_succ])
      refine' wpAnyH_take (i := 21) (v := undef) ?_ ?_ ?_ ?_ ?_ ?_ ?_ ?_
      rotate_left 1
      · (simp only [List.getElem?_toArray, List.getElem?_cons_succ, List.getElem?_cons_zero]; rfl)
      · kernel_rfl
      · kernel_rfl
      · kernel_rfl
      · exact fun _ _ _ h => h
      · exact Or.inr ⟨by rfl, rfl⟩
      · assumption
      (try simp only [Act.put, List.setIfInBounds_toArray, List.set_cons_zero, List.set_cons_succ])
      refine' wpAnyH_take (i := 22) (v := undef) ?_ ?_ ?_ ?_ ?_ ?_ ?_ ?_
      rotate_left 1
      · (simp only [List.getElem?_toArray, List.getElem?_cons_succ, List.getElem?_cons_zero]; rfl)
      · kernel_rfl
      · kernel_rfl
      · kernel_rfl
      · exact fun _ _ _ h => h
      · exact Or.inr ⟨by rfl, rfl⟩
      · assumption
      (try simp only [Act.put, List.setIfInBounds_toArray, List.set_cons_zero, List.set_cons_succ])
      refine' wpAnyH_take (i := 23) ?_ ?_ ?_ ?_ ?_ ?_ ?_ ?_
      rotate_left 2
      · (simp only [List.getElem?_toArray, List.getElem?_cons_succ, List.getElem?_cons_zero]; rfl)
      · kernel_rfl
      · kernel_rfl
      · kernel_rfl
      · exact fun _ _ _ h => h
      · (refine Or.inl ⟨by rfl, ?_⟩; intro w_ hSw_; (try dsimp only at hSw_); go_simp; (try with_reducible rfl))
      · assumption
      (try simp only [Act.put, List.setIfInBounds_toArray, List.set_cons_zero, List.set_cons_succ])
      refine' wpAnyH_take (i := 24) ?_ ?_ ?_ ?_ ?_ ?_ ?_ ?_
      rotate_left 2
      · (simp only [List.getElem?_toArray, List.getElem?_cons_succ, List.getElem?_cons_zero]; rfl)
      · kernel_rfl
      · kernel_rfl
      · kernel_rfl
      · exact fun _ _ _ h => h
      · (refine Or.inl ⟨by rfl, ?_⟩; intro w_ hSw_; (try dsimp only at hSw_); go_simp; (try with_reducible rfl))
      · assumption
      (try simp only [Act.put, List.setIfInBounds_toArray, List.set_cons_zero, List.set_cons_succ])
      refine' wpAnyH_take (i := 25) ?_ ?_ ?_ ?_ ?_ ?_ ?_ ?_
      rotate_left 2
      · (simp only [List.getElem?_toArray, List.getElem?_cons_succ, List.getElem?_cons_zero]; rfl)
      · kernel_rfl
      · kernel_rfl
      · kernel_rfl
      · exact fun _ _ _ h => h
      · (refine Or.inl ⟨by rfl, ?_⟩; intro w_ hSw_; (try dsimp only at hSw_); go_simp; (try with_reducible rfl))
      · assumption
      (try simp only [Act.put, List.setIfInBounds_toArray, List.set_cons_zero, List.set_cons_succ])
      refine' wpAnyH_take (i := 26) ?_ ?_ ?_ ?_ ?_ ?_ ?_ ?_
      rotate_left 2
      · (simp only [List.getElem?_toArray, List.getElem?_cons_succ, List.getElem?_cons_zero]; rfl)
      · kernel_rfl
      · kernel_rfl
      · kernel_rfl
      · exact fun _ _ _ h => h
      · (refine Or.inl ⟨by rfl, ?_⟩; intro w_ hSw_; (try dsimp only at hSw_); go_simp; (try with_reducible rfl))
      · assumption
      (try simp only [Act.put, List.setIfInBounds_toArray, List.set_cons_zero, List.set_cons_succ])
      refine' wpAnyH_take (i := 28) ?_ ?_ ?_ ?_ ?_ ?_ ?_ ?_
      rotate_left 2
      · (simp only [List.getElem?_toArray, List.getElem?_cons_succ, List.getElem?_cons_zero]; rfl)
      · kernel_rfl
      · kernel_rfl
      · kernel_rfl
      · exact fun _ _ _ h => h
      · (refine Or.inl ⟨by rfl, ?_⟩; intro w_ hSw_; (try dsimp only at hSw_); go_simp; (try with_reducible rfl))
      · assumption
      (try simp only [Act.put, List.setIfInBounds_toArray, List.set_cons_zero, List.set_cons_succ])
      refine wpAnyH_ready (rs := [27]) (by kernel_rfl) (by simp) ?_
      refine' AllReadyH.cons (o := _) (by simp only [List.getElem?_toArray, List.getElem?_cons_succ, List.getElem?_cons_zero]; rfl) (fun K hK => ?_) AllReadyH.nil
      go_simp
      (go_at_call 50; (with_reducible refine (HM1.out _ _ _ (mr.below (by repeat' (first | with_reducible assumption | exact Below.refl _ _ | (refine Below.alloc ?_ (by first | omega | (simp only [World.size_alloc, World.size_setCell, World.size_drew]; done) | (simp only [World.size_alloc, World.size_setCell, World.size_drew]; omega)) _) | (refine Below.drew ?_) | (refine below_drewN ?_ _) | (refine Below.setCell ?_ (by first | omega | (simp only [World.size_alloc, World.size_setCell, World.size_drew]; done) | (simp only [World.size_alloc, World.size_setCell, World.size_drew]; omega)) _))))).mono ?_); rintro e y2 ⟨R3, c3, rfl, m3, hq_⟩; have qy2 : Below u9.heap.size u9 y2 := bel_step (by repeat' (first | with_reducible assumption | exact Below.refl _ _ | (refine Below.alloc ?_ (by first | omega | (simp only [World.size_alloc, World.size_setCell, World.size_drew]; done) | (simp only [World.size_alloc, World.size_setCell, World.size_drew]; omega)) _) | (refine Below.drew ?_) | (refine below_drewN ?_ _) | (refine Below.setCell ?_ (by first | omega | (simp only [World.size_alloc, World.size_setCell, World.size_drew]; done) | (simp only [World.size_alloc, World.size_setCell, World.size_drew]; omega)) _))) hq_)
      (try go_wp2_with fail)
      refine hK.out _ _ ?_ (fun hHeld => ?_)
      · (first | ((try dsimp only); repeat' (first | with_reducible assumption | apply And.intro | (with_reducible refine keep_cell (W := u9) ?_ ?_) | exact (Below.refl _ _).drew | fail)))
      clear hK K
      (try simp only [Act.put, List.setIfInBounds_toArray, List.set_cons_zero, List.set_cons_succ])
      refine wpAnyH_ready (rs := [29]) (by kernel_rfl) (by simp) ?_
      refine' AllReadyH.cons (o := _) (by simp only [List.getElem?_toArray, List.getElem?_cons_succ, List.getElem?_cons_zero]; rfl) (fun K hK => ?_) AllReadyH.nil
      go_simp
      (go_at_call 50; (with_reducible refine (HM2.out _ (mb.below (by repeat' (first | with_reducible assumption | exact Below.refl _ _ | (refine Below.alloc ?_ (by first | omega | (simp only [World.size_alloc, World.size_setCell, World.size_drew]; done) | (simp only [World.size_alloc, World.size_setCell, World.size_drew]; omega)) _) | (refine Below.drew ?_) | (refine below_drewN ?_ _) | (refine Below.setCell ?_ (by first | omega | (simp only [World.size_alloc, World.size_setCell, World.size_drew]; done) | (simp only [World.size_alloc, World.size_setCell, World.size_drew]; omega)) _))))).mono ?_); rintro e y3 ⟨R4, c4, rfl, m4, hq_⟩; have qy3 : Below u9.heap.size u9 y3 := bel_step (by repeat' (first | with_reducible assumption | exact Below.refl _ _ | (refine Below.alloc ?_ (by first | omega | (simp only [World.size_alloc, World.size_setCell, World.size_drew]; done) | (simp only [World.size_alloc, World.size_setCell, World.size_drew]; omega)) _) | (refine Below.drew ?_) | (refine below_drewN ?_ _) | (refine Below.setCell ?_ (by first | omega | (simp only [World.size_alloc, World.size_setCell, World.size_drew]; done) | (simp only [World.size_alloc, World.size_setCell, World.size_drew]; omega)) _))) hq_)
      (try go_wp2_with fail)
      refine hK.out _ _ ?_ (fun hHeld => ?_)
      · (first | ((try dsimp only); repeat' (first | with_reducible assumption | apply And.intro | (with_reducible refine keep_cell (W := u9) ?_ ?_) | exact (Below.refl _ _).drew | fail)))
      clear hK K
      (try simp only [Act.put, List.setIfInBounds_toArray, List.set_cons_zero, List.set_cons_succ])
      refine wpAnyH_ready (rs := [30]) (by kernel_rfl) (by simp) ?_
      refine' AllReadyH.cons (o := _) (by simp only [List.getElem?_toArray, List.getElem?_cons_succ, List.getElem?_cons_zero]; rfl) (fun K hK => ?_) AllReadyH.nil
      go_simp
      (go_at_call 44; (with_reducible refine (HC.out _ _ _ _ _ (m3.below (by repeat' (first | with_reducible assumption | exact Below.refl _ _ | (refine Below.alloc ?_ (by first | omega | (simp only [World.size_alloc, World.size_setCell, World.size_drew]; done) | (simp only [World.size_alloc, World.size_setCell, World.size_drew]; omega)) _) | (refine Below.drew ?_) | (refine below_drewN ?_ _) | (refine Below.setCell ?_ (by first | omega | (simp only [World.size_alloc, World.size_setCell, World.size_drew]; done) | (simp only [World.size_alloc, World.size_setCell, World.size_drew]; omega)) _)))) m4).mono ?_); rintro e y4 ⟨rfl, hq_⟩; have qy4 : Below u9.heap.size u9 y4 := bel_step (by repeat' (first | with_reducible assumption | exact Below.refl _ _ | (refine Below.alloc ?_ (by first | omega | (simp only [World.size_alloc, World.size_setCell, World.size_drew]; done) | (simp only [World.size_alloc, World.size_setCell, World.size_drew]; omega)) _) | (refine Below.drew ?_) | (refine below_drewN ?_ _) | (refine Below.setCell ?_ (by first | omega | (simp only [World.size_alloc, World.size_setCell, World.size_drew]; done) | (simp only [World.size_alloc, World.size_setCell, World.size_drew]; omega)) _))) hq_)
      (try go_wp2_with fail)
      refine hK.out _ _ ?_ (fun hHeld => ?_)
      · (first | ((try dsimp only); repeat' (first | with_reducible assumption | apply And.intro | (with_reducible refine keep_cell (W := u9) ?_ ?_) | exact (Below.refl _ _).drew | fail)))
      clear hK K
      (try simp only [Act.put, List.setIfInBounds_toArray, List.set_cons_zero, List.set_cons_succ])
      refine' wpAnyH_take (i := 31) ?_ ?_ ?_ ?_ ?_ ?_ ?_ ?_
      rotate_left 2
      · (simp only [List.getElem?_toArray, List.getElem?_cons_succ, List.getElem?_cons_zero]; rfl)
      · kernel_rfl
      · kernel_rfl
      · kernel_rfl
      · exact fun _ _ _ h => h
      · (refine Or.inl ⟨by rfl, ?_⟩; intro w_ hSw_; (try dsimp only at hSw_); go_simp; (try with_reducible rfl))
      · assumption
      (try simp only [Act.put, List.setIfInBounds_toArray, List.set_cons_zero, List.set_cons_succ])
      refine' wpAnyH_take (i := 32) ?_ ?_ ?_ ?_ ?_ ?_ ?_ ?_
      rotate_left 2
      · (simp only [List.getElem?_toArray, List.getElem?_cons_succ, List.getElem?_cons_zero]; rfl)
      · kernel_rfl
      · kernel_rfl
      · kernel_rfl
      · exact fun _ _ _ h => h
      · (refine Or.inl ⟨by rfl, ?_⟩; intro w_ hSw_; (try dsimp only at hSw_); go_simp; (try with_reducible rfl))
      · assumption
      (try simp only [Act.put, List.setIfInBounds_toArray, List.set_cons_zero, List.set_cons_succ])
      refine wpAnyH_done (by kernel_rfl) ?_ _
      go_wp2_with fail
      go_meet
      exact ⟨rfl, qy4⟩
    · have hbb : bR = by_ := by rw [IR.out.hb, Iy.hb]; exact HX.out.2.2.2 hr0
      subst hbb
      have hn0 : nR ≠ 0 := fun h => hr0 (IR.out.zero.1 h)
      have hn1 : (0 : Int) < (nR : Int) := by omega
      have hn2 : 0 < nR := by omega
      clear hr0
      refine wp_region_held_drew (S := fun w' => (w'.cell? ⟨w9.heap.size, 0, none⟩ = some (.bool false) ∧ w'.cell? ⟨w9.heap.size, 1, none⟩ = some (.slice Ru nG cu)) ∧ (w'.cell? ⟨w3.heap.size, 0, none⟩ = some (.bool false) ∧ w'.cell? ⟨w3.heap.size, 1, none⟩ = some (.slice Rg nG cg)) ∧ (w'.cell? ⟨w8.heap.size + 1, 0, none⟩ = some (.bool bR) ∧ w'.cell? ⟨w8.heap.size + 1, 1, none⟩ = some (.slice Rr nR cr)) ∧ (w'.cell? ⟨w.heap.size + 1, 0, none⟩ = some (.bool bR) ∧ w'.cell? ⟨w.heap.size + 1, 1, none⟩ = some (.slice B ny cb))) (by kernel_rfl) ?_ (fun hHeld => ?_)
      · exact ⟨⟨u0, u1⟩, ⟨g0, g1⟩, ⟨r0, r1⟩, ⟨f3, f4⟩⟩
      refine' wpAnyH_take (i := 0) ?_ ?_ ?_ ?_ ?_ ?_ ?_ ?_
      rotate_left 2
      · (simp only [List.getElem?_toArray, List.getElem?_cons_succ, List.getElem?_cons_zero]; rfl)
      · kernel_rfl
      · kernel_rfl
      · kernel_rfl
      · exact fun _ _ _ h => h
      · (refine Or.inl ⟨by rfl, ?_⟩; intro w_ hSw_; (try dsimp only at hSw_); go_simp; (try with_reducible rfl))
      · assumption
      (try simp only [Act.put, List.setIfInBounds_toArray, List.set_cons_zero, List.set_cons_succ])
      refine' wpAnyH_take (i := 1) ?_ ?_ ?_ ?_ ?_ ?_ ?_ ?_
      rotate_left 2
      · (simp only [List.getElem?_toArray, List.getElem?_cons_succ, List.getElem?_cons_zero]; rfl)
      · kernel_rfl
      · kernel_rfl
      · kernel_rfl
      · exact fun _ _ _ h => h
      · (refine Or.inl ⟨by rfl, ?_⟩; intro w_ hSw_; (try dsimp only at hSw_); go_simp; (try with_reducible rfl))
      · assumption
      (try simp only [Act.put, List.setIfInBounds_toArray, List.set_cons_zero, List.set_cons_succ])
      refine' wpAnyH_take (i := 2) ?_ ?_ ?_ ?_ ?_ ?_ ?_ ?_
      rotate_left 2
      · (simp only [List.getElem?_toArray, List.getElem?_cons_succ, List.getElem?_cons_zero]; rfl)
      · kernel_rfl
      · kernel_rfl
      · kernel_rfl
      · exact fun _ _ _ h => h
      · (refine Or.inl ⟨by rfl, ?_⟩; intro w_ hSw_; (try dsimp only at hSw_); go_simp; (try with_reducible rfl))
      · assumption
      (try simp only [Act.put, List.setIfInBounds_toArray, List.set_cons_zero, List.set_cons_succ])
      refine' wpAnyH_take (i := 3) ?_ ?_ ?_ ?_ ?_ ?_ ?_ ?_
      rotate_left 2
      · (simp only [List.getElem?_toArray, List.getElem?_cons_succ, List.getElem?_cons_zero]; rfl)
      · kernel_rfl
      · kernel_rfl
      · kernel_rfl
      · exact fun _ _ _ h => h
      · (refine Or.inl ⟨by rfl, ?_⟩; intro w_ hSw_; (try dsimp only at hSw_); go_simp; (try with_reducible rfl))
      · assumption
      (try simp only [Act.put, List.setIfInBounds_toArray, List.set_cons_zero, List.set_cons_succ])
      refine' wpAnyH_take (i := 4) ?_ ?_ ?_ ?_ ?_ ?_ ?_ ?_
      rotate_left 2
      · (simp only [List.getElem?_toArray, List.getElem?_cons_succ, List.getElem?_cons_zero]; rfl)
      · kernel_rfl
      · kernel_rfl
      · kernel_rfl
      · exact fun _ _ _ h => h
      · (refine Or.inl ⟨by rfl, ?_⟩; intro w_ hSw_; (try dsimp only at hSw_); go_simp; (try with_reducible rfl))
      · assumption
      (try simp only [Act.put, List.setIfInBounds_toArray, List.set_cons_zero, List.set_cons_succ])
      refine' wpAnyH_take (i := 5) ?_ ?_ ?_ ?_ ?_ ?_ ?_ ?_
      rotate_left 2
      · (simp only [List.getElem?_toArray, List.getElem?_cons_succ, List.getElem?_cons_zero]; rfl)
      · kernel_rfl
      · kernel_rfl
      · kernel_rfl
      · exact fun _ _ _ h => h
      · (refine Or.inl ⟨by rfl, ?_⟩; intro w_ hSw_; (try dsimp only at hSw_); go_simp; (try with_reducible rfl))
      · assumption
      (try simp only [Act.put, List.setIfInBounds_toArray, List.set_cons_zero, List.set_cons_succ])
      refine' wpAnyH_take (i := 6) ?_ ?_ ?_ ?_ ?_ ?_ ?_ ?_
      rotate_left 2
      · (simp only [List.getElem?_toArray, List.getElem?_cons_succ, List.getElem?_cons_zero]; rfl)
      · kernel_rfl
      · kernel_rfl
      · kernel_rfl
      · exact fun _ _ _ h => h
      · (refine Or.inl ⟨by rfl, ?_⟩; intro w_ hSw_; (try dsimp only at hSw_); go_simp; (try with_reducible rfl))
      · assumption
      (try simp only [Act.put, List.setIfInBounds_toArray, List.set_cons_zero, List.set_cons_succ])
      refine' wpAnyH_take (i := 7) ?_ ?_ ?_ ?_ ?_ ?_ ?_ ?_
      rotate_left 2
      · (simp only [List.getElem?_toArray, List.getElem?_cons_succ, List.getElem?_cons_zero]; rfl)
      · kernel_rfl
      · kernel_rfl
      · kernel_rfl
      · exact fun _ _ _ h => h
      · (refine Or.inl ⟨by rfl, ?_⟩; intro w_ hSw_; (try dsimp only at hSw_); go_simp; (try with_reducible rfl))
      · assumption
      (try simp only [Act.put, List.setIfInBounds_toArray, List.set_cons_zero, List.set_cons_succ])
      refine' wpAnyH_take (i := 8) ?_ ?_ ?_ ?_ ?_ ?_ ?_ ?_
      rotate_left 2
      · (simp only [List.getElem?_toArray, List.getElem?_cons_succ, List.getElem?_cons_zero]; rfl)
      · kernel_rfl
      · kernel_rfl
      · kernel_rfl
      · exact fun _ _ _ h => h
      · (refine Or.inl ⟨by rfl, ?_⟩; intro w_ hSw_; (try dsimp only at hSw_); go_simp; (try with_reducible rfl))
      · assumption
      (try simp only [Act.put, List.setIfInBounds_toArray, List.set_cons_zero, List.set_cons_succ])
      refine wpAnyH_ready (rs := [9]) (by kernel_rfl) (by simp) ?_
      refine' AllReadyH.cons (o := _) (by simp only [List.getElem?_toArray, List.getElem?_cons_succ, List.getElem?_cons_zero]; rfl) (fun K hK => ?_) AllReadyH.nil
      go_simp
      (go_at_call 19; (with_reducible refine (HS.out _ _ _ _ _ (mu.below (by repeat' (first | with_reducible assumption | exact Below.refl _ _ | (refine Below.alloc ?_ (by first | omega | (simp only [World.size_alloc, World.size_setCell, World.size_drew]; done) | (simp only [World.size_alloc, World.size_setCell, World.size_drew]; omega)) _) | (refine Below.drew ?_) | (refine below_drewN ?_ _) | (refine Below.setCell ?_ (by first | omega | (simp only [World.size_alloc, World.size_setCell, World.size_drew]; done) | (simp only [World.size_alloc, World.size_setCell, World.size_drew]; omega)) _)))) (mg.below (by repeat' (first | with_reducible assumption | exact Below.refl _ _ | (refine Below.alloc ?_ (by first | omega | (simp only [World.size_alloc, World.size_setCell, World.size_drew]; done) | (simp only [World.size_alloc, World.size_setCell, World.size_drew]; omega)) _) | (refine Below.drew ?_) | (refine below_drewN ?_ _) | (refine Below.setCell ?_ (by first | omega | (simp only [World.size_alloc, World.size_setCell, World.size_drew]; done) | (simp only [World.size_alloc, World.size_setCell, World.size_drew]; omega)) _))))).mono ?_); rintro e y1 ⟨rfl, hq_⟩; have qy1 : Below u9.heap.size u9 y1 := bel_step (by repeat' (first | with_reducible assumption | exact Below.refl _ _ | (refine Below.alloc ?_ (by first | omega | (simp only [World.size_alloc, World.size_setCell, World.size_drew]; done) | (simp only [World.size_alloc, World.size_setCell, World.size_drew]; omega)) _) | (refine Below.drew ?_) | (refine below_drewN ?_ _) | (refine Below.setCell ?_ (by first | omega | (simp only [World.size_alloc, World.size_setCell, World.size_drew]; done) | (simp only [World.size_alloc, World.size_setCell, World.size_drew]; omega)) _))) hq_)
      (try go_wp2_with fail)
      refine hK.out _ _ ?_ (fun hHeld => ?_)
      · (first | ((try dsimp only); repeat' (first | with_reducible assumption | apply And.intro | (with_reducible refine keep_cell (W := u9) ?_ ?_) | exact (Below.refl _ _).drew | fail)))
      clear hK K
      (try simp only [Act.put, List.setIfInBounds_toArray, List.set_cons_zero, List.set_cons_succ])
      refine' wpAnyH_take (i := 10) ?_ ?_ ?_ ?_ ?_ ?_ ?_ ?_
      rotate_left 2
      · (simp only [List.getElem?_toArray, List.getElem?_cons_succ, List.getElem?_cons_zero]; rfl)
      · kernel_rfl
      · kernel_rfl
      · kernel_rfl
      · exact fun _ _ _ h => h
      · (refine Or.inl ⟨by rfl, ?_⟩; intro w_ hSw_; (try dsimp only at hSw_); go_simp; (try with_reducible rfl))
      · assumption
      (try simp only [Act.put, List.setIfInBounds_toArray, List.set_cons_zero, List.set_cons_succ])
      refine' wpAnyH_take (i := 11) ?_ ?_ ?_ ?_ ?_ ?_ ?_ ?_
      rotate_left 2
      · (simp only [List.getElem?_toArray, List.getElem?_cons_succ, List.getElem?_cons_zero]; rfl)
      · kernel_rfl
      · kernel_rfl
      · kernel_rfl
      · exact fun _ _ _ h => h
      · (refine Or.inl ⟨by rfl, ?_⟩; intro w_ hSw_; (try dsimp only at hSw_); go_simp; (try with_reducible rfl))
      · assumption
      (try simp only [Act.put, List.setIfInBounds_toArray, List.set_cons_zero, List.set_cons_succ])
      refine' wpAnyH_take (i := 12) ?_ ?_ ?_ ?_ ?_ ?_ ?_ ?_
      rotate_left 2
      · (simp only [List.getElem?_toArray, List.getElem?_cons_succ, List.getElem?_cons_zero]; rfl)
      · kernel_rfl
      · kernel_rfl
      · kernel_rfl
      · exact fun _ _ _ h => h
      · (refine Or.inl ⟨by rfl, ?_⟩; intro w_ hSw_; (try dsimp only at hSw_); go_simp; (try with_reducible rfl))
      · assumption
      (try simp only [Act.put, List.setIfInBounds_toArray, List.set_cons_zero, List.set_cons_succ])
      refine' wpAnyH_take (i := 13) ?_ ?_ ?_ ?_ ?_ ?_ ?_ ?_
      rotate_left 2
      · (simp only [List.getElem?_toArray, List.getElem?_cons_succ, List.getElem?_cons_zero]; rfl)
      · kernel_rfl
      · kernel_rfl
      · kernel_rfl
      · exact fun _ _ _ h => h
      · (refine Or.inl ⟨by rfl, ?_⟩; intro w_ hSw_; (try dsimp only at hSw_); go_simp; (try with_reducible rfl))
      · assumption
      (try simp only [Act.put, List.setIfInBounds_toArray, List.set_cons_zero, List.set_cons_succ])
      refine' wpAnyH_take (i := 14) ?_ ?_ ?_ ?_ ?_ ?_ ?_ ?_
      rotate_left 2
      · (simp only [List.getElem?_toArray, List.getElem?_cons_succ, List.getElem?_cons_zero]; rfl)
      · kernel_rfl
      · kernel_rfl
      · kernel_rfl
      · exact fun _ _ _ h => h
      · (refine Or.inl ⟨by rfl, ?_⟩; intro w_ hSw_; (try dsimp only at hSw_); go_simp; (try with_reducible rfl))
      · assumption
      (try simp only [Act.put, List.setIfInBounds_toArray, List.set_cons_zero, List.set_cons_succ])
      refine' wpAnyH_take (i := 15) ?_ ?_ ?_ ?_ ?_ ?_ ?_ ?_
      rotate_left 2
      · (simp only [List.getElem?_toArray, List.getElem?_cons_succ, List.getElem?_cons_zero]; rfl)
      · kernel_rfl
      · kernel_rfl
      · kernel_rfl
      · exact fun _ _ _ h => h
      · (refine Or.inl ⟨by rfl, ?_⟩; intro w_ hSw_; (try dsimp only at hSw_); go_simp; (try with_reducible rfl))
      · assumption
      (try simp only [Act.put, List.setIfInBounds_toArray, List.set_cons_zero, List.set_cons_succ])
      refine' wpAnyH_take (i := 16) ?_ ?_ ?_ ?_ ?_ ?_ ?_ ?_
      rotate_left 2
      · (simp only [List.getElem?_toArray, List.getElem?_cons_succ, List.getElem?_cons_zero]; rfl)
      · kernel_rfl
      · kernel_rfl
      · kernel_rfl
      · exact fun _ _ _ h => h
      · (refine Or.inl ⟨by rfl, ?_⟩; intro w_ hSw_; (try dsimp only at hSw_); go_simp; (try with_reducible rfl))
      · assumption
      (try simp only [Act.put, List.setIfInBounds_toArray, List.set_cons_zero, List.set_cons_succ])
      refine' wpAnyH_take (i := 17) ?_ ?_ ?_ ?_ ?_ ?_ ?_ ?_
      rotate_left 2
      · (simp only [List.getElem?_toArray, List.getElem?_cons_succ, List.getElem?_cons_zero]; rfl)
      · kernel_rfl
      · kernel_rfl
      · kernel_rfl
      · exact fun _ _ _ h => h
      · (refine Or.inl ⟨by rfl, ?_⟩; intro w_ hSw_; (try dsimp only at hSw_); go_simp; (try with_reducible rfl))
      · assumption
      (try simp only [Act.put, List.setIfInBounds_toArray, List.set_cons_zero, List.set_cons_succ])
      refine' wpAnyH_take (i := 18) ?_ ?_ ?_ ?_ ?_ ?_ ?_ ?_
      rotate_left 2
      · (simp only [List.getElem?_toArray, List.getElem?_cons_succ, List.getElem?_cons_zero]; rfl)
      · kernel_rfl
      · kernel_rfl
      · kernel_rfl
      · exact fun _ _ _ h => h
      · (refine Or.inl ⟨by rfl, ?_⟩; intro w_ hSw_; (try dsimp only at hSw_); go_simp; (try with_reducible rfl))
      · assumption
      (try simp only [Act.put, List.setIfInBounds_toArray, List.set_cons_zero, List.set_cons_succ])
      refine' wpAnyH_take (i := 19) ?_ ?_ ?_ ?_ ?_ ?_ ?_ ?_
      rotate_left 2
      · (simp only [List.getElem?_toArray, List.getElem?_cons_succ, List.getElem?_cons_zero]; rfl)
      · kernel_rfl
      · kernel_rfl
      · kernel_rfl
      · exact fun _ _ _ h => h
      · (refine Or.inl ⟨by rfl, ?_⟩; intro w_ hSw_; (try dsimp only at hSw_); go_simp; (try with_reducible rfl))
      · assumption
      (try simp only [Act.put, List.setIfInBounds_toArray, List.set_cons_zero, List.set_cons_succ])
      refine' wpAnyH_take (i := 20) ?_ ?_ ?_ ?_ ?_ ?_ ?_ ?_
      rotate_left 2
      · (simp only [List.getElem?_toArray, List.getElem?_cons_succ, List.getElem?_cons_zero]; rfl)
      · kernel_rfl
      · kernel_rfl
      · kernel_rfl
      · exact fun _ _ _ h => h
      · (refine Or.inl ⟨by rfl, ?_⟩; intro w_ hSw_; (try dsimp only at hSw_); go_simp; (try with_reducible rfl))
      · assumption
      (try simp only [Act.put, List.setIfInBounds_toArray, List.set_cons_zero, List.set_cons_succ])
      refine' wpAnyH_take (i := 21) ?_ ?_ ?_ ?_ ?_ ?_ ?_ ?_
      rotate_left 2
      · (simp only [List.getElem?_toArray, List.getElem?_cons_succ, List.getElem?_cons_zero]; rfl)
      · kernel_rfl
      · kernel_rfl
      · kernel_rfl
      · exact fun _ _ _ h => h
      · (refine Or.inl ⟨by rfl, ?_⟩; intro w_ hSw_; (try dsimp only at hSw_); go_simp; (try with_reducible rfl))
      · assumption
      (try simp only [Act.put, List.setIfInBounds_toArray, List.set_cons_zero, List.set_cons_succ])
      refine' wpAnyH_take (i := 22) ?_ ?_ ?_ ?_ ?_ ?_ ?_ ?_
      rotate_left 2
      · (simp only [List.getElem?_toArray, List.getElem?_cons_succ, List.getElem?_cons_zero]; rfl)
      · kernel_rfl
      · kernel_rfl
      · kernel_rfl
      · exact fun _ _ _ h => h
      · (refine Or.inl ⟨by rfl, ?_⟩; intro w_ hSw_; (try dsimp only at hSw_); go_simp; (try with_reducible rfl))
      · assumption
      (try simp only [Act.put, List.setIfInBounds_toArray, List.set_cons_zero, List.set_cons_succ])
      refine' wpAnyH_take (i := 23) ?_ ?_ ?_ ?_ ?_ ?_ ?_ ?_
      rotate_left 2
      · (simp only [List.getElem?_toArray, List.getElem?_cons_succ, List.getElem?_cons_zero]; rfl)
      · kernel_rfl
      · kernel_rfl
      · kernel_rfl
      · exact fun _ _ _ h => h
      · (refine Or.inl ⟨by rfl, ?_⟩; intro w_ hSw_; (try dsimp only at hSw_); go_simp; (try with_reducible rfl))
      · assumption
      (try simp only [Act.put, List.setIfInBounds_toArray, List.set_cons_zero, List.set_cons_succ])
      refine' wpAnyH_take (i := 24) ?_ ?_ ?_ ?_ ?_ ?_ ?_ ?_
      rotate_left 2
      · (simp only [List.getElem?_toArray, List.getElem?_cons_succ, List.getElem?_cons_zero]; rfl)
      · kernel_rfl
      · kernel_rfl
      · kernel_rfl
      · exact fun _ _ _ h => h
      · (refine Or.inl ⟨by rfl, ?_⟩; intro w_ hSw_; (try dsimp only at hSw_); go_simp; (try with_reducible rfl))
      · assumption
      (try simp only [Act.put, List.setIfInBounds_toArray, List.set_cons_zero, List.set_cons_succ])
      refine' wpAnyH_take (i := 25) ?_ ?_ ?_ ?_ ?_ ?_ ?_ ?_
      rotate_left 2
      · (simp only [List.getElem?_toArray, List.getElem?_cons_succ, List.getElem?_cons_zero]; rfl)
      · kernel_rfl
      · kernel_rfl
      · kernel_rfl
      · exact fun _ _ _ h => h
      · (refine Or.inl ⟨by rfl, ?_⟩; intro w_ hSw_; (try dsimp only at hSw_); go_simp; (try with_reducible rfl))
      · assumption
      (try simp only [Act.put, List.setIfInBounds_toArray, List.set_cons_zero, List.set_cons_succ])
      refine' wpAnyH_take (i := 26) ?_ ?_ ?_ ?_ ?_ ?_ ?_ ?_
      rotate_left 2
      · (simp only [List.getElem?_toArray, List.getElem?_cons_succ, List.getElem?_cons_zero]; rfl)
      · kernel_rfl
      · kernel_rfl
      · kernel_rfl
      · exact fun _ _ _ h => h
      · (refine Or.inl ⟨by rfl, ?_⟩; intro w_ hSw_; (try dsimp only at hSw_); go_simp; (try with_reducible rfl))
      · assumption
      (try simp only [Act.put, List.setIfInBounds_toArray, List.set_cons_zero, List.set_cons_succ])
      refine' wpAnyH_take (i := 28) ?_ ?_ ?_ ?_ ?_ ?_ ?_ ?_
      rotate_left 2
      · (simp only [List.getElem?_toArray, List.getElem?_cons_succ, List.getElem?_cons_zero]; rfl)
      · kernel_rfl
      · kernel_rfl
      · kernel_rfl
      · exact fun _ _ _ h => h
      · (refine Or.inl ⟨by rfl, ?_⟩; intro w_ hSw_; (try dsimp only at hSw_); go_simp; (try with_reducible rfl))
      · assumption
      (try simp only [Act.put, List.setIfInBounds_toArray, List.set_cons_zero, List.set_cons_succ])
      refine wpAnyH_ready (rs := [27]) (by kernel_rfl) (by simp) ?_
      refine' AllReadyH.cons (o := _) (by simp only [List.getElem?_toArray, List.getElem?_cons_succ, List.getElem?_cons_zero]; rfl) (fun K hK => ?_) AllReadyH.nil
      go_simp
      (go_at_call 50; (with_reducible refine (HM1.out _ _ _ (mr.below (by repeat' (first | with_reducible assumption | exact Below.refl _ _ | (refine Below.alloc ?_ (by first | omega | (simp only [World.size_alloc, World.size_setCell, World.size_drew]; done) | (simp only [World.size_alloc, World.size_setCell, World.size_drew]; omega)) _) | (refine Below.drew ?_) | (refine below_drewN ?_ _) | (refine Below.setCell ?_ (by first | omega | (simp only [World.size_alloc, World.size_setCell, World.size_drew]; done) | (simp only [World.size_alloc, World.size_setCell, World.size_drew]; omega)) _))))).mono ?_); rintro e y2 ⟨R3, c3, rfl, m3, hq_⟩; have qy2 : Below u9.heap.size u9 y2 := bel_step (by repeat' (first | with_reducible assumption | exact Below.refl _ _ | (refine Below.alloc ?_ (by first | omega | (simp only [World.size_alloc, World.size_setCell, World.size_drew]; done) | (simp only [World.size_alloc, World.size_setCell, World.size_drew]; omega)) _) | (refine Below.drew ?_) | (refine below_drewN ?_ _) | (refine Below.setCell ?_ (by first | omega | (simp only [World.size_alloc, World.size_setCell, World.size_drew]; done) | (simp only [World.size_alloc, World.size_setCell, World.size_drew]; omega)) _))) hq_)
      (try go_wp2_with fail)
      refine hK.out _ _ ?_ (fun hHeld => ?_)
      · (first | ((try dsimp only); repeat' (first | with_reducible assumption | apply And.intro | (with_reducible refine keep_cell (W := u9) ?_ ?_) | exact (Below.refl _ _).drew | fail)))
      clear hK K
      (try simp only [Act.put, List.setIfInBounds_toArray, List.set_cons_zero, List.set_cons_succ])
      refine wpAnyH_ready (rs := [29]) (by kernel_rfl) (by simp) ?_
      refine' AllReadyH.cons (o := _) (by simp only [List.getElem?_toArray, List.getElem?_cons_succ, List.getElem?_cons_zero]; rfl) (fun K hK => ?_) AllReadyH.nil
      go_simp
      (go_at_call 50; (with_reducible refine (HM2.out _ (mb.below (by repeat' (first | with_reducible assumption | exact Below.refl _ _ | (refine Below.alloc ?_ (by first | omega | (simp only [World.size_alloc, World.size_setCell, World.size_drew]; done) | (simp only [World.size_alloc, World.size_setCell, World.size_drew]; omega)) _) | (refine Below.drew ?_) | (refine below_drewN ?_ _) | (refine Below.setCell ?_ (by first | omega | (simp only [World.size_alloc, World.size_setCell, World.size_drew]; done) | (simp only [World.size_alloc, World.size_setCell, World.size_drew]; omega)) _))))).mono ?_); rintro e y3 ⟨R4, c4, rfl, m4, hq_⟩; have qy3 : Below u9.heap.size u9 y3 := bel_step (by repeat' (first | with_reducible assumption | exact Below.refl _ _ | (refine Below.alloc ?_ (by first | omega | (simp only [World.size_alloc, World.size_setCell, World.size_drew]; done) | (simp only [World.size_alloc, World.size_setCell, World.size_drew]; omega)) _) | (refine Below.drew ?_) | (refine below_drewN ?_ _) | (refine Below.setCell ?_ (by first | omega | (simp only [World.size_alloc, World.size_setCell, World.size_drew]; done) | (simp only [World.size_alloc, World.size_setCell, World.size_drew]; omega)) _))) hq_)
      (try go_wp2_with fail)
      refine hK.out _ _ ?_ (fun hHeld => ?_)
      · (first | ((try dsimp only); repeat' (first | with_reducible assumption | apply And.intro | (with_reducible refine keep_cell (W := u9) ?_ ?_) | exact (Below.refl _ _).drew | fail)))
      clear hK K
      (try simp only [Act.put, List.setIfInBounds_toArray, List.set_cons_zero, List.set_cons_succ])
      refine wpAnyH_ready (rs := [30]) (by kernel_rfl) (by simp) ?_
      refine' AllReadyH.cons (o := _) (by simp only [List.getElem?_toArray, List.getElem?_cons_succ, List.getElem?_cons_zero]; rfl) (fun K hK => ?_) AllReadyH.nil
      go_simp
      (go_at_call 44; (with_reducible refine (HC.out _ _ _ _ _ (m3.below (by repeat' (first | with_reducible assumption | exact Below.refl _ _ | (refine Below.alloc ?_ (by first | omega | (simp only [World.size_alloc, World.size_setCell, World.size_drew]; done) | (simp only [World.size_alloc, World.size_setCell, World.size_drew]; omega)) _) | (refine Below.drew ?_) | (refine below_drewN ?_ _) | (refine Below.setCell ?_ (by first | omega | (simp only [World.size_alloc, World.size_setCell, World.size_drew]; done) | (simp only [World.size_alloc, World.size_setCell, World.size_drew]; omega)) _)))) m4).mono ?_); rintro e y4 ⟨rfl, hq_⟩; have qy4 : Below u9.heap.size u9 y4 := bel_step (by repeat' (first | with_reducible assumption | exact Below.refl _ _ | (refine Below.alloc ?_ (by first | omega | (simp only [World.size_alloc, World.size_setCell, World.size_drew]; done) | (simp only [World.size_alloc, World.size_setCell, World.size_drew]; omega)) _) | (refine Below.drew ?_) | (refine below_drewN ?_ _) | (refine Below.setCell ?_ (by first | omega | (simp only [World.size_alloc, World.size_setCell, World.size_drew]; done) | (simp only [World.size_alloc, World.size_setCell, World.size_drew]; omega)) _))) hq_)
      (try go_wp2_with fail)
      refine hK.out _ _ ?_ (fun hHeld => ?_)
      · (first | ((try dsimp only); repeat' (first | with_reducible assumption | apply And.intro | (with_reducible refine keep_cell (W := u9) ?_ ?_) | exact (Below.refl _ _).drew | fail)))
      clear hK K
      (try simp only [Act.put, List.setIfInBounds_toArray, List.set_cons_zero, List.set_cons_succ])
      refine' wpAnyH_take (i := 31) ?_ ?_ ?_ ?_ ?_ ?_ ?_ ?_
      rotate_left 2
      · (simp only [List.getElem?_toArray, List.getElem?_cons_succ, List.getElem?_cons_zero]; rfl)
      · kernel_rfl
      · kernel_rfl
      · kernel_rfl
      · exact fun _ _ _ h => h
      · (refine Or.inl ⟨by rfl, ?_⟩; intro w_ hSw_; (try dsimp only at hSw_); go_simp; (try with_reducible rfl))
      · assumption
      (try simp only [Act.put, List.setIfInBounds_toArray, List.set_cons_zero, List.set_cons_succ])
      refine' wpAnyH_take (i := 32) ?_ ?_ ?_ ?_ ?_ ?_ ?_ ?_
      rotate_left 2
      · (simp only [List.getElem?_toArray, List.getElem?_cons_succ, List.getElem?_cons_zero]; rfl)
      · kernel_rfl
      · kernel_rfl
      · kernel_rfl
      · exact fun _ _ _ h => h
      · (refine Or.inl ⟨by rfl, ?_⟩; intro w_ hSw_; (try dsimp only at hSw_); go_simp; (try with_reducible rfl))
      · assumption
      (try simp only [Act.put, List.setIfInBounds_toArray, List.set_cons_zero, List.set_cons_succ])
      refine wpAnyH_done (by kernel_rfl) ?_ _
      go_wp2_with fail
      go_meet
      exact ⟨rfl, qy4⟩
  case rest =>
    obtain ⟨rfl, hx⟩ := hcut
    have ma := ma.below hx
    have mb := mb.below hx
    have mq := mq.below hx
    have mr := mr.below hx
    have f1 := keep_cell hx f1
    have f2 := keep_cell hx f2
    have f3 := keep_cell hx f3
    have f4 := keep_cell hx f4
    have q0 := keep_cell hx q0
    have q1 := keep_cell hx q1
    have r0 := keep_cell hx r0
    have r1 := keep_cell hx r1
    have HB := HB.trans (hx.mono HB.size)
    go_wp2_with fail
    refine (HP.out _ _ _ mq mb).mono ?_
    rintro e w10 ⟨Rp, cp, rfl, mp, h10⟩
    have hv_ : Below wc.heap.size wc w10 := Below.trans (b := _) (by repeat (first | assumption | exact Below.refl _ _ | refine Below.alloc ?_ (by simp; try omega) _ | refine Below.drew ?_ | refine below_drewN ?_ _)) (h10.mono (by simp; try omega))
    replace ma := ma.below hv_
    replace mr := mr.below hv_
    replace f1 := keep_cell hv_ f1
    replace f2 := keep_cell hv_ f2
    replace r0 := keep_cell hv_ r0
    replace r1 := keep_cell hv_ r1
    have lt_f1 := cell_lt f1
    have lt_f2 := cell_lt f2
    have lt_r0 := cell_lt r0
    have lt_r1 := cell_lt r1
    replace HB := HB.trans (hv_.mono HB.size)
    clear hv_
    rcases fitE_cases (Q * y) with ⟨hf, he⟩ | ⟨_, he⟩
    · have hp := HX.out.1
      rw [he, Prod.mk.injEq] at hp
      obtain ⟨hv, hz⟩ := hp
      have HA := hid fun (w1 : World) (m : Mg w1 Rp cp LP) (m' : Mg w1 Rr cr LR) => Add_g (w := w1) IP.out IR.out Ix (fitE_yes fx) m m' (by rw [← hv]; exact hf) HX.out.2.2.1 (by rw [← hv]; exact HX.out.2.1)
      subst hz
      clear hv he hf
      go_wp2_with fail
      have p0 := at_alloc0 (W := w10) (a := .bool bP) (b := .slice Rp nP cp) (t := 24) rfl
      have p1 := at_alloc1 (W := w10) (a := .bool bP) (b := .slice Rp nP cp) (t := 24) rfl
      have hv_ : Below w10.heap.size w10 (w10.alloc (.cells #[.bool bP, .slice Rp nP cp] 24)) := (Below.refl _ _).alloc (Nat.le_refl _) _
      generalize w10.alloc (.cells #[.bool bP, .slice Rp nP cp] 24) = u10 at *
      replace ma := ma.below hv_
      replace mr := mr.below hv_
      replace mp := mp.below hv_
      replace f1 := keep_cell hv_ f1
      replace f2 := keep_cell hv_ f2
      replace r0 := keep_cell hv_ r0
      replace r1 := keep_cell hv_ r1
      replace HB := HB.trans (hv_.mono HB.size)
      clear hv_
      refine (HA.out _ mp mr).mono ?_
      rintro e w11 ⟨Rs, cs, rfl, ms, h11⟩
      have hv_ : Below u10.heap.size u10 w11 := Below.trans (b := _) (by repeat (first | assumption | exact Below.refl _ _ | refine Below.alloc ?_ (by simp; try omega) _ | refine Below.drew ?_ | refine below_drewN ?_ _)) (h11.mono (by simp; try omega))
      replace ma := ma.below hv_
      replace f1 := keep_cell hv_ f1
      replace f2 := keep_cell hv_ f2
      have lt_f1 := cell_lt f1
      have lt_f2 := cell_lt f2
      replace HB := HB.trans (hv_.mono HB.size)
      clear hv_
      go_wp2_with fail
      have s0 := at_alloc0 (W := w11) (a := .bool bx) (b := .slice Rs nx cs) (t := 24) rfl
      have s1 := at_alloc1 (W := w11) (a := .bool bx) (b := .slice Rs nx cs) (t := 24) rfl
      have hv_ : Below w11.heap.size w11 (w11.alloc (.cells #[.bool bx, .slice Rs nx cs] 24)) := (Below.refl _ _).alloc (Nat.le_refl _) _
      generalize w11.alloc (.cells #[.bool bx, .slice Rs nx cs] 24) = u11 at *
      replace ma := ma.below hv_
      replace ms := ms.below hv_
      replace f1 := keep_cell hv_ f1
      replace f2 := keep_cell hv_ f2
      replace HB := HB.trans (hv_.mono HB.size)
      clear hv_
      refine (HSx.out _ _ _ ms ma).mono ?_
      rintro e w12 ⟨rfl, h12⟩
      have hv_ : Below u11.heap.size u11 w12 := Below.trans (b := _) (by repeat (first | assumption | exact Below.refl _ _ | refine Below.alloc ?_ (by simp; try omega) _ | refine Below.drew ?_ | refine below_drewN ?_ _)) (h12.mono (by simp; try omega))
      replace HB := HB.trans (hv_.mono HB.size)
      clear hv_
      go_wp2_with fail
      refine (HE.out _ HB).mono ?_
      rintro e w13 ⟨rfl, h13⟩
      go_wp2_with fail
      go_ret
      exact ⟨rfl, bel_step HB h13⟩
    · have hp := HX.out.1
      rw [he, Prod.mk.injEq] at hp
      obtain ⟨_, hz⟩ := hp
      subst hz
      clear he
      go_wp2_with fail
      have p0 := at_alloc0 (W := w10) (a := .bool bP) (b := .slice Rp nP cp) (t := 24) rfl
      have p1 := at_alloc1 (W := w10) (a := .bool bP) (b := .slice Rp nP cp) (t := 24) rfl
      have hv_ : Below w10.heap.size w10 (w10.alloc (.cells #[.bool bP, .slice Rp nP cp] 24)) := (Below.refl _ _).alloc (Nat.le_refl _) _
      generalize w10.alloc (.cells #[.bool bP, .slice Rp nP cp] 24) = u10 at *
      replace HB := HB.trans (hv_.mono HB.size)
      clear hv_
      refine (HE.out _ HB).mono ?_
      rintro e w11 ⟨rfl, h11⟩
      go_wp2_with fail
      go_ret
      exact ⟨rfl, bel_step HB h11⟩

set_option maxHeartbeats 2000000 in
theorem euclid_bad1 {na nb : Bool} {A B : Option Addr} {xs ys : List Nat} {ca cb : Nat} {w : World} (HE : Hid (ExOk w)) (ma : Mg w A ca xs) (h : validB na xs = false) : Calls Tryd.prog 14 #[.agg #[.bool na, .slice A xs.length ca], .agg #[.bool nb, .slice B ys.length cb]] w (RetB w true) := by
  have H1 := hid fun (w1 : World) (b : Below w.heap.size w w1) => Valid_f (ma.below b) h
  clear ma h
  generalize xs.length = la at *
  generalize ys.length = lb at *
  have HB : Below w.heap.size w w := Below.refl _ _
  go_enter Tryd.func14, Tryd.ntmps14
  go_wp2_with fail
  refine (H1.out _ (by repeat' (first | with_reducible assumption | exact Below.refl _ _ | (refine Below.alloc ?_ (by first | omega | (simp only [World.size_alloc, World.size_setCell, World.size_drew]; done) | (simp only [World.size_alloc, World.size_setCell, World.size_drew]; omega)) _) | (refine Below.drew ?_) | (refine below_drewN ?_ _) | (refine Below.setCell ?_ (by first | omega | (simp only [World.size_alloc, World.size_setCell, World.size_drew]; done) | (simp only [World.size_alloc, World.size_setCell, World.size_drew]; omega)) _)))).mono ?_
  rintro e w1 ⟨rfl, h1⟩
  have hv_ : Below w.heap.size w w1 := Below.trans (b := _) (by repeat (first | assumption | exact Below.refl _ _ | refine Below.alloc ?_ (by simp; try omega) _ | refine Below.drew ?_ | refine below_drewN ?_ _)) (h1.mono (by simp; try omega))
  replace HB := HB.trans (hv_.mono HB.size)
  clear hv_
  go_wp2_with fail
  refine (HE.out _ HB).mono ?_
  rintro e w3 ⟨rfl, h3⟩
  go_wp2_with fail
  go_ret
  exact ⟨rfl, bel_step HB h3⟩
set_option maxHeartbeats 2000000 in
theorem euclid_bad2 {na nb : Bool} {A B : Option Addr} {xs ys : List Nat} {ca cb : Nat} {w : World} (HE : Hid (ExOk w)) (ma : Mg w A ca xs) (mb : Mg w B cb ys) (h0 : validB na xs = true) (h : validB nb ys = false) : Calls Tryd.prog 14 #[.agg #[.bool na, .slice A xs.length ca], .agg #[.bool nb, .slice B ys.length cb]] w (RetB w true) := by
  obtain ⟨x, rfl, rfl, fx⟩ := valid_z ma.ok h0
  have H0 := hid fun (w1 : World) (b : Below w.heap.size w w1) => Valid_t (ma.below b) fx
  have H1 := hid fun (w1 : World) (b : Below w.heap.size w w1) => Valid_f (mb.below b) h
  clear ma mb h h0 fx
  generalize decide (x < 0) = bx at *
  generalize (limbs x.natAbs).length = la at *
  generalize ys.length = lb at *
  have HB : Below w.heap.size w w := Below.refl _ _
  go_enter Tryd.func14, Tryd.ntmps14
  go_wp2_with fail
  refine (H0.out _ (by repeat' (first | with_reducible assumption | exact Below.refl _ _ | (refine Below.alloc ?_ (by first | omega | (simp only [World.size_alloc, World.size_setCell, World.size_drew]; done) | (simp only [World.size_alloc, World.size_setCell, World.size_drew]; omega)) _) | (refine Below.drew ?_) | (refine below_drewN ?_ _) | (refine Below.setCell ?_ (by first | omega | (simp only [World.size_alloc, World.size_setCell, World.size_drew]; done) | (simp only [World.size_alloc, World.size_setCell, World.size_drew]; omega)) _)))).mono ?_
  rintro e w1 ⟨rfl, h1⟩
  have hv_ : Below w.heap.size w w1 := Below.trans (b := _) (by repeat (first | assumption | exact Below.refl _ _ | refine Below.alloc ?_ (by simp; try omega) _ | refine Below.drew ?_ | refine below_drewN ?_ _)) (h1.mono (by simp; try omega))
  replace HB := HB.trans (hv_.mono HB.size)
  clear hv_
  obtain ⟨f1, f2, f3, f4⟩ := new2 h1
  go_wp2_with fail
  refine (H1.out _ HB).mono ?_
  rintro e w2 ⟨rfl, h2⟩
  have hv_ : Below w1.heap.size w1 w2 := Below.trans (b := _) (by repeat (first | assumption | exact Below.refl _ _ | refine Below.alloc ?_ (by simp; try omega) _ | refine Below.drew ?_ | refine below_drewN ?_ _)) (h2.mono (by simp; try omega))
  replace HB := HB.trans (hv_.mono HB.size)
  clear hv_
  go_wp2_with fail
  refine (HE.out _ HB).mono ?_
  rintro e w3 ⟨rfl, h3⟩
  go_wp2_with fail
  go_ret
  exact ⟨rfl, bel_step HB h3⟩

theorem euclid_any {na nb : Bool} {A B : Option Addr} {xs ys : List Nat} {ca cb : Nat} {w : World} (ma : Mg w A ca xs) (mb : Mg w B cb ys) (htab : PowTab w) :
    Calls Tryd.prog 14 #[.agg #[.bool na, .slice A xs.length ca], .agg #[.bool nb, .slice B ys.length cb]] w (RetB w true) := by
  have HE : Hid (ExOk w) := fun w1 b => examples_ok w1 (htab.below b)
  cases h1 : validB na xs
  · exact euclid_bad1 HE ma h1
  · cases h2 : validB nb ys
    · exact euclid_bad2 HE ma mb h1 h2
    · obtain ⟨x, rfl, rfl, fx⟩ := valid_z ma.ok h1
      obtain ⟨y, rfl, rfl, fy⟩ := valid_z mb.ok h2
      by_cases hy : y = 0
      · exact euclid_zero HE ⟨rfl, rfl, rfl⟩ ⟨rfl, rfl, rfl⟩ ma mb fx fy hy
      · exact euclid_ok HE ⟨rfl, rfl, rfl⟩ ⟨rfl, rfl, rfl⟩ ma mb fx fy hy
end Go.Proofs.YtkfpcohdbbhmaaaDoor
