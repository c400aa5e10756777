/- The law BigintPowerLaw: its walk. Conditions: none. -/
import Derived.Test.YtkfpcohdbbhmaaaDoorLe
import Derived.Test.YtkfpcohdbbhmaaaDoorEx
import Derived.Deep.RegionHeld3
namespace Go.Proofs.YtkfpcohdbbhmaaaDoor
set_option linter.unusedVariables false
set_option linter.unusedSimpArgs false
open Go.RowKit Big

theorem fits_pow {x : Int} {a b : Nat} (h : fits (x ^ b)) (hab : a ≤ b) : fits (x ^ a) := by
  unfold fits at *
  rw [Int.natAbs_pow] at *
  rcases Nat.lt_or_ge 512 (limbs (x.natAbs ^ a)).length with h1 | h1
  · have := pow_long h1 hab
    omega
  · exact h1

set_option maxHeartbeats 2000000 in
set_option maxRecDepth 100000 in
theorem powlaw_ok {x : Int} {bx : Bool} {nx : Nat} {X : List Nat} {A : Option Addr} {ca : Nat} {w : World} (HE : Hid (ExOk w)) (Ix : Iz x bx nx X) (ma : Mg w A ca X) (fx : fits x) (M N : Nat) (hM : M ≤ 255) (hN : N ≤ 255) :
    Calls Tryd.prog 7 #[.agg #[.bool bx, .slice A nx ca], .int .u8 M, .int .u8 N] w (RetB w true) := by
  obtain ⟨K, hK, hK2⟩ : ∃ K : Nat, (M : Int) % 61 = K ∧ K ≤ 60 := ⟨M % 61, by omega, by omega⟩
  obtain ⟨L, hL, hL2⟩ : ∃ L : Nat, (N : Int) % 61 = L ∧ L ≤ 60 := ⟨N % 61, by omega, by omega⟩
  have HVa := hid fun (w1 : World) (m : Mg w1 A ca X) => Valid_g (w := w1) Ix m fx
  have HB : Below w.heap.size w w := Below.refl _ _
  rcases fitE_cases (x ^ (K + L)) with ⟨hf, he⟩ | ⟨_, he⟩
  · obtain ⟨bz, nz, Z, Iz_⟩ := iz (x ^ (K + L))
    obtain ⟨bk, nk, XK, Ik⟩ := iz (x ^ K)
    obtain ⟨bl, nl, XL, Il⟩ := iz (x ^ L)
    obtain ⟨b1, n1, X1, I1⟩ := iz 1
    have fk : fits (x ^ K) := fits_pow hf (by omega)
    have fl : fits (x ^ L) := fits_pow hf (by omega)
    have HP := hid fun (w1 : World) (m : Mg w1 A ca X) => Pow_g (w := w1) Ix Iz_.out (K + L) ((K : Int) + (L : Int)) (by omega) he m fx (by omega) rfl
    have HPk := hid fun (w1 : World) (m : Mg w1 A ca X) => Pow_g (w := w1) Ix Ik.out K (K : Int) rfl (fitE_yes fk) m fx (by omega) rfl
    have HPl := hid fun (w1 : World) (m : Mg w1 A ca X) => Pow_g (w := w1) Ix Il.out L (L : Int) rfl (fitE_yes fl) m fx (by omega) rfl
    have HP0 := hid fun (w1 : World) (m : Mg w1 A ca X) => Pow_g (w := w1) Ix I1.out 0 0 rfl (fitE_yes (fits_word 1 (by decide))) m fx (by omega) (Int.pow_zero x)
    have HM := hid fun (w1 : World) (R Q : Option Addr) (c d : Nat) (m : Mg w1 R c XK) (m' : Mg w1 Q d XL) => Mul_g (w := w1) Ik.out Il.out Iz_.out he m m' fk fl (Int.pow_add x K L).symm
    have HS := hid fun (w1 : World) (R Q : Option Addr) (c d : Nat) (m : Mg w1 R c Z) (m' : Mg w1 Q d Z) => Same_g (w := w1) Iz_.out Iz_.out m m' true (by simp)
    have HS1 := hid fun (w1 : World) (R Q : Option Addr) (c d : Nat) (m : Mg w1 R c X1) (m' : Mg w1 Q d X1) => Same_g (w := w1) I1.out I1.out m m' true (by simp)
    have HF := hid fun (w1 : World) => FromInt_g (w := w1) I1.out (by omega) (by omega)
    clear he hf fk fl
    go_enter Tryd.func7, Tryd.ntmps7
    go_wp2_with fail
    have f0 := at_alloc0 (W := w) (a := .bool bx) (b := .slice A nx ca) (t := 24) rfl
    have f1 := at_alloc1 (W := w) (a := .bool bx) (b := .slice A nx ca) (t := 24) rfl
    have hv_ : Below w.heap.size w (w.alloc (.cells #[.bool bx, .slice A nx ca] 24)) := (Below.refl _ _).alloc (Nat.le_refl _) _
    generalize w.alloc (.cells #[.bool bx, .slice A nx ca] 24) = u0 at *
    replace ma := ma.below hv_
    replace HB := HB.trans (hv_.mono HB.size)
    clear hv_
    refine (HP.out _ ma).mono ?_
    rintro e w1 ⟨Rz, cz, rfl, mz, h1⟩
    have hv_ : Below u0.heap.size u0 w1 := Below.trans (b := _) (by repeat (first | assumption | exact Below.refl _ _ | refine Below.alloc ?_ (by simp; try omega) _ | refine Below.drew ?_ | refine below_drewN ?_ _)) (h1.mono (by simp; try omega))
    replace ma := ma.below hv_
    replace f0 := keep_cell hv_ f0
    replace f1 := keep_cell hv_ f1
    have lt_f0 := cell_lt f0
    have lt_f1 := cell_lt f1
    replace HB := HB.trans (hv_.mono HB.size)
    clear hv_
    go_wp2_with fail
    have z0 := at_alloc0 (W := w1) (a := .bool bz) (b := .slice Rz nz cz) (t := 24) rfl
    have z1 := at_alloc1 (W := w1) (a := .bool bz) (b := .slice Rz nz cz) (t := 24) rfl
    have hv_ : Below w1.heap.size w1 (w1.alloc (.cells #[.bool bz, .slice Rz nz cz] 24)) := (Below.refl _ _).alloc (Nat.le_refl _) _
    generalize w1.alloc (.cells #[.bool bz, .slice Rz nz cz] 24) = u1 at *
    replace ma := ma.below hv_
    replace mz := mz.below hv_
    replace f0 := keep_cell hv_ f0
    replace f1 := keep_cell hv_ f1
    replace HB := HB.trans (hv_.mono HB.size)
    clear hv_
    refine (HPk.out _ ma).mono ?_
    rintro e w2 ⟨Rk, ck, rfl, mk, h2⟩
    have hv_ : Below u1.heap.size u1 w2 := Below.trans (b := _) (by repeat (first | assumption | exact Below.refl _ _ | refine Below.alloc ?_ (by simp; try omega) _ | refine Below.drew ?_ | refine below_drewN ?_ _)) (h2.mono (by simp; try omega))
    replace ma := ma.below hv_
    replace mz := mz.below hv_
    replace f0 := keep_cell hv_ f0
    replace f1 := keep_cell hv_ f1
    replace z0 := keep_cell hv_ z0
    replace z1 := keep_cell hv_ z1
    have lt_f0 := cell_lt f0
    have lt_f1 := cell_lt f1
    have lt_z0 := cell_lt z0
    have lt_z1 := cell_lt z1
    replace HB := HB.trans (hv_.mono HB.size)
    clear hv_
    go_wp2_with fail
    have k0 := at_alloc0 (W := w2) (a := .bool bk) (b := .slice Rk nk ck) (t := 24) rfl
    have k1 := at_alloc1 (W := w2) (a := .bool bk) (b := .slice Rk nk ck) (t := 24) rfl
    have hv_ : Below w2.heap.size w2 (w2.alloc (.cells #[.bool bk, .slice Rk nk ck] 24)) := (Below.refl _ _).alloc (Nat.le_refl _) _
    generalize w2.alloc (.cells #[.bool bk, .slice Rk nk ck] 24) = u2 at *
    replace ma := ma.below hv_
    replace mz := mz.below hv_
    replace mk := mk.below hv_
    replace f0 := keep_cell hv_ f0
    replace f1 := keep_cell hv_ f1
    replace z0 := keep_cell hv_ z0
    replace z1 := keep_cell hv_ z1
    replace HB := HB.trans (hv_.mono HB.size)
    clear hv_
    refine (HPl.out _ ma).mono ?_
    rintro e w3 ⟨Rl, cl, rfl, ml, h3⟩
    have hv_ : Below u2.heap.size u2 w3 := Below.trans (b := _) (by repeat (first | assumption | exact Below.refl _ _ | refine Below.alloc ?_ (by simp; try omega) _ | refine Below.drew ?_ | refine below_drewN ?_ _)) (h3.mono (by simp; try omega))
    replace ma := ma.below hv_
    replace mz := mz.below hv_
    replace mk := mk.below hv_
    replace f0 := keep_cell hv_ f0
    replace f1 := keep_cell hv_ f1
    replace z0 := keep_cell hv_ z0
    replace z1 := keep_cell hv_ z1
    replace k0 := keep_cell hv_ k0
    replace k1 := keep_cell hv_ k1
    have lt_f0 := cell_lt f0
    have lt_f1 := cell_lt f1
    have lt_z0 := cell_lt z0
    have lt_z1 := cell_lt z1
    have lt_k0 := cell_lt k0
    have lt_k1 := cell_lt k1
    replace HB := HB.trans (hv_.mono HB.size)
    clear hv_
    go_wp2_with fail
    have l0 := at_alloc0 (W := w3) (a := .bool bl) (b := .slice Rl nl cl) (t := 24) rfl
    have l1 := at_alloc1 (W := w3) (a := .bool bl) (b := .slice Rl nl cl) (t := 24) rfl
    have hv_ : Below w3.heap.size w3 (w3.alloc (.cells #[.bool bl, .slice Rl nl cl] 24)) := (Below.refl _ _).alloc (Nat.le_refl _) _
    generalize w3.alloc (.cells #[.bool bl, .slice Rl nl cl] 24) = u3 at *
    replace ma := ma.below hv_
    replace mz := mz.below hv_
    replace mk := mk.below hv_
    replace ml := ml.below hv_
    replace f0 := keep_cell hv_ f0
    replace f1 := keep_cell hv_ f1
    replace z0 := keep_cell hv_ z0
    replace z1 := keep_cell hv_ z1
    replace k0 := keep_cell hv_ k0
    replace k1 := keep_cell hv_ k1
    replace HB := HB.trans (hv_.mono HB.size)
    clear hv_
    refine (HM.out _ _ _ _ _ mk ml).mono ?_
    rintro e w4 ⟨Rp, cp, rfl, mp, h4⟩
    have hv_ : Below u3.heap.size u3 w4 := Below.trans (b := _) (by repeat (first | assumption | exact Below.refl _ _ | refine Below.alloc ?_ (by simp; try omega) _ | refine Below.drew ?_ | refine below_drewN ?_ _)) (h4.mono (by simp; try omega))
    replace ma := ma.below hv_
    replace mz := mz.below hv_
    replace f0 := keep_cell hv_ f0
    replace f1 := keep_cell hv_ f1
    replace z0 := keep_cell hv_ z0
    replace z1 := keep_cell hv_ z1
    have lt_f0 := cell_lt f0
    have lt_f1 := cell_lt f1
    have lt_z0 := cell_lt z0
    have lt_z1 := cell_lt z1
    replace HB := HB.trans (hv_.mono HB.size)
    clear hv_
    go_wp2_with fail
    have p0 := at_alloc0 (W := w4) (a := .bool bz) (b := .slice Rp nz cp) (t := 24) rfl
    have p1 := at_alloc1 (W := w4) (a := .bool bz) (b := .slice Rp nz cp) (t := 24) rfl
    have hv_ : Below w4.heap.size w4 (w4.alloc (.cells #[.bool bz, .slice Rp nz cp] 24)) := (Below.refl _ _).alloc (Nat.le_refl _) _
    generalize w4.alloc (.cells #[.bool bz, .slice Rp nz cp] 24) = u4 at *
    replace ma := ma.below hv_
    replace mz := mz.below hv_
    replace mp := mp.below hv_
    replace f0 := keep_cell hv_ f0
    replace f1 := keep_cell hv_ f1
    replace z0 := keep_cell hv_ z0
    replace z1 := keep_cell hv_ z1
    replace HB := HB.trans (hv_.mono HB.size)
    clear hv_
    refine (HP0.out _ ma).mono ?_
    rintro e w5 ⟨Ro, co, rfl, mo, h5⟩
    have hv_ : Below u4.heap.size u4 w5 := Below.trans (b := _) (by repeat (first | assumption | exact Below.refl _ _ | refine Below.alloc ?_ (by simp; try omega) _ | refine Below.drew ?_ | refine below_drewN ?_ _)) (h5.mono (by simp; try omega))
    replace mz := mz.below hv_
    replace mp := mp.below hv_
    replace z0 := keep_cell hv_ z0
    replace z1 := keep_cell hv_ z1
    replace p0 := keep_cell hv_ p0
    replace p1 := keep_cell hv_ p1
    have lt_z0 := cell_lt z0
    have lt_z1 := cell_lt z1
    have lt_p0 := cell_lt p0
    have lt_p1 := cell_lt p1
    replace HB := HB.trans (hv_.mono HB.size)
    clear hv_
    go_wp2_with fail
    have o0 := at_alloc0 (W := w5) (a := .bool b1) (b := .slice Ro n1 co) (t := 24) rfl
    have o1 := at_alloc1 (W := w5) (a := .bool b1) (b := .slice Ro n1 co) (t := 24) rfl
    have hv_ : Below w5.heap.size w5 (w5.alloc (.cells #[.bool b1, .slice Ro n1 co] 24)) := (Below.refl _ _).alloc (Nat.le_refl _) _
    generalize w5.alloc (.cells #[.bool b1, .slice Ro n1 co] 24) = u5 at *
    replace mz := mz.below hv_
    replace mp := mp.below hv_
    replace mo := mo.below hv_
    replace z0 := keep_cell hv_ z0
    replace z1 := keep_cell hv_ z1
    replace p0 := keep_cell hv_ p0
    replace p1 := keep_cell hv_ p1
    replace HB := HB.trans (hv_.mono HB.size)
    clear hv_
    go_region_held3 (fun w' => (w'.cell? ⟨w4.heap.size, 0, none⟩ = some (.bool bz) ∧ w'.cell? ⟨w4.heap.size, 1, none⟩ = some (.slice Rp nz cp)) ∧ (w'.cell? ⟨w1.heap.size, 0, none⟩ = some (.bool bz) ∧ w'.cell? ⟨w1.heap.size, 1, none⟩ = some (.slice Rz nz cz)) ∧ (w'.cell? ⟨w5.heap.size, 0, none⟩ = some (.bool b1) ∧ w'.cell? ⟨w5.heap.size, 1, none⟩ = some (.slice Ro n1 co))) (first | ((try dsimp only); repeat' (first | with_reducible assumption | apply And.intro | (with_reducible refine keep_cell (W := u5) ?_ ?_) | exact (Below.refl _ _).drew | fail))) (first | (go_at_call 19; (with_reducible refine (HS.out _ _ _ _ _ (mp.below (by repeat' (first | with_reducible assumption | exact Below.refl _ _ | (refine Below.alloc ?_ (by first | omega | (simp only [World.size_alloc, World.size_setCell, World.size_drew]; done) | (simp only [World.size_alloc, World.size_setCell, World.size_drew]; omega)) _) | (refine Below.drew ?_) | (refine below_drewN ?_ _) | (refine Below.setCell ?_ (by first | omega | (simp only [World.size_alloc, World.size_setCell, World.size_drew]; done) | (simp only [World.size_alloc, World.size_setCell, World.size_drew]; omega)) _)))) (mz.below (by repeat' (first | with_reducible assumption | exact Below.refl _ _ | (refine Below.alloc ?_ (by first | omega | (simp only [World.size_alloc, World.size_setCell, World.size_drew]; done) | (simp only [World.size_alloc, World.size_setCell, World.size_drew]; omega)) _) | (refine Below.drew ?_) | (refine below_drewN ?_ _) | (refine Below.setCell ?_ (by first | omega | (simp only [World.size_alloc, World.size_setCell, World.size_drew]; done) | (simp only [World.size_alloc, World.size_setCell, World.size_drew]; omega)) _))))).mono ?_); rintro e y1 ⟨rfl, hq_⟩; have qy1 : Below u5.heap.size u5 y1 := bel_step (by repeat' (first | with_reducible assumption | exact Below.refl _ _ | (refine Below.alloc ?_ (by first | omega | (simp only [World.size_alloc, World.size_setCell, World.size_drew]; done) | (simp only [World.size_alloc, World.size_setCell, World.size_drew]; omega)) _) | (refine Below.drew ?_) | (refine below_drewN ?_ _) | (refine Below.setCell ?_ (by first | omega | (simp only [World.size_alloc, World.size_setCell, World.size_drew]; done) | (simp only [World.size_alloc, World.size_setCell, World.size_drew]; omega)) _))) hq_) | (go_at_call 30; (with_reducible refine (HF.out _).mono ?_); rintro e y2 ⟨Rf, cf, rfl, mf, hq_⟩; have qy2 : Below u5.heap.size u5 y2 := bel_step (by repeat' (first | with_reducible assumption | exact Below.refl _ _ | (refine Below.alloc ?_ (by first | omega | (simp only [World.size_alloc, World.size_setCell, World.size_drew]; done) | (simp only [World.size_alloc, World.size_setCell, World.size_drew]; omega)) _) | (refine Below.drew ?_) | (refine below_drewN ?_ _) | (refine Below.setCell ?_ (by first | omega | (simp only [World.size_alloc, World.size_setCell, World.size_drew]; done) | (simp only [World.size_alloc, World.size_setCell, World.size_drew]; omega)) _))) hq_) | (go_at_call 19; (with_reducible refine (HS1.out _ _ _ _ _ (mo.below (by repeat' (first | with_reducible assumption | exact Below.refl _ _ | (refine Below.alloc ?_ (by first | omega | (simp only [World.size_alloc, World.size_setCell, World.size_drew]; done) | (simp only [World.size_alloc, World.size_setCell, World.size_drew]; omega)) _) | (refine Below.drew ?_) | (refine below_drewN ?_ _) | (refine Below.setCell ?_ (by first | omega | (simp only [World.size_alloc, World.size_setCell, World.size_drew]; done) | (simp only [World.size_alloc, World.size_setCell, World.size_drew]; omega)) _)))) mf).mono ?_); rintro e y3 ⟨rfl, hq_⟩; have qy3 : Below u5.heap.size u5 y3 := bel_step (by repeat' (first | with_reducible assumption | exact Below.refl _ _ | (refine Below.alloc ?_ (by first | omega | (simp only [World.size_alloc, World.size_setCell, World.size_drew]; done) | (simp only [World.size_alloc, World.size_setCell, World.size_drew]; omega)) _) | (refine Below.drew ?_) | (refine below_drewN ?_ _) | (refine Below.setCell ?_ (by first | omega | (simp only [World.size_alloc, World.size_setCell, World.size_drew]; done) | (simp only [World.size_alloc, World.size_setCell, World.size_drew]; omega)) _))) hq_) | (go_at_call 20; (with_reducible refine (exRun HE (bel_step HB (by repeat' (first | with_reducible assumption | exact Below.refl _ _ | (refine Below.alloc ?_ (by first | omega | (simp only [World.size_alloc, World.size_setCell, World.size_drew]; done) | (simp only [World.size_alloc, World.size_setCell, World.size_drew]; omega)) _) | (refine Below.drew ?_) | (refine below_drewN ?_ _) | (refine Below.setCell ?_ (by first | omega | (simp only [World.size_alloc, World.size_setCell, World.size_drew]; done) | (simp only [World.size_alloc, World.size_setCell, World.size_drew]; omega)) _))))).mono ?_); rintro e y4 ⟨rfl, hq_⟩; have qy4 : Below u5.heap.size u5 y4 := bel_step (by repeat' (first | with_reducible assumption | exact Below.refl _ _ | (refine Below.alloc ?_ (by first | omega | (simp only [World.size_alloc, World.size_setCell, World.size_drew]; done) | (simp only [World.size_alloc, World.size_setCell, World.size_drew]; omega)) _) | (refine Below.drew ?_) | (refine below_drewN ?_ _) | (refine Below.setCell ?_ (by first | omega | (simp only [World.size_alloc, World.size_setCell, World.size_drew]; done) | (simp only [World.size_alloc, World.size_setCell, World.size_drew]; omega)) _))) hq_))
    all_goals
      go_wp2_with fail
      go_ret
      exact ⟨rfl, HB.trans (qy4.mono HB.size)⟩
  · obtain ⟨bo, no, XO, Io⟩ := iz 0
    have HP := hid fun (w1 : World) (m : Mg w1 A ca X) => Pow_g (w := w1) Ix Io.out (K + L) ((K : Int) + (L : Int)) (by omega) he m fx (by omega) rfl
    clear he
    go_enter Tryd.func7, Tryd.ntmps7
    go_wp2_with fail
    have f0 := at_alloc0 (W := w) (a := .bool bx) (b := .slice A nx ca) (t := 24) rfl
    have f1 := at_alloc1 (W := w) (a := .bool bx) (b := .slice A nx ca) (t := 24) rfl
    have hv_ : Below w.heap.size w (w.alloc (.cells #[.bool bx, .slice A nx ca] 24)) := (Below.refl _ _).alloc (Nat.le_refl _) _
    generalize w.alloc (.cells #[.bool bx, .slice A nx ca] 24) = u0 at *
    replace ma := ma.below hv_
    replace HB := HB.trans (hv_.mono HB.size)
    clear hv_
    refine (HP.out _ ma).mono ?_
    rintro e w1 ⟨Rz, cz, rfl, mz, h1⟩
    have hv_ : Below u0.heap.size u0 w1 := Below.trans (b := _) (by repeat (first | assumption | exact Below.refl _ _ | refine Below.alloc ?_ (by simp; try omega) _ | refine Below.drew ?_ | refine below_drewN ?_ _)) (h1.mono (by simp; try omega))
    replace ma := ma.below hv_
    replace f0 := keep_cell hv_ f0
    replace f1 := keep_cell hv_ f1
    have lt_f0 := cell_lt f0
    have lt_f1 := cell_lt f1
    replace HB := HB.trans (hv_.mono HB.size)
    clear hv_
    go_wp2_with fail
    have z0 := at_alloc0 (W := w1) (a := .bool bo) (b := .slice Rz no cz) (t := 24) rfl
    have z1 := at_alloc1 (W := w1) (a := .bool bo) (b := .slice Rz no cz) (t := 24) rfl
    have hv_ : Below w1.heap.size w1 (w1.alloc (.cells #[.bool bo, .slice Rz no cz] 24)) := (Below.refl _ _).alloc (Nat.le_refl _) _
    generalize w1.alloc (.cells #[.bool bo, .slice Rz no cz] 24) = u1 at *
    replace HB := HB.trans (hv_.mono HB.size)
    clear hv_
    refine (HE.out _ HB).mono ?_
    rintro e w2 ⟨rfl, h2⟩
    go_wp2_with fail
    go_ret
    exact ⟨rfl, bel_step HB h2⟩

set_option maxHeartbeats 2000000 in
theorem powlaw_bad {na : Bool} {xs : List Nat} {A : Option Addr} {ca : Nat} {w : World} (HE : Hid (ExOk w)) (ma : Mg w A ca xs) (h : validB na xs = false) (M N : Nat) (hM : M ≤ 255) (hN : N ≤ 255) :
    Calls Tryd.prog 7 #[.agg #[.bool na, .slice A xs.length ca], .int .u8 M, .int .u8 N] w (RetB w true) := by
  obtain ⟨K, hK, hK2⟩ : ∃ K : Nat, (M : Int) % 61 = K ∧ K ≤ 60 := ⟨M % 61, by omega, by omega⟩
  obtain ⟨L, hL, hL2⟩ : ∃ L : Nat, (N : Int) % 61 = L ∧ L ≤ 60 := ⟨N % 61, by omega, by omega⟩
  have HV := hid fun (w1 : World) (b : Below w.heap.size w w1) => Valid_f (ma.below b) h
  have HP := hid fun (w1 : World) (b : Below w.heap.size w w1) => Pow_bad na xs ((K : Int) + (L : Int)) A ca w1 (ma.below b) h
  have HB : Below w.heap.size w w := Below.refl _ _
  clear ma h
  generalize xs.length = la at *
  go_enter Tryd.func7, Tryd.ntmps7
  go_wp2_with fail
  have f0 := at_alloc0 (W := w) (a := .bool na) (b := .slice A la ca) (t := 24) rfl
  have f1 := at_alloc1 (W := w) (a := .bool na) (b := .slice A la ca) (t := 24) rfl
  have hv_ : Below w.heap.size w (w.alloc (.cells #[.bool na, .slice A la ca] 24)) := (Below.refl _ _).alloc (Nat.le_refl _) _
  generalize w.alloc (.cells #[.bool na, .slice A la ca] 24) = u0 at *
  replace HB := HB.trans (hv_.mono HB.size)
  clear hv_
  refine (HP.out _ HB).mono ?_
  rintro e w1 ⟨Rz, cz, rfl, mz, h1⟩
  have hv_ : Below u0.heap.size u0 w1 := Below.trans (b := _) (by repeat (first | assumption | exact Below.refl _ _ | refine Below.alloc ?_ (by simp; try omega) _ | refine Below.drew ?_ | refine below_drewN ?_ _)) (h1.mono (by simp; try omega))
  replace f0 := keep_cell hv_ f0
  replace f1 := keep_cell hv_ f1
  have lt_f0 := cell_lt f0
  have lt_f1 := cell_lt f1
  replace HB := HB.trans (hv_.mono HB.size)
  clear hv_
  have lt_f0 := cell_lt f0
  go_wp2_with fail
  have HB2 : Below w.heap.size w _ := HB
  refine (HV.out _ (bel_step HB (by repeat' (first | with_reducible assumption | exact Below.refl _ _ | (refine Below.alloc ?_ (by first | omega | (simp only [World.size_alloc, World.size_setCell, World.size_drew]; done) | (simp only [World.size_alloc, World.size_setCell, World.size_drew]; omega)) _) | (refine Below.drew ?_) | (refine below_drewN ?_ _) | (refine Below.setCell ?_ (by first | omega | (simp only [World.size_alloc, World.size_setCell, World.size_drew]; done) | (simp only [World.size_alloc, World.size_setCell, World.size_drew]; omega)) _))))).mono ?_
  rintro e w2 ⟨rfl, h2⟩
  have HB := bel_step (bel_step HB (by repeat' (first | with_reducible assumption | exact Below.refl _ _ | (refine Below.alloc ?_ (by first | omega | (simp only [World.size_alloc, World.size_setCell, World.size_drew]; done) | (simp only [World.size_alloc, World.size_setCell, World.size_drew]; omega)) _) | (refine Below.drew ?_) | (refine below_drewN ?_ _) | (refine Below.setCell ?_ (by first | omega | (simp only [World.size_alloc, World.size_setCell, World.size_drew]; done) | (simp only [World.size_alloc, World.size_setCell, World.size_drew]; omega)) _)))) h2
  go_wp2_with fail
  refine (HE.out _ HB).mono ?_
  rintro e w3 ⟨rfl, h3⟩
  go_wp2_with fail
  go_ret
  exact ⟨rfl, bel_step HB h3⟩

theorem powlaw_any {na : Bool} {xs : List Nat} {A : Option Addr} {ca : Nat} {w : World} (ma : Mg w A ca xs) (m : Int) (hm : (Lit.int .u8 m).wf = true) (n : Int) (hn : (Lit.int .u8 n).wf = true) (htab : PowTab w) :
    Calls Tryd.prog 7 #[.agg #[.bool na, .slice A xs.length ca], .int .u8 m, .int .u8 n] w (RetB w true) := by
  have HE : Hid (ExOk w) := fun w1 b => examples_ok w1 (htab.below b)
  simp [Lit.wf, IntKind.min, IntKind.max, IntKind.signed, IntKind.bits] at hm hn
  obtain ⟨M, rfl⟩ := Int.eq_ofNat_of_zero_le hm.1
  obtain ⟨N, rfl⟩ := Int.eq_ofNat_of_zero_le hn.1
  cases h1 : validB na xs
  · exact powlaw_bad HE ma h1 M N (by omega) (by omega)
  · obtain ⟨x, rfl, rfl, fx⟩ := valid_z ma.ok h1
    exact powlaw_ok HE ⟨rfl, rfl, rfl⟩ ma fx M N (by omega) (by omega)
end Go.Proofs.YtkfpcohdbbhmaaaDoor
