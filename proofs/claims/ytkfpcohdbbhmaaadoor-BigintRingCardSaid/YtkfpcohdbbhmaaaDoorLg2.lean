/- The law BigintRing: arguments that are not valid; the law whole. Conditions: none. -/
import Derived.Test.YtkfpcohdbbhmaaaDoorLg
import Derived.Test.YtkfpcohdbbhmaaaDoorEx
set_option linter.unusedVariables false
set_option linter.unusedSimpArgs false
namespace Go.Proofs.YtkfpcohdbbhmaaaDoor
open Go.RowKit Big

set_option maxRecDepth 100000 in
set_option maxHeartbeats 2000000 in
theorem ring_bad1 {na nb nc : Bool} {A B C : Option Addr} {xs ys zs : List Nat} {ca cb cc : Nat} {w : World} (HE : Hid (ExOk w)) (ma : Mg w A ca xs) (h : validB na xs = false) : Calls Tryd.prog 10 #[.agg #[.bool na, .slice A xs.length ca], .agg #[.bool nb, .slice B ys.length cb], .agg #[.bool nc, .slice C zs.length cc]] w (RetB w true) := by
  have H1 := hid fun (w1 : World) (b : Below w.heap.size w w1) => Valid_f (ma.below b) h
  clear ma h
  generalize xs.length = la at *
  generalize ys.length = lb at *
  generalize zs.length = lc at *
  have HB : Below w.heap.size w w := Below.refl _ _
  go_enter Tryd.func10, Tryd.ntmps10
  go_wp2_with fail
  refine (H1.out _ (by repeat' (first | with_reducible assumption | exact Below.refl _ _ | (refine Below.alloc ?_ (by first | omega | (simp only [World.size_alloc, World.size_setCell, World.size_drew]; done) | (simp only [World.size_alloc, World.size_setCell, World.size_drew]; omega)) _) | (refine Below.drew ?_) | (refine below_drewN ?_ _) | (refine Below.setCell ?_ (by first | omega | (simp only [World.size_alloc, World.size_setCell, World.size_drew]; done) | (simp only [World.size_alloc, World.size_setCell, World.size_drew]; omega)) _)))).mono ?_
  rintro e w1 ⟨rfl, h1⟩
  have hv_ : Below w.heap.size w w1 := Below.trans (b := _) (by repeat (first | assumption | exact Below.refl _ _ | refine Below.alloc ?_ (by simp; try omega) _ | refine Below.drew ?_ | refine below_drewN ?_ _)) (h1.mono (by simp; try omega))
  replace HB := HB.trans (hv_.mono HB.size)
  clear hv_
  go_wp2_with fail
  refine (HE.out _ HB).mono ?_
  rintro e w3 ⟨rfl, h3⟩
  go_wp2_with fail
  go_ret
  exact ⟨rfl, bel_step HB h3⟩
set_option maxRecDepth 100000 in
set_option maxHeartbeats 2000000 in
theorem ring_bad2 {na nb nc : Bool} {A B C : Option Addr} {xs ys zs : List Nat} {ca cb cc : Nat} {w : World} (HE : Hid (ExOk w)) (ma : Mg w A ca xs) (mb : Mg w B cb ys) (h0 : validB na xs = true) (h : validB nb ys = false) : Calls Tryd.prog 10 #[.agg #[.bool na, .slice A xs.length ca], .agg #[.bool nb, .slice B ys.length cb], .agg #[.bool nc, .slice C zs.length cc]] w (RetB w true) := by
  obtain ⟨x, rfl, rfl, fx⟩ := valid_z ma.ok h0
  have H0 := hid fun (w1 : World) (b : Below w.heap.size w w1) => Valid_t (ma.below b) fx
  have H1 := hid fun (w1 : World) (b : Below w.heap.size w w1) => Valid_f (mb.below b) h
  clear ma mb h h0 fx
  generalize decide (x < 0) = bx at *
  generalize (limbs x.natAbs).length = la at *
  generalize ys.length = lb at *
  generalize zs.length = lc at *
  have HB : Below w.heap.size w w := Below.refl _ _
  go_enter Tryd.func10, Tryd.ntmps10
  go_wp2_with fail
  refine (H0.out _ (by repeat' (first | with_reducible assumption | exact Below.refl _ _ | (refine Below.alloc ?_ (by first | omega | (simp only [World.size_alloc, World.size_setCell, World.size_drew]; done) | (simp only [World.size_alloc, World.size_setCell, World.size_drew]; omega)) _) | (refine Below.drew ?_) | (refine below_drewN ?_ _) | (refine Below.setCell ?_ (by first | omega | (simp only [World.size_alloc, World.size_setCell, World.size_drew]; done) | (simp only [World.size_alloc, World.size_setCell, World.size_drew]; omega)) _)))).mono ?_
  rintro e w1 ⟨rfl, h1⟩
  have hv_ : Below w.heap.size w w1 := Below.trans (b := _) (by repeat (first | assumption | exact Below.refl _ _ | refine Below.alloc ?_ (by simp; try omega) _ | refine Below.drew ?_ | refine below_drewN ?_ _)) (h1.mono (by simp; try omega))
  replace HB := HB.trans (hv_.mono HB.size)
  clear hv_
  obtain ⟨f1, f2, f3, f4, f5, f6⟩ := new3 h1
  go_wp2_with fail
  refine (H1.out _ HB).mono ?_
  rintro e w2 ⟨rfl, h2⟩
  have hv_ : Below w1.heap.size w1 w2 := Below.trans (b := _) (by repeat (first | assumption | exact Below.refl _ _ | refine Below.alloc ?_ (by simp; try omega) _ | refine Below.drew ?_ | refine below_drewN ?_ _)) (h2.mono (by simp; try omega))
  replace HB := HB.trans (hv_.mono HB.size)
  clear hv_
  go_wp2_with fail
  refine (HE.out _ HB).mono ?_
  rintro e w3 ⟨rfl, h3⟩
  go_wp2_with fail
  go_ret
  exact ⟨rfl, bel_step HB h3⟩
set_option maxRecDepth 100000 in
set_option maxHeartbeats 2000000 in
theorem ring_bad3 {na nb nc : Bool} {A B C : Option Addr} {xs ys zs : List Nat} {ca cb cc : Nat} {w : World} (HE : Hid (ExOk w)) (ma : Mg w A ca xs) (mb : Mg w B cb ys) (mc : Mg w C cc zs) (h0 : validB na xs = true) (h1 : validB nb ys = true) (h : validB nc zs = false) : Calls Tryd.prog 10 #[.agg #[.bool na, .slice A xs.length ca], .agg #[.bool nb, .slice B ys.length cb], .agg #[.bool nc, .slice C zs.length cc]] w (RetB w true) := by
  obtain ⟨x, rfl, rfl, fx⟩ := valid_z ma.ok h0
  obtain ⟨y, rfl, rfl, fy⟩ := valid_z mb.ok h1
  have H0 := hid fun (w1 : World) (b : Below w.heap.size w w1) => Valid_t (ma.below b) fx
  have H1 := hid fun (w1 : World) (b : Below w.heap.size w w1) => Valid_t (mb.below b) fy
  have H2 := hid fun (w1 : World) (b : Below w.heap.size w w1) => Valid_f (mc.below b) h
  clear ma mb mc h h0 h1 fx fy
  generalize decide (x < 0) = bx at *
  generalize (limbs x.natAbs).length = la at *
  generalize decide (y < 0) = by_ at *
  generalize (limbs y.natAbs).length = lb at *
  generalize zs.length = lc at *
  have HB : Below w.heap.size w w := Below.refl _ _
  go_enter Tryd.func10, Tryd.ntmps10
  go_wp2_with fail
  refine (H0.out _ (by repeat' (first | with_reducible assumption | exact Below.refl _ _ | (refine Below.alloc ?_ (by first | omega | (simp only [World.size_alloc, World.size_setCell, World.size_drew]; done) | (simp only [World.size_alloc, World.size_setCell, World.size_drew]; omega)) _) | (refine Below.drew ?_) | (refine below_drewN ?_ _) | (refine Below.setCell ?_ (by first | omega | (simp only [World.size_alloc, World.size_setCell, World.size_drew]; done) | (simp only [World.size_alloc, World.size_setCell, World.size_drew]; omega)) _)))).mono ?_
  rintro e w1 ⟨rfl, h1⟩
  have hv_ : Below w.heap.size w w1 := Below.trans (b := _) (by repeat (first | assumption | exact Below.refl _ _ | refine Below.alloc ?_ (by simp; try omega) _ | refine Below.drew ?_ | refine below_drewN ?_ _)) (h1.mono (by simp; try omega))
  replace HB := HB.trans (hv_.mono HB.size)
  clear hv_
  obtain ⟨f1, f2, f3, f4, f5, f6⟩ := new3 h1
  go_wp2_with fail
  refine (H1.out _ HB).mono ?_
  rintro e w2 ⟨rfl, h2⟩
  have hv_ : Below w1.heap.size w1 w2 := Below.trans (b := _) (by repeat (first | assumption | exact Below.refl _ _ | refine Below.alloc ?_ (by simp; try omega) _ | refine Below.drew ?_ | refine below_drewN ?_ _)) (h2.mono (by simp; try omega))
  replace f3 := keep_cell hv_ f3
  replace f4 := keep_cell hv_ f4
  replace f5 := keep_cell hv_ f5
  replace f6 := keep_cell hv_ f6
  have lt_f3 := cell_lt f3
  have lt_f4 := cell_lt f4
  have lt_f5 := cell_lt f5
  have lt_f6 := cell_lt f6
  replace HB := HB.trans (hv_.mono HB.size)
  clear hv_
  go_wp2_with fail
  refine (H2.out _ HB).mono ?_
  rintro e w4 ⟨rfl, h4⟩
  have hv_ : Below w2.heap.size w2 w4 := Below.trans (b := _) (by repeat (first | assumption | exact Below.refl _ _ | refine Below.alloc ?_ (by simp; try omega) _ | refine Below.drew ?_ | refine below_drewN ?_ _)) (h4.mono (by simp; try omega))
  replace HB := HB.trans (hv_.mono HB.size)
  clear hv_
  go_wp2_with fail
  refine (HE.out _ HB).mono ?_
  rintro e w3 ⟨rfl, h3⟩
  go_wp2_with fail
  go_ret
  exact ⟨rfl, bel_step HB h3⟩

set_option maxRecDepth 100000 in
set_option maxHeartbeats 2000000 in
theorem ring_any {na nb nc : Bool} {A B C : Option Addr} {xs ys zs : List Nat} {ca cb cc : Nat} {w : World} (ma : Mg w A ca xs) (mb : Mg w B cb ys) (mc : Mg w C cc zs) (htab : PowTab w) :
    Calls Tryd.prog 10 #[.agg #[.bool na, .slice A xs.length ca], .agg #[.bool nb, .slice B ys.length cb], .agg #[.bool nc, .slice C zs.length cc]] w (RetB w true) := by
  have HE : Hid (ExOk w) := fun w1 b => examples_ok w1 (htab.below b)
  cases h1 : validB na xs
  · exact ring_bad1 HE ma h1
  · cases h2 : validB nb ys
    · exact ring_bad2 HE ma mb h1 h2
    · cases h3 : validB nc zs
      · exact ring_bad3 HE ma mb mc h1 h2 h3
      · obtain ⟨x, rfl, rfl, fx⟩ := valid_z ma.ok h1
        obtain ⟨y, rfl, rfl, fy⟩ := valid_z mb.ok h2
        obtain ⟨z, rfl, rfl, fz⟩ := valid_z mc.ok h3
        exact ring_ok HE ⟨rfl, rfl, rfl⟩ ⟨rfl, rfl, rfl⟩ ⟨rfl, rfl, rfl⟩ ma mb mc fx fy fz
end Go.Proofs.YtkfpcohdbbhmaaaDoor
