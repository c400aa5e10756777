/- The laws BigintPowers, BigintAdds and BigintConverts: their walks. Conditions: none. -/
import Derived.Test.YtkfpcohdbbhmaaaDoorR11
import Derived.Test.YtkfpcohdbbhmaaaDoorLm
import Derived.Deep.RegionHeld3
namespace Go.Proofs.YtkfpcohdbbhmaaaDoor
set_option linter.unusedVariables false
set_option linter.unusedSimpArgs false
open Go.RowKit Big

theorem Pow_both {na : Bool} {xs : List Nat} {A : Option Addr} {c : Nat} {w : World} (ha : Mg w A c xs) (n : Int) (h1 : -9223372036854775808 ≤ n) (h2 : n ≤ 9223372036854775807) :
    ∃ z err, Hid (∀ w1, Below w.heap.size w w1 → Calls Tryd.prog 21 #[.agg #[.bool na, .slice A xs.length c], .int .i64 n] w1 (RetZE w1 z err)) ∧ Hid (∀ w1, Below w.heap.size w w1 → Calls Tryd.prog 22 #[.agg #[.bool na, .slice A xs.length c], .int .i64 n] w1 (RetZE w1 z err)) := by
  cases h3 : validB na xs
  · exact ⟨0, 1, fun w1 h => Pow_bad na xs n A c w1 (ha.below h) h3, fun w1 h => RPow_bad na xs n A c w1 (ha.below h) h3⟩
  · obtain ⟨x, rfl, rfl, fx⟩ := valid_z ha.ok h3
    by_cases hn : n < 0
    · exact ⟨0, 1, fun w1 h => Pow_neg x n A c w1 (ha.below h) fx hn h1, fun w1 h => RPow_neg x n A c w1 (ha.below h) fx hn h1⟩
    · obtain ⟨N, rfl⟩ := Int.eq_ofNat_of_zero_le (show 0 ≤ n by omega)
      exact ⟨_, _, fun w1 h => Pow_ok x N A c w1 (ha.below h) fx (by omega), fun w1 h => RPow_ok x N A c w1 (ha.below h) fx (by omega)⟩

theorem ToInt_both {na : Bool} {xs : List Nat} {A : Option Addr} {c : Nat} {w : World} (ha : Mg w A c xs) :
    ∃ k err, Hid (∀ w1, Below w.heap.size w w1 → Calls Tryd.prog 31 #[.agg #[.bool na, .slice A xs.length c]] w1 (RetIE w1 k err)) ∧ Hid (∀ w1, Below w.heap.size w w1 → Calls Tryd.prog 32 #[.agg #[.bool na, .slice A xs.length c]] w1 (RetIE w1 k err)) := by
  cases h3 : validB na xs
  · exact ⟨0, 1, fun w1 h => ToInt_bad na xs A c w1 (ha.below h) h3, fun w1 h => RToInt_bad na xs A c w1 (ha.below h) h3⟩
  · obtain ⟨x, rfl, rfl, fx⟩ := valid_z ha.ok h3
    exact ⟨_, _, fun w1 h => ToInt_ok x A c w1 (ha.below h) fx, fun w1 h => RToInt_ok x A c w1 (ha.below h) fx⟩

set_option maxHeartbeats 2000000 in
theorem powers_law {na : Bool} {xs : List Nat} {A : Option Addr} {ca : Nat} {w : World} (ma : Mg w A ca xs) (n : Int) (hn : (Lit.int .i64 n).wf = true) (htab : PowTab w) :
    Calls Tryd.prog 4 #[.agg #[.bool na, .slice A xs.length ca], .int .i64 n] w (RetB w true) := by
  have HE : Hid (ExOk w) := fun w1 b => examples_ok w1 (htab.below b)
  simp [Lit.wf, IntKind.min, IntKind.max, IntKind.signed, IntKind.bits] at hn
  obtain ⟨z, err, H1, H2⟩ := Pow_both (na := na) ma n hn.1 hn.2
  obtain ⟨b1, n1, L1, I1⟩ := iz z
  replace H1 := allg H1 fun w1 e w' h => h.g I1.out
  replace H2 := allg H2 fun w1 e w' h => h.g I1.out
  have HS := hid fun (w1 : World) (R Q : Option Addr) (c d : Nat) (m : Mg w1 R c L1) (m' : Mg w1 Q d L1) => Same_g (w := w1) I1.out I1.out m m' true (by simp)
  have HB : Below w.heap.size w w := Below.refl _ _
  clear ma I1 hn
  generalize xs.length = la at *
  go_enter Tryd.func4, Tryd.ntmps4
  go_wp2_with fail
  refine (H1.out _ (by repeat' (first | with_reducible assumption | exact Below.refl _ _ | (refine Below.alloc ?_ (by first | omega | (simp only [World.size_alloc, World.size_setCell, World.size_drew]; done) | (simp only [World.size_alloc, World.size_setCell, World.size_drew]; omega)) _) | (refine Below.drew ?_) | (refine below_drewN ?_ _) | (refine Below.setCell ?_ (by first | omega | (simp only [World.size_alloc, World.size_setCell, World.size_drew]; done) | (simp only [World.size_alloc, World.size_setCell, World.size_drew]; omega)) _)))).mono ?_
  rintro e w1 ⟨R1, c1, rfl, m1, h1⟩
  obtain ⟨f1, f2⟩ := new1 h1
  have hv_ : Below w.heap.size w w1 := Below.trans (b := _) (by repeat (first | assumption | exact Below.refl _ _ | refine Below.alloc ?_ (by simp; try omega) _ | refine Below.drew ?_ | refine below_drewN ?_ _)) (h1.mono (by simp; try omega))
  replace HB := HB.trans (hv_.mono HB.size)
  clear hv_
  have lt_f1 := cell_lt f1
  have lt_f2 := cell_lt f2
  go_wp2_with fail
  have g0 := at_alloc0 (W := w1) (a := .bool b1) (b := .slice R1 n1 c1) (t := 24) rfl
  have g1 := at_alloc1 (W := w1) (a := .bool b1) (b := .slice R1 n1 c1) (t := 24) rfl
  have hv_ : Below w1.heap.size w1 (w1.alloc (.cells #[.bool b1, .slice R1 n1 c1] 24)) := (Below.refl _ _).alloc (Nat.le_refl _) _
  generalize w1.alloc (.cells #[.bool b1, .slice R1 n1 c1] 24) = u1 at *
  replace m1 := m1.below hv_
  replace f1 := keep_cell hv_ f1
  replace f2 := keep_cell hv_ f2
  replace HB := HB.trans (hv_.mono HB.size)
  clear hv_
  refine (H2.out _ HB).mono ?_
  rintro e w2 ⟨R2, c2, rfl, m2, h2⟩
  have hv_ : Below u1.heap.size u1 w2 := Below.trans (b := _) (by repeat (first | assumption | exact Below.refl _ _ | refine Below.alloc ?_ (by simp; try omega) _ | refine Below.drew ?_ | refine below_drewN ?_ _)) (h2.mono (by simp; try omega))
  replace m1 := m1.below hv_
  replace g0 := keep_cell hv_ g0
  replace g1 := keep_cell hv_ g1
  have lt_g0 := cell_lt g0
  have lt_g1 := cell_lt g1
  replace HB := HB.trans (hv_.mono HB.size)
  clear hv_
  go_wp2_with fail
  have k0 := at_alloc0 (W := w2) (a := .bool b1) (b := .slice R2 n1 c2) (t := 24) rfl
  have k1 := at_alloc1 (W := w2) (a := .bool b1) (b := .slice R2 n1 c2) (t := 24) rfl
  have hv_ : Below w2.heap.size w2 (w2.alloc (.cells #[.bool b1, .slice R2 n1 c2] 24)) := (Below.refl _ _).alloc (Nat.le_refl _) _
  generalize w2.alloc (.cells #[.bool b1, .slice R2 n1 c2] 24) = u2 at *
  replace m1 := m1.below hv_
  replace m2 := m2.below hv_
  replace g0 := keep_cell hv_ g0
  replace g1 := keep_cell hv_ g1
  replace HB := HB.trans (hv_.mono HB.size)
  clear hv_
  refine (HS.out _ _ _ _ _ m1 m2).mono ?_
  rintro e w3 ⟨rfl, h3⟩
  have hv_ : Below u2.heap.size u2 w3 := Below.trans (b := _) (by repeat (first | assumption | exact Below.refl _ _ | refine Below.alloc ?_ (by simp; try omega) _ | refine Below.drew ?_ | refine below_drewN ?_ _)) (h3.mono (by simp; try omega))
  replace HB := HB.trans (hv_.mono HB.size)
  clear hv_
  go_wp2_with fail
  refine (exRunR HE HB).mono ?_
  rintro e w4 ⟨rfl, h4⟩
  go_wp2_with fail
  go_ret
  exact ⟨rfl, bel_step HB h4⟩


set_option maxHeartbeats 4000000 in
set_option maxRecDepth 100000 in
theorem adds_law {na nb : Bool} {xs ys : List Nat} {A B : Option Addr} {ca cb : Nat} {w : World} (ma : Mg w A ca xs) (mb : Mg w B cb ys) (htab : PowTab w) :
    Calls Tryd.prog 13 #[.agg #[.bool na, .slice A xs.length ca], .agg #[.bool nb, .slice B ys.length cb]] w (RetB w true) := by
  have HE : Hid (ExOk w) := fun w1 b => examples_ok w1 (htab.below b)
  obtain ⟨z, err, H1, H2⟩ := Add_both (na := na) (nb := nb) ma mb
  obtain ⟨z3, err3, H3, H4⟩ := Sub_both (na := na) (nb := nb) ma mb
  obtain ⟨zn, H5, H6⟩ := Neg_both (na := na) ma
  obtain ⟨kc, H7, H8⟩ := Cmp_both (na := na) (nb := nb) ma mb
  obtain ⟨b1, n1, L1, I1⟩ := iz z
  obtain ⟨b3, n3, L3, I3⟩ := iz z3
  obtain ⟨b5, n5, L5, I5⟩ := iz zn
  replace H1 := allg H1 fun w1 e w' h => h.g I1.out
  replace H2 := allg H2 fun w1 e w' h => h.g I1.out
  replace H3 := allg H3 fun w1 e w' h => h.g I3.out
  replace H4 := allg H4 fun w1 e w' h => h.g I3.out
  replace H5 := allg H5 fun w1 e w' h => h.g I5.out
  replace H6 := allg H6 fun w1 e w' h => h.g I5.out
  have HS1 := hid fun (w1 : World) (R Q : Option Addr) (c d : Nat) (m : Mg w1 R c L1) (m' : Mg w1 Q d L1) => Same_g (w := w1) I1.out I1.out m m' true (by simp)
  have HS3 := hid fun (w1 : World) (R Q : Option Addr) (c d : Nat) (m : Mg w1 R c L3) (m' : Mg w1 Q d L3) => Same_g (w := w1) I3.out I3.out m m' true (by simp)
  have HS5 := hid fun (w1 : World) (R Q : Option Addr) (c d : Nat) (m : Mg w1 R c L5) (m' : Mg w1 Q d L5) => Same_g (w := w1) I5.out I5.out m m' true (by simp)
  have HB : Below w.heap.size w w := Below.refl _ _
  clear ma mb I1 I3 I5
  generalize xs.length = la at *
  generalize ys.length = lb_ at *
  go_enter Tryd.func13, Tryd.ntmps13
  go_wp2_with fail
  refine (H1.out _ (by repeat' (first | with_reducible assumption | exact Below.refl _ _ | (refine Below.alloc ?_ (by first | omega | (simp only [World.size_alloc, World.size_setCell, World.size_drew]; done) | (simp only [World.size_alloc, World.size_setCell, World.size_drew]; omega)) _) | (refine Below.drew ?_) | (refine below_drewN ?_ _) | (refine Below.setCell ?_ (by first | omega | (simp only [World.size_alloc, World.size_setCell, World.size_drew]; done) | (simp only [World.size_alloc, World.size_setCell, World.size_drew]; omega)) _)))).mono ?_
  rintro e w1 ⟨R1, c1, rfl, m1, h1⟩
  obtain ⟨f1, f2, f3, f4⟩ := new2 h1
  have hv_ : Below w.heap.size w w1 := Below.trans (b := _) (by repeat (first | assumption | exact Below.refl _ _ | refine Below.alloc ?_ (by simp; try omega) _ | refine Below.drew ?_ | refine below_drewN ?_ _)) (h1.mono (by simp; try omega))
  replace HB := HB.trans (hv_.mono HB.size)
  clear hv_
  have lt_f1 := cell_lt f1
  have lt_f2 := cell_lt f2
  have lt_f3 := cell_lt f3
  have lt_f4 := cell_lt f4
  go_wp2_with fail
  have g0 := at_alloc0 (W := w1) (a := .bool b1) (b := .slice R1 n1 c1) (t := 24) rfl
  have g1 := at_alloc1 (W := w1) (a := .bool b1) (b := .slice R1 n1 c1) (t := 24) rfl
  have hv_ : Below w1.heap.size w1 (w1.alloc (.cells #[.bool b1, .slice R1 n1 c1] 24)) := (Below.refl _ _).alloc (Nat.le_refl _) _
  generalize w1.alloc (.cells #[.bool b1, .slice R1 n1 c1] 24) = u1 at *
  replace m1 := m1.below hv_
  replace f1 := keep_cell hv_ f1
  replace f2 := keep_cell hv_ f2
  replace f3 := keep_cell hv_ f3
  replace f4 := keep_cell hv_ f4
  replace HB := HB.trans (hv_.mono HB.size)
  clear hv_
  refine (H2.out _ HB).mono ?_
  rintro e w2 ⟨R2, c2, rfl, m2, h2⟩
  have hv_ : Below u1.heap.size u1 w2 := Below.trans (b := _) (by repeat (first | assumption | exact Below.refl _ _ | refine Below.alloc ?_ (by simp; try omega) _ | refine Below.drew ?_ | refine below_drewN ?_ _)) (h2.mono (by simp; try omega))
  replace m1 := m1.below hv_
  replace f1 := keep_cell hv_ f1
  replace f2 := keep_cell hv_ f2
  replace f3 := keep_cell hv_ f3
  replace f4 := keep_cell hv_ f4
  replace g0 := keep_cell hv_ g0
  replace g1 := keep_cell hv_ g1
  have lt_f1 := cell_lt f1
  have lt_f2 := cell_lt f2
  have lt_f3 := cell_lt f3
  have lt_f4 := cell_lt f4
  have lt_g0 := cell_lt g0
  have lt_g1 := cell_lt g1
  replace HB := HB.trans (hv_.mono HB.size)
  clear hv_
  go_wp2_with fail
  have h0 := at_alloc0 (W := w2) (a := .bool b1) (b := .slice R2 n1 c2) (t := 24) rfl
  have h1 := at_alloc1 (W := w2) (a := .bool b1) (b := .slice R2 n1 c2) (t := 24) rfl
  have hv_ : Below w2.heap.size w2 (w2.alloc (.cells #[.bool b1, .slice R2 n1 c2] 24)) := (Below.refl _ _).alloc (Nat.le_refl _) _
  generalize w2.alloc (.cells #[.bool b1, .slice R2 n1 c2] 24) = u2 at *
  replace m1 := m1.below hv_
  replace m2 := m2.below hv_
  replace f1 := keep_cell hv_ f1
  replace f2 := keep_cell hv_ f2
  replace f3 := keep_cell hv_ f3
  replace f4 := keep_cell hv_ f4
  replace g0 := keep_cell hv_ g0
  replace g1 := keep_cell hv_ g1
  replace HB := HB.trans (hv_.mono HB.size)
  clear hv_
  refine (H3.out _ HB).mono ?_
  rintro e w3 ⟨R3, c3, rfl, m3, h3⟩
  have hv_ : Below u2.heap.size u2 w3 := Below.trans (b := _) (by repeat (first | assumption | exact Below.refl _ _ | refine Below.alloc ?_ (by simp; try omega) _ | refine Below.drew ?_ | refine below_drewN ?_ _)) (h3.mono (by simp; try omega))
  replace m1 := m1.below hv_
  replace m2 := m2.below hv_
  replace f1 := keep_cell hv_ f1
  replace f2 := keep_cell hv_ f2
  replace f3 := keep_cell hv_ f3
  replace f4 := keep_cell hv_ f4
  replace g0 := keep_cell hv_ g0
  replace g1 := keep_cell hv_ g1
  replace h0 := keep_cell hv_ h0
  replace h1 := keep_cell hv_ h1
  have lt_f1 := cell_lt f1
  have lt_f2 := cell_lt f2
  have lt_f3 := cell_lt f3
  have lt_f4 := cell_lt f4
  have lt_g0 := cell_lt g0
  have lt_g1 := cell_lt g1
  have lt_h0 := cell_lt h0
  have lt_h1 := cell_lt h1
  replace HB := HB.trans (hv_.mono HB.size)
  clear hv_
  go_wp2_with fail
  have i0 := at_alloc0 (W := w3) (a := .bool b3) (b := .slice R3 n3 c3) (t := 24) rfl
  have i1 := at_alloc1 (W := w3) (a := .bool b3) (b := .slice R3 n3 c3) (t := 24) rfl
  have hv_ : Below w3.heap.size w3 (w3.alloc (.cells #[.bool b3, .slice R3 n3 c3] 24)) := (Below.refl _ _).alloc (Nat.le_refl _) _
  generalize w3.alloc (.cells #[.bool b3, .slice R3 n3 c3] 24) = u3 at *
  replace m1 := m1.below hv_
  replace m2 := m2.below hv_
  replace m3 := m3.below hv_
  replace f1 := keep_cell hv_ f1
  replace f2 := keep_cell hv_ f2
  replace f3 := keep_cell hv_ f3
  replace f4 := keep_cell hv_ f4
  replace g0 := keep_cell hv_ g0
  replace g1 := keep_cell hv_ g1
  replace h0 := keep_cell hv_ h0
  replace h1 := keep_cell hv_ h1
  replace HB := HB.trans (hv_.mono HB.size)
  clear hv_
  refine (H4.out _ HB).mono ?_
  rintro e w4 ⟨R4, c4, rfl, m4, h4⟩
  have hv_ : Below u3.heap.size u3 w4 := Below.trans (b := _) (by repeat (first | assumption | exact Below.refl _ _ | refine Below.alloc ?_ (by simp; try omega) _ | refine Below.drew ?_ | refine below_drewN ?_ _)) (h4.mono (by simp; try omega))
  replace m1 := m1.below hv_
  replace m2 := m2.below hv_
  replace m3 := m3.below hv_
  replace f1 := keep_cell hv_ f1
  replace f2 := keep_cell hv_ f2
  replace f3 := keep_cell hv_ f3
  replace f4 := keep_cell hv_ f4
  replace g0 := keep_cell hv_ g0
  replace g1 := keep_cell hv_ g1
  replace h0 := keep_cell hv_ h0
  replace h1 := keep_cell hv_ h1
  replace i0 := keep_cell hv_ i0
  replace i1 := keep_cell hv_ i1
  have lt_f1 := cell_lt f1
  have lt_f2 := cell_lt f2
  have lt_f3 := cell_lt f3
  have lt_f4 := cell_lt f4
  have lt_g0 := cell_lt g0
  have lt_g1 := cell_lt g1
  have lt_h0 := cell_lt h0
  have lt_h1 := cell_lt h1
  have lt_i0 := cell_lt i0
  have lt_i1 := cell_lt i1
  replace HB := HB.trans (hv_.mono HB.size)
  clear hv_
  go_wp2_with fail
  have j0 := at_alloc0 (W := w4) (a := .bool b3) (b := .slice R4 n3 c4) (t := 24) rfl
  have j1 := at_alloc1 (W := w4) (a := .bool b3) (b := .slice R4 n3 c4) (t := 24) rfl
  have hv_ : Below w4.heap.size w4 (w4.alloc (.cells #[.bool b3, .slice R4 n3 c4] 24)) := (Below.refl _ _).alloc (Nat.le_refl _) _
  generalize w4.alloc (.cells #[.bool b3, .slice R4 n3 c4] 24) = u4 at *
  replace m1 := m1.below hv_
  replace m2 := m2.below hv_
  replace m3 := m3.below hv_
  replace m4 := m4.below hv_
  replace f1 := keep_cell hv_ f1
  replace f2 := keep_cell hv_ f2
  replace f3 := keep_cell hv_ f3
  replace f4 := keep_cell hv_ f4
  replace g0 := keep_cell hv_ g0
  replace g1 := keep_cell hv_ g1
  replace h0 := keep_cell hv_ h0
  replace h1 := keep_cell hv_ h1
  replace i0 := keep_cell hv_ i0
  replace i1 := keep_cell hv_ i1
  replace HB := HB.trans (hv_.mono HB.size)
  clear hv_
  go_region_held3 (fun w' => (w'.cell? ⟨w1.heap.size, 0, none⟩ = some (.bool b1) ∧ w'.cell? ⟨w1.heap.size, 1, none⟩ = some (.slice R1 n1 c1)) ∧ (w'.cell? ⟨w2.heap.size, 0, none⟩ = some (.bool b1) ∧ w'.cell? ⟨w2.heap.size, 1, none⟩ = some (.slice R2 n1 c2)) ∧ (w'.cell? ⟨w3.heap.size, 0, none⟩ = some (.bool b3) ∧ w'.cell? ⟨w3.heap.size, 1, none⟩ = some (.slice R3 n3 c3)) ∧ (w'.cell? ⟨w4.heap.size, 0, none⟩ = some (.bool b3) ∧ w'.cell? ⟨w4.heap.size, 1, none⟩ = some (.slice R4 n3 c4)) ∧ (w'.cell? ⟨w.heap.size, 0, none⟩ = some (.bool na) ∧ w'.cell? ⟨w.heap.size, 1, none⟩ = some (.slice A la ca)) ∧ (w'.cell? ⟨w.heap.size + 1, 0, none⟩ = some (.bool nb) ∧ w'.cell? ⟨w.heap.size + 1, 1, none⟩ = some (.slice B lb_ cb))) (first | ((try dsimp only); repeat' (first | with_reducible assumption | apply And.intro | (with_reducible refine keep_cell (W := u4) ?_ ?_) | exact (Below.refl _ _).drew | fail))) (first | (go_at_call 19; (with_reducible refine (HS5.out _ _ _ _ _ (m5.below (by repeat' (first | with_reducible assumption | exact Below.refl _ _ | (refine Below.alloc ?_ (by first | omega | (simp only [World.size_alloc, World.size_setCell, World.size_drew]; done) | (simp only [World.size_alloc, World.size_setCell, World.size_drew]; omega)) _) | (refine Below.drew ?_) | (refine below_drewN ?_ _) | (refine Below.setCell ?_ (by first | omega | (simp only [World.size_alloc, World.size_setCell, World.size_drew]; done) | (simp only [World.size_alloc, World.size_setCell, World.size_drew]; omega)) _)))) m6).mono ?_); rintro e y5 ⟨rfl, hq_⟩; have qy5 : Below u4.heap.size u4 y5 := bel_step (by repeat' (first | with_reducible assumption | exact Below.refl _ _ | (refine Below.alloc ?_ (by first | omega | (simp only [World.size_alloc, World.size_setCell, World.size_drew]; done) | (simp only [World.size_alloc, World.size_setCell, World.size_drew]; omega)) _) | (refine Below.drew ?_) | (refine below_drewN ?_ _) | (refine Below.setCell ?_ (by first | omega | (simp only [World.size_alloc, World.size_setCell, World.size_drew]; done) | (simp only [World.size_alloc, World.size_setCell, World.size_drew]; omega)) _))) hq_) | (go_at_call 47; (with_reducible refine (H6.out _ (bel_step HB (by repeat' (first | with_reducible assumption | exact Below.refl _ _ | (refine Below.alloc ?_ (by first | omega | (simp only [World.size_alloc, World.size_setCell, World.size_drew]; done) | (simp only [World.size_alloc, World.size_setCell, World.size_drew]; omega)) _) | (refine Below.drew ?_) | (refine below_drewN ?_ _) | (refine Below.setCell ?_ (by first | omega | (simp only [World.size_alloc, World.size_setCell, World.size_drew]; done) | (simp only [World.size_alloc, World.size_setCell, World.size_drew]; omega)) _))))).mono ?_); rintro e y4 ⟨R6, c6, rfl, m6, hq_⟩; have qy4 : Below u4.heap.size u4 y4 := bel_step (by repeat' (first | with_reducible assumption | exact Below.refl _ _ | (refine Below.alloc ?_ (by first | omega | (simp only [World.size_alloc, World.size_setCell, World.size_drew]; done) | (simp only [World.size_alloc, World.size_setCell, World.size_drew]; omega)) _) | (refine Below.drew ?_) | (refine below_drewN ?_ _) | (refine Below.setCell ?_ (by first | omega | (simp only [World.size_alloc, World.size_setCell, World.size_drew]; done) | (simp only [World.size_alloc, World.size_setCell, World.size_drew]; omega)) _))) hq_) | (go_at_call 43; (with_reducible refine (H5.out _ (bel_step HB (by repeat' (first | with_reducible assumption | exact Below.refl _ _ | (refine Below.alloc ?_ (by first | omega | (simp only [World.size_alloc, World.size_setCell, World.size_drew]; done) | (simp only [World.size_alloc, World.size_setCell, World.size_drew]; omega)) _) | (refine Below.drew ?_) | (refine below_drewN ?_ _) | (refine Below.setCell ?_ (by first | omega | (simp only [World.size_alloc, World.size_setCell, World.size_drew]; done) | (simp only [World.size_alloc, World.size_setCell, World.size_drew]; omega)) _))))).mono ?_); rintro e y3 ⟨R5, c5, rfl, m5, hq_⟩; have qy3 : Below u4.heap.size u4 y3 := bel_step (by repeat' (first | with_reducible assumption | exact Below.refl _ _ | (refine Below.alloc ?_ (by first | omega | (simp only [World.size_alloc, World.size_setCell, World.size_drew]; done) | (simp only [World.size_alloc, World.size_setCell, World.size_drew]; omega)) _) | (refine Below.drew ?_) | (refine below_drewN ?_ _) | (refine Below.setCell ?_ (by first | omega | (simp only [World.size_alloc, World.size_setCell, World.size_drew]; done) | (simp only [World.size_alloc, World.size_setCell, World.size_drew]; omega)) _))) hq_) | (go_at_call 19; (with_reducible refine (HS3.out _ _ _ _ _ (m3.below (by repeat' (first | with_reducible assumption | exact Below.refl _ _ | (refine Below.alloc ?_ (by first | omega | (simp only [World.size_alloc, World.size_setCell, World.size_drew]; done) | (simp only [World.size_alloc, World.size_setCell, World.size_drew]; omega)) _) | (refine Below.drew ?_) | (refine below_drewN ?_ _) | (refine Below.setCell ?_ (by first | omega | (simp only [World.size_alloc, World.size_setCell, World.size_drew]; done) | (simp only [World.size_alloc, World.size_setCell, World.size_drew]; omega)) _)))) (m4.below (by repeat' (first | with_reducible assumption | exact Below.refl _ _ | (refine Below.alloc ?_ (by first | omega | (simp only [World.size_alloc, World.size_setCell, World.size_drew]; done) | (simp only [World.size_alloc, World.size_setCell, World.size_drew]; omega)) _) | (refine Below.drew ?_) | (refine below_drewN ?_ _) | (refine Below.setCell ?_ (by first | omega | (simp only [World.size_alloc, World.size_setCell, World.size_drew]; done) | (simp only [World.size_alloc, World.size_setCell, World.size_drew]; omega)) _))))).mono ?_); rintro e y2 ⟨rfl, hq_⟩; have qy2 : Below u4.heap.size u4 y2 := bel_step (by repeat' (first | with_reducible assumption | exact Below.refl _ _ | (refine Below.alloc ?_ (by first | omega | (simp only [World.size_alloc, World.size_setCell, World.size_drew]; done) | (simp only [World.size_alloc, World.size_setCell, World.size_drew]; omega)) _) | (refine Below.drew ?_) | (refine below_drewN ?_ _) | (refine Below.setCell ?_ (by first | omega | (simp only [World.size_alloc, World.size_setCell, World.size_drew]; done) | (simp only [World.size_alloc, World.size_setCell, World.size_drew]; omega)) _))) hq_) | (go_at_call 19; (with_reducible refine (HS1.out _ _ _ _ _ (m1.below (by repeat' (first | with_reducible assumption | exact Below.refl _ _ | (refine Below.alloc ?_ (by first | omega | (simp only [World.size_alloc, World.size_setCell, World.size_drew]; done) | (simp only [World.size_alloc, World.size_setCell, World.size_drew]; omega)) _) | (refine Below.drew ?_) | (refine below_drewN ?_ _) | (refine Below.setCell ?_ (by first | omega | (simp only [World.size_alloc, World.size_setCell, World.size_drew]; done) | (simp only [World.size_alloc, World.size_setCell, World.size_drew]; omega)) _)))) (m2.below (by repeat' (first | with_reducible assumption | exact Below.refl _ _ | (refine Below.alloc ?_ (by first | omega | (simp only [World.size_alloc, World.size_setCell, World.size_drew]; done) | (simp only [World.size_alloc, World.size_setCell, World.size_drew]; omega)) _) | (refine Below.drew ?_) | (refine below_drewN ?_ _) | (refine Below.setCell ?_ (by first | omega | (simp only [World.size_alloc, World.size_setCell, World.size_drew]; done) | (simp only [World.size_alloc, World.size_setCell, World.size_drew]; omega)) _))))).mono ?_); rintro e y1 ⟨rfl, hq_⟩; have qy1 : Below u4.heap.size u4 y1 := bel_step (by repeat' (first | with_reducible assumption | exact Below.refl _ _ | (refine Below.alloc ?_ (by first | omega | (simp only [World.size_alloc, World.size_setCell, World.size_drew]; done) | (simp only [World.size_alloc, World.size_setCell, World.size_drew]; omega)) _) | (refine Below.drew ?_) | (refine below_drewN ?_ _) | (refine Below.setCell ?_ (by first | omega | (simp only [World.size_alloc, World.size_setCell, World.size_drew]; done) | (simp only [World.size_alloc, World.size_setCell, World.size_drew]; omega)) _))) hq_) | (go_at_call 44; (with_reducible refine (H7.out _ (bel_step HB (by repeat' (first | with_reducible assumption | exact Below.refl _ _ | (refine Below.alloc ?_ (by first | omega | (simp only [World.size_alloc, World.size_setCell, World.size_drew]; done) | (simp only [World.size_alloc, World.size_setCell, World.size_drew]; omega)) _) | (refine Below.drew ?_) | (refine below_drewN ?_ _) | (refine Below.setCell ?_ (by first | omega | (simp only [World.size_alloc, World.size_setCell, World.size_drew]; done) | (simp only [World.size_alloc, World.size_setCell, World.size_drew]; omega)) _))))).mono ?_); rintro e y6 ⟨rfl, hq_⟩; have qy6 : Below u4.heap.size u4 y6 := bel_step (by repeat' (first | with_reducible assumption | exact Below.refl _ _ | (refine Below.alloc ?_ (by first | omega | (simp only [World.size_alloc, World.size_setCell, World.size_drew]; done) | (simp only [World.size_alloc, World.size_setCell, World.size_drew]; omega)) _) | (refine Below.drew ?_) | (refine below_drewN ?_ _) | (refine Below.setCell ?_ (by first | omega | (simp only [World.size_alloc, World.size_setCell, World.size_drew]; done) | (simp only [World.size_alloc, World.size_setCell, World.size_drew]; omega)) _))) hq_) | (go_at_call 48; (with_reducible refine (H8.out _ (bel_step HB (by repeat' (first | with_reducible assumption | exact Below.refl _ _ | (refine Below.alloc ?_ (by first | omega | (simp only [World.size_alloc, World.size_setCell, World.size_drew]; done) | (simp only [World.size_alloc, World.size_setCell, World.size_drew]; omega)) _) | (refine Below.drew ?_) | (refine below_drewN ?_ _) | (refine Below.setCell ?_ (by first | omega | (simp only [World.size_alloc, World.size_setCell, World.size_drew]; done) | (simp only [World.size_alloc, World.size_setCell, World.size_drew]; omega)) _))))).mono ?_); rintro e y7 ⟨rfl, hq_⟩; have qy7 : Below u4.heap.size u4 y7 := bel_step (by repeat' (first | with_reducible assumption | exact Below.refl _ _ | (refine Below.alloc ?_ (by first | omega | (simp only [World.size_alloc, World.size_setCell, World.size_drew]; done) | (simp only [World.size_alloc, World.size_setCell, World.size_drew]; omega)) _) | (refine Below.drew ?_) | (refine below_drewN ?_ _) | (refine Below.setCell ?_ (by first | omega | (simp only [World.size_alloc, World.size_setCell, World.size_drew]; done) | (simp only [World.size_alloc, World.size_setCell, World.size_drew]; omega)) _))) hq_) | (go_at_call 20; (with_reducible refine (exRunR HE (bel_step HB (by repeat' (first | with_reducible assumption | exact Below.refl _ _ | (refine Below.alloc ?_ (by first | omega | (simp only [World.size_alloc, World.size_setCell, World.size_drew]; done) | (simp only [World.size_alloc, World.size_setCell, World.size_drew]; omega)) _) | (refine Below.drew ?_) | (refine below_drewN ?_ _) | (refine Below.setCell ?_ (by first | omega | (simp only [World.size_alloc, World.size_setCell, World.size_drew]; done) | (simp only [World.size_alloc, World.size_setCell, World.size_drew]; omega)) _))))).mono ?_); rintro e y8 ⟨rfl, hq_⟩; have qy8 : Below u4.heap.size u4 y8 := bel_step (by repeat' (first | with_reducible assumption | exact Below.refl _ _ | (refine Below.alloc ?_ (by first | omega | (simp only [World.size_alloc, World.size_setCell, World.size_drew]; done) | (simp only [World.size_alloc, World.size_setCell, World.size_drew]; omega)) _) | (refine Below.drew ?_) | (refine below_drewN ?_ _) | (refine Below.setCell ?_ (by first | omega | (simp only [World.size_alloc, World.size_setCell, World.size_drew]; done) | (simp only [World.size_alloc, World.size_setCell, World.size_drew]; omega)) _))) hq_))
  all_goals
    go_wp2_with fail
    go_ret
    exact ⟨rfl, HB.trans (qy8.mono HB.size)⟩

theorem fits_int {n : Int} (h1 : -9223372036854775808 ≤ n) (h2 : n ≤ 9223372036854775807) : fits n := by
  unfold fits
  exact Nat.le_trans (len2.2 (by omega)) (by decide)

set_option maxHeartbeats 4000000 in
set_option maxRecDepth 100000 in
theorem converts_law {na : Bool} {xs : List Nat} {A : Option Addr} {ca : Nat} {w : World} (ma : Mg w A ca xs) (n : Int) (hn : (Lit.int .i64 n).wf = true) (htab : PowTab w) :
    Calls Tryd.prog 8 #[.agg #[.bool na, .slice A xs.length ca], .int .i64 n] w (RetB w true) := by
  have HE : Hid (ExOk w) := fun w1 b => examples_ok w1 (htab.below b)
  simp [Lit.wf, IntKind.min, IntKind.max, IntKind.signed, IntKind.bits] at hn
  obtain ⟨k, err, H1, H2⟩ := ToInt_both (na := na) ma
  have HV1 := hid fun (w1 : World) (h : Below w.heap.size w w1) => Valid_any na A ca xs w1 (ma.below h)
  have HV2 := hid fun (w1 : World) (h : Below w.heap.size w w1) => RValid_any na A ca xs w1 (ma.below h)
  obtain ⟨b1, n1, L1, I1⟩ := iz n
  have HF := hid fun (w1 : World) => FromInt_g (w := w1) I1.out hn.1 hn.2
  have HFr := hid fun (w1 : World) => RFromInt_g (w := w1) I1.out hn.1 hn.2
  have HT := hid fun (w1 : World) (R : Option Addr) (c : Nat) (m : Mg w1 R c L1) => ToInt_g (w := w1) I1.out m (fits_int hn.1 hn.2) n (toI_yes hn)
  have HVy := hid fun (w1 : World) (R : Option Addr) (c : Nat) (m : Mg w1 R c L1) => Valid_g (w := w1) I1.out m (fits_int hn.1 hn.2)
  have HS := hid fun (w1 : World) (R Q : Option Addr) (c d : Nat) (m : Mg w1 R c L1) (m' : Mg w1 Q d L1) => Same_g (w := w1) I1.out I1.out m m' true (by simp)
  have HB : Below w.heap.size w w := Below.refl _ _
  clear ma I1 hn
  generalize validB na xs = vb at *
  generalize xs.length = la at *
  go_enter Tryd.func8, Tryd.ntmps8
  go_wp2_with fail
  refine (H1.out _ (by repeat' (first | with_reducible assumption | exact Below.refl _ _ | (refine Below.alloc ?_ (by first | omega | (simp only [World.size_alloc, World.size_setCell, World.size_drew]; done) | (simp only [World.size_alloc, World.size_setCell, World.size_drew]; omega)) _) | (refine Below.drew ?_) | (refine below_drewN ?_ _) | (refine Below.setCell ?_ (by first | omega | (simp only [World.size_alloc, World.size_setCell, World.size_drew]; done) | (simp only [World.size_alloc, World.size_setCell, World.size_drew]; omega)) _)))).mono ?_
  rintro e w1 ⟨rfl, h1⟩
  obtain ⟨f1, f2⟩ := new1 h1
  have hv_ : Below w.heap.size w w1 := Below.trans (b := _) (by repeat (first | assumption | exact Below.refl _ _ | refine Below.alloc ?_ (by simp; try omega) _ | refine Below.drew ?_ | refine below_drewN ?_ _)) (h1.mono (by simp; try omega))
  replace HB := HB.trans (hv_.mono HB.size)
  clear hv_
  have lt_f1 := cell_lt f1
  have lt_f2 := cell_lt f2
  go_wp2_with fail
  refine (H2.out _ HB).mono ?_
  rintro e w2 ⟨rfl, h2⟩
  have hv_ : Below w1.heap.size w1 w2 := Below.trans (b := _) (by repeat (first | assumption | exact Below.refl _ _ | refine Below.alloc ?_ (by simp; try omega) _ | refine Below.drew ?_ | refine below_drewN ?_ _)) (h2.mono (by simp; try omega))
  replace f1 := keep_cell hv_ f1
  replace f2 := keep_cell hv_ f2
  have lt_f1 := cell_lt f1
  have lt_f2 := cell_lt f2
  replace HB := HB.trans (hv_.mono HB.size)
  clear hv_
  go_wp2_with fail
  refine (HF.out _).mono ?_
  rintro e w3 ⟨R1, c1, rfl, m1, h3⟩
  have hv_ : Below w2.heap.size w2 w3 := Below.trans (b := _) (by repeat (first | assumption | exact Below.refl _ _ | refine Below.alloc ?_ (by simp; try omega) _ | refine Below.drew ?_ | refine below_drewN ?_ _)) (h3.mono (by simp; try omega))
  replace f1 := keep_cell hv_ f1
  replace f2 := keep_cell hv_ f2
  have lt_f1 := cell_lt f1
  have lt_f2 := cell_lt f2
  replace HB := HB.trans (hv_.mono HB.size)
  clear hv_
  go_wp2_with fail
  have g0 := at_alloc0 (W := w3) (a := .bool b1) (b := .slice R1 n1 c1) (t := 24) rfl
  have g1 := at_alloc1 (W := w3) (a := .bool b1) (b := .slice R1 n1 c1) (t := 24) rfl
  have hv_ : Below w3.heap.size w3 (w3.alloc (.cells #[.bool b1, .slice R1 n1 c1] 24)) := (Below.refl _ _).alloc (Nat.le_refl _) _
  generalize w3.alloc (.cells #[.bool b1, .slice R1 n1 c1] 24) = u3 at *
  replace m1 := m1.below hv_
  replace f1 := keep_cell hv_ f1
  replace f2 := keep_cell hv_ f2
  replace HB := HB.trans (hv_.mono HB.size)
  clear hv_
  refine (HT.out _ _ _ m1).mono ?_
  rintro e w4 ⟨rfl, h4⟩
  have hv_ : Below u3.heap.size u3 w4 := Below.trans (b := _) (by repeat (first | assumption | exact Below.refl _ _ | refine Below.alloc ?_ (by simp; try omega) _ | refine Below.drew ?_ | refine below_drewN ?_ _)) (h4.mono (by simp; try omega))
  replace m1 := m1.below hv_
  replace f1 := keep_cell hv_ f1
  replace f2 := keep_cell hv_ f2
  replace g0 := keep_cell hv_ g0
  replace g1 := keep_cell hv_ g1
  have lt_f1 := cell_lt f1
  have lt_f2 := cell_lt f2
  have lt_g0 := cell_lt g0
  have lt_g1 := cell_lt g1
  replace HB := HB.trans (hv_.mono HB.size)
  clear hv_
  go_wp2_with fail
  go_region_held3 (fun w' => (w'.cell? ⟨w3.heap.size, 0, none⟩ = some (.bool b1) ∧ w'.cell? ⟨w3.heap.size, 1, none⟩ = some (.slice R1 n1 c1)) ∧ (w'.cell? ⟨w.heap.size, 0, none⟩ = some (.bool na) ∧ w'.cell? ⟨w.heap.size, 1, none⟩ = some (.slice A la ca))) (first | ((try dsimp only); repeat' (first | with_reducible assumption | apply And.intro | (with_reducible refine keep_cell (W := w4) ?_ ?_) | exact (Below.refl _ _).drew | fail))) (first | (go_at_call 19; (with_reducible refine (HS.out _ _ _ _ _ (m1.below (by repeat' (first | with_reducible assumption | exact Below.refl _ _ | (refine Below.alloc ?_ (by first | omega | (simp only [World.size_alloc, World.size_setCell, World.size_drew]; done) | (simp only [World.size_alloc, World.size_setCell, World.size_drew]; omega)) _) | (refine Below.drew ?_) | (refine below_drewN ?_ _) | (refine Below.setCell ?_ (by first | omega | (simp only [World.size_alloc, World.size_setCell, World.size_drew]; done) | (simp only [World.size_alloc, World.size_setCell, World.size_drew]; omega)) _)))) m6).mono ?_); rintro e y4 ⟨rfl, hq_⟩; have qy4 : Below w4.heap.size w4 y4 := bel_step (by repeat' (first | with_reducible assumption | exact Below.refl _ _ | (refine Below.alloc ?_ (by first | omega | (simp only [World.size_alloc, World.size_setCell, World.size_drew]; done) | (simp only [World.size_alloc, World.size_setCell, World.size_drew]; omega)) _) | (refine Below.drew ?_) | (refine below_drewN ?_ _) | (refine Below.setCell ?_ (by first | omega | (simp only [World.size_alloc, World.size_setCell, World.size_drew]; done) | (simp only [World.size_alloc, World.size_setCell, World.size_drew]; omega)) _))) hq_) | (go_at_call 34; (with_reducible refine (HFr.out _).mono ?_); rintro e y3 ⟨R6, c6, rfl, m6, hq_⟩; have qy3 : Below w4.heap.size w4 y3 := bel_step (by repeat' (first | with_reducible assumption | exact Below.refl _ _ | (refine Below.alloc ?_ (by first | omega | (simp only [World.size_alloc, World.size_setCell, World.size_drew]; done) | (simp only [World.size_alloc, World.size_setCell, World.size_drew]; omega)) _) | (refine Below.drew ?_) | (refine below_drewN ?_ _) | (refine Below.setCell ?_ (by first | omega | (simp only [World.size_alloc, World.size_setCell, World.size_drew]; done) | (simp only [World.size_alloc, World.size_setCell, World.size_drew]; omega)) _))) hq_) | (go_at_call 33; (with_reducible refine (HV2.out _ (bel_step HB (by repeat' (first | with_reducible assumption | exact Below.refl _ _ | (refine Below.alloc ?_ (by first | omega | (simp only [World.size_alloc, World.size_setCell, World.size_drew]; done) | (simp only [World.size_alloc, World.size_setCell, World.size_drew]; omega)) _) | (refine Below.drew ?_) | (refine below_drewN ?_ _) | (refine Below.setCell ?_ (by first | omega | (simp only [World.size_alloc, World.size_setCell, World.size_drew]; done) | (simp only [World.size_alloc, World.size_setCell, World.size_drew]; omega)) _))))).mono ?_); rintro e y2 ⟨rfl, hq_⟩; have qy2 : Below w4.heap.size w4 y2 := bel_step (by repeat' (first | with_reducible assumption | exact Below.refl _ _ | (refine Below.alloc ?_ (by first | omega | (simp only [World.size_alloc, World.size_setCell, World.size_drew]; done) | (simp only [World.size_alloc, World.size_setCell, World.size_drew]; omega)) _) | (refine Below.drew ?_) | (refine below_drewN ?_ _) | (refine Below.setCell ?_ (by first | omega | (simp only [World.size_alloc, World.size_setCell, World.size_drew]; done) | (simp only [World.size_alloc, World.size_setCell, World.size_drew]; omega)) _))) hq_) | (go_at_call 29; (with_reducible refine (HV1.out _ (bel_step HB (by repeat' (first | with_reducible assumption | exact Below.refl _ _ | (refine Below.alloc ?_ (by first | omega | (simp only [World.size_alloc, World.size_setCell, World.size_drew]; done) | (simp only [World.size_alloc, World.size_setCell, World.size_drew]; omega)) _) | (refine Below.drew ?_) | (refine below_drewN ?_ _) | (refine Below.setCell ?_ (by first | omega | (simp only [World.size_alloc, World.size_setCell, World.size_drew]; done) | (simp only [World.size_alloc, World.size_setCell, World.size_drew]; omega)) _))))).mono ?_); rintro e y1 ⟨rfl, hq_⟩; have qy1 : Below w4.heap.size w4 y1 := bel_step (by repeat' (first | with_reducible assumption | exact Below.refl _ _ | (refine Below.alloc ?_ (by first | omega | (simp only [World.size_alloc, World.size_setCell, World.size_drew]; done) | (simp only [World.size_alloc, World.size_setCell, World.size_drew]; omega)) _) | (refine Below.drew ?_) | (refine below_drewN ?_ _) | (refine Below.setCell ?_ (by first | omega | (simp only [World.size_alloc, World.size_setCell, World.size_drew]; done) | (simp only [World.size_alloc, World.size_setCell, World.size_drew]; omega)) _))) hq_) | (go_at_call 29; (with_reducible refine (HVy.out _ _ _ (m1.below (by repeat' (first | with_reducible assumption | exact Below.refl _ _ | (refine Below.alloc ?_ (by first | omega | (simp only [World.size_alloc, World.size_setCell, World.size_drew]; done) | (simp only [World.size_alloc, World.size_setCell, World.size_drew]; omega)) _) | (refine Below.drew ?_) | (refine below_drewN ?_ _) | (refine Below.setCell ?_ (by first | omega | (simp only [World.size_alloc, World.size_setCell, World.size_drew]; done) | (simp only [World.size_alloc, World.size_setCell, World.size_drew]; omega)) _))))).mono ?_); rintro e y5 ⟨rfl, hq_⟩; have qy5 : Below w4.heap.size w4 y5 := bel_step (by repeat' (first | with_reducible assumption | exact Below.refl _ _ | (refine Below.alloc ?_ (by first | omega | (simp only [World.size_alloc, World.size_setCell, World.size_drew]; done) | (simp only [World.size_alloc, World.size_setCell, World.size_drew]; omega)) _) | (refine Below.drew ?_) | (refine below_drewN ?_ _) | (refine Below.setCell ?_ (by first | omega | (simp only [World.size_alloc, World.size_setCell, World.size_drew]; done) | (simp only [World.size_alloc, World.size_setCell, World.size_drew]; omega)) _))) hq_) | (go_at_call 20; (with_reducible refine (exRunR HE (bel_step HB (by repeat' (first | with_reducible assumption | exact Below.refl _ _ | (refine Below.alloc ?_ (by first | omega | (simp only [World.size_alloc, World.size_setCell, World.size_drew]; done) | (simp only [World.size_alloc, World.size_setCell, World.size_drew]; omega)) _) | (refine Below.drew ?_) | (refine below_drewN ?_ _) | (refine Below.setCell ?_ (by first | omega | (simp only [World.size_alloc, World.size_setCell, World.size_drew]; done) | (simp only [World.size_alloc, World.size_setCell, World.size_drew]; omega)) _))))).mono ?_); rintro e y8 ⟨rfl, hq_⟩; have qy8 : Below w4.heap.size w4 y8 := bel_step (by repeat' (first | with_reducible assumption | exact Below.refl _ _ | (refine Below.alloc ?_ (by first | omega | (simp only [World.size_alloc, World.size_setCell, World.size_drew]; done) | (simp only [World.size_alloc, World.size_setCell, World.size_drew]; omega)) _) | (refine Below.drew ?_) | (refine below_drewN ?_ _) | (refine Below.setCell ?_ (by first | omega | (simp only [World.size_alloc, World.size_setCell, World.size_drew]; done) | (simp only [World.size_alloc, World.size_setCell, World.size_drew]; omega)) _))) hq_))
  all_goals
    go_wp2_with fail
    go_ret
    exact ⟨rfl, HB.trans (qy8.mono HB.size)⟩
end Go.Proofs.YtkfpcohdbbhmaaaDoor
