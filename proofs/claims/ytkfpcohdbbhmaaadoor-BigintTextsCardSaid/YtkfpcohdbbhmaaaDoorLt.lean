/- The law BigintTexts: its walk. Conditions: none. -/
import Derived.Test.YtkfpcohdbbhmaaaDoorR16
import Derived.Test.YtkfpcohdbbhmaaaDoorR15
import Derived.Test.YtkfpcohdbbhmaaaDoorLm
import Derived.Deep.RegionHeld3
namespace Go.Proofs.YtkfpcohdbbhmaaaDoor
set_option linter.unusedVariables false
set_option linter.unusedSimpArgs false
open Go.RowKit Big

theorem Format_both {na : Bool} {xs : List Nat} {A : Option Addr} {c : Nat} {w : World} (ha : Mg w A c xs) (htab : PowTab w) :
    ∃ D : ByteArray, Hid (∀ w1, Below w.heap.size w w1 → Calls Tryd.prog 25 #[.agg #[.bool na, .slice A xs.length c]] w1 fun e w' => e = .returned (.string D) ∧ Below w1.heap.size w1 w') ∧ Hid (∀ w1, Below w.heap.size w w1 → Calls Tryd.prog 26 #[.agg #[.bool na, .slice A xs.length c]] w1 fun e w' => e = .returned (.string D) ∧ Below w1.heap.size w1 w') := by
  cases h3 : validB na xs
  · exact ⟨_, fun w1 h => Format_bad na xs A c w1 (ha.below h) h3, fun w1 h => RFormat_bad na xs A c w1 (ha.below h) h3⟩
  · obtain ⟨x, rfl, rfl, fx⟩ := valid_z ha.ok h3
    by_cases h0 : x = 0
    · subst h0
      refine ⟨⟨(fmtZ 0).toArray⟩, fun w1 h => ?_, fun w1 h => RFormat_ok 0 A c w1 (ha.below h) fx⟩
      have h1 := Format_zero A c w1 (ha.below h)
      rw [show [48] = fmtZ 0 by decide +kernel] at h1
      exact h1
    · exact ⟨⟨(fmtZ x).toArray⟩, fun w1 h => Format_ok x A c w1 (ha.below h) fx h0 (htab.below h), fun w1 h => RFormat_ok x A c w1 (ha.below h) fx⟩

set_option maxHeartbeats 4000000 in
set_option maxRecDepth 100000 in
theorem texts_law {na : Bool} {xs : List Nat} {A : Option Addr} {ca : Nat} {w : World} (ma : Mg w A ca xs) (s : ByteArray) (htab : PowTab w) :
    Calls Tryd.prog 5 #[.agg #[.bool na, .slice A xs.length ca], .string s] w (RetB w true) := by
  have HE : Hid (ExOk w) := fun w1 b => examples_ok w1 (htab.below b)
  obtain ⟨D, H3, H4⟩ := Format_both (na := na) ma htab
  have H1 := hid fun (w1 : World) => Parse_any s w1
  have H2 := hid fun (w1 : World) => RParse_any s w1
  obtain ⟨z, hz⟩ : ∃ z, (parE s.data.toList).1 = z := ⟨_, rfl⟩
  obtain ⟨err, he⟩ : ∃ z, (parE s.data.toList).2 = z := ⟨_, rfl⟩
  rw [hz, he] at H1 H2
  obtain ⟨b1, n1, L1, I1⟩ := iz z
  have H1 := hid fun (w1 : World) => (H1.out w1).mono fun e w' h => h.g I1.out
  have H2 := hid fun (w1 : World) => (H2.out w1).mono fun e w' h => h.g I1.out
  have HS := hid fun (w1 : World) (R Q : Option Addr) (c d : Nat) (m : Mg w1 R c L1) (m' : Mg w1 Q d L1) => Same_g (w := w1) I1.out I1.out m m' true (by simp)
  have HB : Below w.heap.size w w := Below.refl _ _
  clear ma I1 hz he
  generalize xs.length = la at *
  go_enter Tryd.func5, Tryd.ntmps5
  go_wp2_with fail
  refine (H1.out _).mono ?_
  rintro e w1 ⟨R1, c1, rfl, m1, h1⟩
  obtain ⟨f1, f2⟩ := new1 h1
  have hv_ : Below w.heap.size w w1 := Below.trans (b := _) (by repeat (first | assumption | exact Below.refl _ _ | refine Below.alloc ?_ (by simp; try omega) _ | refine Below.drew ?_ | refine below_drewN ?_ _)) (h1.mono (by simp; try omega))
  replace HB := HB.trans (hv_.mono HB.size)
  clear hv_
  have lt_f1 := cell_lt f1
  have lt_f2 := cell_lt f2
  go_wp2_with fail
  have g0 := at_alloc0 (W := w1) (a := .bool b1) (b := .slice R1 n1 c1) (t := 24) rfl
  have g1 := at_alloc1 (W := w1) (a := .bool b1) (b := .slice R1 n1 c1) (t := 24) rfl
  have hv_ : Below w1.heap.size w1 (w1.alloc (.cells #[.bool b1, .slice R1 n1 c1] 24)) := (Below.refl _ _).alloc (Nat.le_refl _) _
  generalize w1.alloc (.cells #[.bool b1, .slice R1 n1 c1] 24) = u1 at *
  replace m1 := m1.below hv_
  replace f1 := keep_cell hv_ f1
  replace f2 := keep_cell hv_ f2
  replace HB := HB.trans (hv_.mono HB.size)
  clear hv_
  refine (H2.out _).mono ?_
  rintro e w2 ⟨R2, c2, rfl, m2, h2⟩
  have hv_ : Below u1.heap.size u1 w2 := Below.trans (b := _) (by repeat (first | assumption | exact Below.refl _ _ | refine Below.alloc ?_ (by simp; try omega) _ | refine Below.drew ?_ | refine below_drewN ?_ _)) (h2.mono (by simp; try omega))
  replace m1 := m1.below hv_
  replace f1 := keep_cell hv_ f1
  replace f2 := keep_cell hv_ f2
  replace g0 := keep_cell hv_ g0
  replace g1 := keep_cell hv_ g1
  have lt_f1 := cell_lt f1
  have lt_f2 := cell_lt f2
  have lt_g0 := cell_lt g0
  have lt_g1 := cell_lt g1
  replace HB := HB.trans (hv_.mono HB.size)
  clear hv_
  go_wp2_with fail
  have k0 := at_alloc0 (W := w2) (a := .bool b1) (b := .slice R2 n1 c2) (t := 24) rfl
  have k1 := at_alloc1 (W := w2) (a := .bool b1) (b := .slice R2 n1 c2) (t := 24) rfl
  have hv_ : Below w2.heap.size w2 (w2.alloc (.cells #[.bool b1, .slice R2 n1 c2] 24)) := (Below.refl _ _).alloc (Nat.le_refl _) _
  generalize w2.alloc (.cells #[.bool b1, .slice R2 n1 c2] 24) = u2 at *
  replace m1 := m1.below hv_
  replace m2 := m2.below hv_
  replace f1 := keep_cell hv_ f1
  replace f2 := keep_cell hv_ f2
  replace g0 := keep_cell hv_ g0
  replace g1 := keep_cell hv_ g1
  replace HB := HB.trans (hv_.mono HB.size)
  clear hv_
  go_region_held3 (fun w' => (w'.cell? ⟨w1.heap.size, 0, none⟩ = some (.bool b1) ∧ w'.cell? ⟨w1.heap.size, 1, none⟩ = some (.slice R1 n1 c1)) ∧ (w'.cell? ⟨w2.heap.size, 0, none⟩ = some (.bool b1) ∧ w'.cell? ⟨w2.heap.size, 1, none⟩ = some (.slice R2 n1 c2)) ∧ (w'.cell? ⟨w.heap.size, 0, none⟩ = some (.bool na) ∧ w'.cell? ⟨w.heap.size, 1, none⟩ = some (.slice A la ca))) (first | ((try dsimp only); repeat' (first | with_reducible assumption | apply And.intro | (with_reducible refine keep_cell (W := u2) ?_ ?_) | exact (Below.refl _ _).drew | fail))) (first | (go_at_call 19; (with_reducible refine (HS.out _ _ _ _ _ (m1.below (by repeat' (first | with_reducible assumption | exact Below.refl _ _ | (refine Below.alloc ?_ (by first | omega | (simp only [World.size_alloc, World.size_setCell, World.size_drew]; done) | (simp only [World.size_alloc, World.size_setCell, World.size_drew]; omega)) _) | (refine Below.drew ?_) | (refine below_drewN ?_ _) | (refine Below.setCell ?_ (by first | omega | (simp only [World.size_alloc, World.size_setCell, World.size_drew]; done) | (simp only [World.size_alloc, World.size_setCell, World.size_drew]; omega)) _)))) (m2.below (by repeat' (first | with_reducible assumption | exact Below.refl _ _ | (refine Below.alloc ?_ (by first | omega | (simp only [World.size_alloc, World.size_setCell, World.size_drew]; done) | (simp only [World.size_alloc, World.size_setCell, World.size_drew]; omega)) _) | (refine Below.drew ?_) | (refine below_drewN ?_ _) | (refine Below.setCell ?_ (by first | omega | (simp only [World.size_alloc, World.size_setCell, World.size_drew]; done) | (simp only [World.size_alloc, World.size_setCell, World.size_drew]; omega)) _))))).mono ?_); rintro e y1 ⟨rfl, hq_⟩; have qy1 : Below u2.heap.size u2 y1 := bel_step (by repeat' (first | with_reducible assumption | exact Below.refl _ _ | (refine Below.alloc ?_ (by first | omega | (simp only [World.size_alloc, World.size_setCell, World.size_drew]; done) | (simp only [World.size_alloc, World.size_setCell, World.size_drew]; omega)) _) | (refine Below.drew ?_) | (refine below_drewN ?_ _) | (refine Below.setCell ?_ (by first | omega | (simp only [World.size_alloc, World.size_setCell, World.size_drew]; done) | (simp only [World.size_alloc, World.size_setCell, World.size_drew]; omega)) _))) hq_) | (go_at_call 25; (with_reducible refine (H3.out _ (bel_step HB (by repeat' (first | with_reducible assumption | exact Below.refl _ _ | (refine Below.alloc ?_ (by first | omega | (simp only [World.size_alloc, World.size_setCell, World.size_drew]; done) | (simp only [World.size_alloc, World.size_setCell, World.size_drew]; omega)) _) | (refine Below.drew ?_) | (refine below_drewN ?_ _) | (refine Below.setCell ?_ (by first | omega | (simp only [World.size_alloc, World.size_setCell, World.size_drew]; done) | (simp only [World.size_alloc, World.size_setCell, World.size_drew]; omega)) _))))).mono ?_); rintro e y2 ⟨rfl, hq_⟩; have qy2 : Below u2.heap.size u2 y2 := bel_step (by repeat' (first | with_reducible assumption | exact Below.refl _ _ | (refine Below.alloc ?_ (by first | omega | (simp only [World.size_alloc, World.size_setCell, World.size_drew]; done) | (simp only [World.size_alloc, World.size_setCell, World.size_drew]; omega)) _) | (refine Below.drew ?_) | (refine below_drewN ?_ _) | (refine Below.setCell ?_ (by first | omega | (simp only [World.size_alloc, World.size_setCell, World.size_drew]; done) | (simp only [World.size_alloc, World.size_setCell, World.size_drew]; omega)) _))) hq_) | (go_at_call 26; (with_reducible refine (H4.out _ (bel_step HB (by repeat' (first | with_reducible assumption | exact Below.refl _ _ | (refine Below.alloc ?_ (by first | omega | (simp only [World.size_alloc, World.size_setCell, World.size_drew]; done) | (simp only [World.size_alloc, World.size_setCell, World.size_drew]; omega)) _) | (refine Below.drew ?_) | (refine below_drewN ?_ _) | (refine Below.setCell ?_ (by first | omega | (simp only [World.size_alloc, World.size_setCell, World.size_drew]; done) | (simp only [World.size_alloc, World.size_setCell, World.size_drew]; omega)) _))))).mono ?_); rintro e y3 ⟨rfl, hq_⟩; have qy3 : Below u2.heap.size u2 y3 := bel_step (by repeat' (first | with_reducible assumption | exact Below.refl _ _ | (refine Below.alloc ?_ (by first | omega | (simp only [World.size_alloc, World.size_setCell, World.size_drew]; done) | (simp only [World.size_alloc, World.size_setCell, World.size_drew]; omega)) _) | (refine Below.drew ?_) | (refine below_drewN ?_ _) | (refine Below.setCell ?_ (by first | omega | (simp only [World.size_alloc, World.size_setCell, World.size_drew]; done) | (simp only [World.size_alloc, World.size_setCell, World.size_drew]; omega)) _))) hq_) | (go_at_call 20; (with_reducible refine (exRunR HE (bel_step HB (by repeat' (first | with_reducible assumption | exact Below.refl _ _ | (refine Below.alloc ?_ (by first | omega | (simp only [World.size_alloc, World.size_setCell, World.size_drew]; done) | (simp only [World.size_alloc, World.size_setCell, World.size_drew]; omega)) _) | (refine Below.drew ?_) | (refine below_drewN ?_ _) | (refine Below.setCell ?_ (by first | omega | (simp only [World.size_alloc, World.size_setCell, World.size_drew]; done) | (simp only [World.size_alloc, World.size_setCell, World.size_drew]; omega)) _))))).mono ?_); rintro e y8 ⟨rfl, hq_⟩; have qy8 : Below u2.heap.size u2 y8 := bel_step (by repeat' (first | with_reducible assumption | exact Below.refl _ _ | (refine Below.alloc ?_ (by first | omega | (simp only [World.size_alloc, World.size_setCell, World.size_drew]; done) | (simp only [World.size_alloc, World.size_setCell, World.size_drew]; omega)) _) | (refine Below.drew ?_) | (refine below_drewN ?_ _) | (refine Below.setCell ?_ (by first | omega | (simp only [World.size_alloc, World.size_setCell, World.size_drew]; done) | (simp only [World.size_alloc, World.size_setCell, World.size_drew]; omega)) _))) hq_))
  all_goals
    go_wp2_with fail
    go_ret
    exact ⟨rfl, HB.trans (qy8.mono HB.size)⟩
end Go.Proofs.YtkfpcohdbbhmaaaDoor
