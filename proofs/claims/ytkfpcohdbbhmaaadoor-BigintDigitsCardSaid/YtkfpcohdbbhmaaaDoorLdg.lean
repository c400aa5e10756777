/- The law BigintDigits: its walk. Conditions: none. -/
import Derived.Test.YtkfpcohdbbhmaaaDoorR14
import Derived.Test.YtkfpcohdbbhmaaaDoorLm
namespace Go.Proofs.YtkfpcohdbbhmaaaDoor
set_option linter.unusedVariables false
set_option linter.unusedSimpArgs false
open Go.RowKit Big

set_option maxHeartbeats 1000000 in
/-- two lists that hold the same numbers -/
theorem ints_same (L : List Nat) (A B : Option Addr) (c d : Nat) (w : World) (ha : Rd dg w A L) (hb : Rd dg w B L) (hl : L.length ≤ 1073741824) :
    Calls Tryd.prog 39 #[.slice A L.length c, .slice B L.length d] w (RetB w true) := by
  go_enter Tryd.func39, Tryd.ntmps39
  go_wp2
  go_loopw [5] (fun s5 wr => ∃ k : Nat, k ≤ L.length ∧ s5 = .int .i64 k ∧ Below w.heap.size w wr) (fun s5 _ => L.length - (intOf s5).toNat)
  case atStart => exact ⟨0, by omega, rfl, Below.refl _ _⟩
  case round =>
    obtain ⟨k, hk, rfl, hbl⟩ := hrel
    by_cases h0 : k < L.length
    · obtain ⟨ba, oa, rfl, hba, hca⟩ := ha.at_ h0
      obtain ⟨bb, ob, rfl, hbb, hcb⟩ := hb.at_ h0
      have c1 := (hbl.cell (p := ⟨ba, oa + k, none⟩) hba).trans (hca k h0)
      have c2 := (hbl.cell (p := ⟨bb, ob + k, none⟩) hbb).trans (hcb k h0)
      unfold dg at c1 c2
      clear hca hcb
      go_wp2
      go_quiet (fail)
      go_wp2
      go_roundw
      case rel => exact ⟨k + 1, by omega, by go_num, below_drewN hbl _⟩
      case measure => simp [intOf]; omega
    · obtain rfl : k = L.length := by omega
      go_wp2
      go_ret
      exact ⟨rfl, hbl⟩

theorem dgE_len (b n : Nat) : (dgE b n).1.length ≤ 4096 := by
  unfold dgE
  split
  · simp
  · split
    · simpa using ‹_›
    · simp

theorem Digits_both {na : Bool} {xs : List Nat} {A : Option Addr} {c : Nat} {w : World} (ha : Mg w A c xs) (n : Int) :
    ∃ L err, L.length ≤ 4096 ∧ Hid (∀ w1, Below w.heap.size w w1 → Calls Tryd.prog 35 #[.agg #[.bool na, .slice A xs.length c], .int .i64 n] w1 (RetIL w1 L err)) ∧ Hid (∀ w1, Below w.heap.size w w1 → Calls Tryd.prog 36 #[.agg #[.bool na, .slice A xs.length c], .int .i64 n] w1 (RetIL w1 L err)) := by
  cases h3 : validB na xs
  · exact ⟨[], 1, by simp, fun w1 h => Digits_bad1 na xs n A c w1 (ha.below h) h3, fun w1 h => RDigits_bad1 na xs n A c w1 (ha.below h) h3⟩
  · obtain ⟨x, rfl, rfl, fx⟩ := valid_z ha.ok h3
    by_cases hb : x < 0 ∨ n < 2 ∨ 65536 < n
    · exact ⟨[], 1, by simp, fun w1 h => Digits_bad2 x n A c w1 (ha.below h) fx hb, fun w1 h => RDigits_bad2 x n A c w1 (ha.below h) fx hb⟩
    · obtain ⟨b, rfl⟩ := Int.eq_ofNat_of_zero_le (show 0 ≤ n by omega)
      obtain ⟨m, rfl⟩ := Int.eq_ofNat_of_zero_le (show 0 ≤ x by omega)
      rw [show decide ((m : Int) < 0) = false by simp, Int.natAbs_natCast] at *
      have hf : (limbs m).length ≤ 512 := by unfold fits at fx; rwa [Int.natAbs_natCast] at fx
      exact ⟨_, _, dgE_len b m, fun w1 h => Digits_ok m b A c w1 (ha.below h) hf (by omega) (by omega), fun w1 h => RDigits_ok m b A c w1 (ha.below h) hf (by omega) (by omega)⟩

theorem FromDigits_both {l : List Int} {A : Option Addr} {c : Nat} {w : World} (ha : Rd di w A l) (n : Int) :
    ∃ z err, Hid (∀ w1, Below w.heap.size w w1 → Calls Tryd.prog 37 #[.slice A l.length c, .int .i64 n] w1 (RetZE w1 z err)) ∧ Hid (∀ w1, Below w.heap.size w w1 → Calls Tryd.prog 38 #[.slice A l.length c, .int .i64 n] w1 (RetZE w1 z err)) := by
  by_cases hb : n < 2 ∨ 65536 < n
  · exact ⟨0, 1, fun w1 h => FromDigits_base l n A c w1 hb, fun w1 h => RFromDigits_base l n A c w1 hb⟩
  · obtain ⟨b, rfl⟩ := Int.eq_ofNat_of_zero_le (show 0 ≤ n by omega)
    exact ⟨_, _, fun w1 h => FromDigits_ok l b A c w1 (ha.below h) (by omega) (by omega), fun w1 h => RFromDigits_ok l b A c w1 (ha.below h) (by omega) (by omega)⟩

set_option maxHeartbeats 2000000 in
theorem digits_law {na : Bool} {xs : List Nat} {A : Option Addr} {ca : Nat} {w : World} (ma : Mg w A ca xs) {l : List Int} {B : Option Addr} {cb : Nat} (mb : Rd di w B l) (n : Int) (hn : (Lit.int .i64 n).wf = true) (htab : PowTab w) :
    Calls Tryd.prog 9 #[.agg #[.bool na, .slice A xs.length ca], .slice B l.length cb, .int .i64 n] w (RetB w true) := by
  have HE : Hid (ExOk w) := fun w1 b => examples_ok w1 (htab.below b)
  obtain ⟨L, err, hL, H1, H2⟩ := Digits_both (na := na) ma n
  obtain ⟨z, err3, H3, H4⟩ := FromDigits_both (c := cb) mb n
  obtain ⟨b1, n1, L1, I1⟩ := iz z
  replace H3 := allg H3 fun w1 e w' h => h.g I1.out
  replace H4 := allg H4 fun w1 e w' h => h.g I1.out
  have HI := hid fun (w1 : World) (R Q : Option Addr) (c d : Nat) (m : Rd dg w1 R L) (m' : Rd dg w1 Q L) => ints_same L R Q c d w1 m m' (by omega)
  have HS := hid fun (w1 : World) (R Q : Option Addr) (c d : Nat) (m : Mg w1 R c L1) (m' : Mg w1 Q d L1) => Same_g (w := w1) I1.out I1.out m m' true (by simp)
  have HB : Below w.heap.size w w := Below.refl _ _
  clear ma mb I1 hn
  generalize xs.length = la at *
  generalize l.length = lb_ at *
  go_enter Tryd.func9, Tryd.ntmps9
  go_wp2_with fail
  refine (H1.out _ (by repeat' (first | with_reducible assumption | exact Below.refl _ _ | (refine Below.alloc ?_ (by first | omega | (simp only [World.size_alloc, World.size_setCell, World.size_drew]; done) | (simp only [World.size_alloc, World.size_setCell, World.size_drew]; omega)) _) | (refine Below.drew ?_) | (refine below_drewN ?_ _) | (refine Below.setCell ?_ (by first | omega | (simp only [World.size_alloc, World.size_setCell, World.size_drew]; done) | (simp only [World.size_alloc, World.size_setCell, World.size_drew]; omega)) _)))).mono ?_
  rintro e w1 ⟨R1, c1, rfl, m1, h1⟩
  obtain ⟨f1, f2⟩ := new1 h1
  have hv_ : Below w.heap.size w w1 := Below.trans (b := _) (by repeat (first | assumption | exact Below.refl _ _ | refine Below.alloc ?_ (by simp; try omega) _ | refine Below.drew ?_ | refine below_drewN ?_ _)) (h1.mono (by simp; try omega))
  replace HB := HB.trans (hv_.mono HB.size)
  clear hv_
  have lt_f1 := cell_lt f1
  have lt_f2 := cell_lt f2
  go_wp2_with fail
  refine (H2.out _ HB).mono ?_
  rintro e w2 ⟨R2, c2, rfl, m2, h2⟩
  have hv_ : Below w1.heap.size w1 w2 := Below.trans (b := _) (by repeat (first | assumption | exact Below.refl _ _ | refine Below.alloc ?_ (by simp; try omega) _ | refine Below.drew ?_ | refine below_drewN ?_ _)) (h2.mono (by simp; try omega))
  replace m1 := m1.below hv_
  replace f1 := keep_cell hv_ f1
  replace f2 := keep_cell hv_ f2
  have lt_f1 := cell_lt f1
  have lt_f2 := cell_lt f2
  replace HB := HB.trans (hv_.mono HB.size)
  clear hv_
  go_wp2_with fail
  refine (H3.out _ HB).mono ?_
  rintro e w3 ⟨R3, c3, rfl, m3, h3⟩
  have hv_ : Below w2.heap.size w2 w3 := Below.trans (b := _) (by repeat (first | assumption | exact Below.refl _ _ | refine Below.alloc ?_ (by simp; try omega) _ | refine Below.drew ?_ | refine below_drewN ?_ _)) (h3.mono (by simp; try omega))
  replace m1 := m1.below hv_
  replace m2 := m2.below hv_
  replace f1 := keep_cell hv_ f1
  replace f2 := keep_cell hv_ f2
  have lt_f1 := cell_lt f1
  have lt_f2 := cell_lt f2
  replace HB := HB.trans (hv_.mono HB.size)
  clear hv_
  go_wp2_with fail
  have g0 := at_alloc0 (W := w3) (a := .bool b1) (b := .slice R3 n1 c3) (t := 24) rfl
  have g1 := at_alloc1 (W := w3) (a := .bool b1) (b := .slice R3 n1 c3) (t := 24) rfl
  have hv_ : Below w3.heap.size w3 (w3.alloc (.cells #[.bool b1, .slice R3 n1 c3] 24)) := (Below.refl _ _).alloc (Nat.le_refl _) _
  generalize w3.alloc (.cells #[.bool b1, .slice R3 n1 c3] 24) = u3 at *
  replace m1 := m1.below hv_
  replace m2 := m2.below hv_
  replace m3 := m3.below hv_
  replace f1 := keep_cell hv_ f1
  replace f2 := keep_cell hv_ f2
  replace HB := HB.trans (hv_.mono HB.size)
  clear hv_
  refine (H4.out _ HB).mono ?_
  rintro e w4 ⟨R4, c4, rfl, m4, h4⟩
  have hv_ : Below u3.heap.size u3 w4 := Below.trans (b := _) (by repeat (first | assumption | exact Below.refl _ _ | refine Below.alloc ?_ (by simp; try omega) _ | refine Below.drew ?_ | refine below_drewN ?_ _)) (h4.mono (by simp; try omega))
  replace m1 := m1.below hv_
  replace m2 := m2.below hv_
  replace m3 := m3.below hv_
  replace g0 := keep_cell hv_ g0
  replace g1 := keep_cell hv_ g1
  have lt_g0 := cell_lt g0
  have lt_g1 := cell_lt g1
  replace HB := HB.trans (hv_.mono HB.size)
  clear hv_
  go_wp2_with fail
  have k0 := at_alloc0 (W := w4) (a := .bool b1) (b := .slice R4 n1 c4) (t := 24) rfl
  have k1 := at_alloc1 (W := w4) (a := .bool b1) (b := .slice R4 n1 c4) (t := 24) rfl
  have hv_ : Below w4.heap.size w4 (w4.alloc (.cells #[.bool b1, .slice R4 n1 c4] 24)) := (Below.refl _ _).alloc (Nat.le_refl _) _
  generalize w4.alloc (.cells #[.bool b1, .slice R4 n1 c4] 24) = u4 at *
  replace m1 := m1.below hv_
  replace m2 := m2.below hv_
  replace m3 := m3.below hv_
  replace m4 := m4.below hv_
  replace g0 := keep_cell hv_ g0
  replace g1 := keep_cell hv_ g1
  replace HB := HB.trans (hv_.mono HB.size)
  clear hv_
  refine (HI.out _ _ _ _ _ m1 m2).mono ?_
  rintro e w5 ⟨rfl, h5⟩
  have hv_ : Below u4.heap.size u4 w5 := Below.trans (b := _) (by repeat (first | assumption | exact Below.refl _ _ | refine Below.alloc ?_ (by simp; try omega) _ | refine Below.drew ?_ | refine below_drewN ?_ _)) (h5.mono (by simp; try omega))
  replace m3 := m3.below hv_
  replace m4 := m4.below hv_
  replace g0 := keep_cell hv_ g0
  replace g1 := keep_cell hv_ g1
  replace k0 := keep_cell hv_ k0
  replace k1 := keep_cell hv_ k1
  have lt_g0 := cell_lt g0
  have lt_g1 := cell_lt g1
  have lt_k0 := cell_lt k0
  have lt_k1 := cell_lt k1
  replace HB := HB.trans (hv_.mono HB.size)
  clear hv_
  go_wp2_with fail
  refine (HS.out _ _ _ _ _ m3 m4).mono ?_
  rintro e w6 ⟨rfl, h6⟩
  have hv_ : Below w5.heap.size w5 w6 := Below.trans (b := _) (by repeat (first | assumption | exact Below.refl _ _ | refine Below.alloc ?_ (by simp; try omega) _ | refine Below.drew ?_ | refine below_drewN ?_ _)) (h6.mono (by simp; try omega))
  replace HB := HB.trans (hv_.mono HB.size)
  clear hv_
  go_wp2_with fail
  refine (exRunR HE HB).mono ?_
  rintro e w7 ⟨rfl, h7⟩
  go_wp2_with fail
  go_ret
  exact ⟨rfl, bel_step HB h7⟩
end Go.Proofs.YtkfpcohdbbhmaaaDoor
