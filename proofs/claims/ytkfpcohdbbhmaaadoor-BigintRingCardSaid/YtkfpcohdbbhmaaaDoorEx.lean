/- The laws' examples hold. Conditions: none. -/
import Derived.Test.YtkfpcohdbbhmaaaDoorG
import Derived.Test.YtkfpcohdbbhmaaaDoorExP
import Derived.Test.YtkfpcohdbbhmaaaDoorBi27
import Derived.Deep.DeepCutAuto
import Derived.Deep.RegionWith
import Derived.Deep.Light
set_option linter.unusedVariables false
set_option linter.unusedSimpArgs false
namespace Go.Proofs.YtkfpcohdbbhmaaaDoor
open Go.RowKit Big

theorem Digits_g {n : Nat} {b : Bool} {k : Nat} {xs : List Nat} {A : Option Addr} {c : Nat} {w : World} (hx : Iz n b k xs) (ha : Mg w A c xs) (fx : fits n) (base : Nat) (h2 : 2 ≤ base) (h3 : base ≤ 65536) (i : Int) (hi : i = base) (l : List Nat) (err : Int) (h : dgE base n = (l, err)) :
    Calls Tryd.prog 35 #[.agg #[.bool b, .slice A k c], .int .i64 i] w (RetIL w l err) := by
  obtain ⟨rfl, rfl, rfl⟩ := hx
  subst hi
  rw [show decide ((n : Int) < 0) = false by simp]
  have := Digits_ok n base A c w ha fx h2 h3
  rw [h] at this
  exact this
theorem Format_g {x : Int} {b : Bool} {k : Nat} {xs : List Nat} {A : Option Addr} {c : Nat} {w : World} (hx : Iz x b k xs) (ha : Mg w A c xs) (fx : fits x) (h0 : x ≠ 0) (htab : PowTab w) (l : List UInt8) (h : fmtZ x = l) :
    Calls Tryd.prog 25 #[.agg #[.bool b, .slice A k c]] w (RetS w l) := by
  obtain ⟨rfl, rfl, rfl⟩ := hx
  subst h
  exact Format_ok x A c w ha fx h0 htab
theorem Parse_g {z err : Int} {b : Bool} {k : Nat} {xs : List Nat} {w : World} (s : ByteArray) (hz : Iz z b k xs) (h : parE s.data.toList = (z, err)) : Calls Tryd.prog 23 #[.string s] w (GZE w b k xs err) := by
  obtain ⟨rfl, rfl, rfl⟩ := hz
  have := Parse_any s w
  rw [h] at this
  exact this

set_option maxHeartbeats 8000000 in
set_option maxRecDepth 100000 in
theorem examples_ok (w : World) (htab : PowTab w) : Calls Tryd.prog 20 #[] w (RetB w true) := by
  obtain ⟨b2, n2, x2, I2⟩ := iz 2
  obtain ⟨bp, np, xp, Ip⟩ := iz (2 ^ 100)
  obtain ⟨b12, n12, x12, I12⟩ := iz 12
  obtain ⟨b18, n18, x18, I18⟩ := iz (-18)
  obtain ⟨b6, n6, x6, I6⟩ := iz 6
  obtain ⟨bm, nm, xm, Im⟩ := iz (-12)
  obtain ⟨bo, no, xo, Io⟩ := iz 0
  obtain ⟨bt, nt, xt, It⟩ := iz ((1000 : Nat) : Int)
  obtain ⟨b7, n7, x7, I7⟩ := iz (-7)
  obtain ⟨b4, n4, x4, I4⟩ := iz (-4)
  obtain ⟨b1, n1, x1, I1⟩ := iz 1
  have H2 := hid fun (w1 : World) => FromInt_g (w := w1) I2.out (by omega) (by omega)
  have HP := hid fun (w1 : World) (A : Option Addr) (c : Nat) (ha : Mg w1 A c x2) => Pow_g (w := w1) I2.out Ip.out 100 100 rfl fitE_100 ha (fits_word _ (by decide)) (by omega) rfl
  have H12 := hid fun (w1 : World) => FromInt_g (w := w1) I12.out (by omega) (by omega)
  have H18 := hid fun (w1 : World) => FromInt_g (w := w1) I18.out (by omega) (by omega)
  have HG := hid fun (w1 : World) (A B : Option Addr) (c d : Nat) (ha : Mg w1 A c x12) (hb : Mg w1 B d x18) => GCD_g (w := w1) I12.out I18.out I6.out ha hb (fits_word _ (by decide)) (fits_word _ (by decide)) (by decide)
  have HA := hid fun (w1 : World) => Parse_g (w := w1) ⟨#[45, 49, 50]⟩ Im.out par_m12
  have HO := hid fun (w1 : World) => Parse_g (w := w1) ⟨#[45, 48]⟩ Io.out par_m0
  have HT := hid fun (w1 : World) => FromInt_g (w := w1) It.out (by omega) (by omega)
  have HD := hid fun (w1 : World) (A : Option Addr) (c : Nat) (ha : Mg w1 A c xt) => Digits_g (w := w1) It.out ha (fits_word _ (by decide)) 900 (by omega) (by omega) 900 rfl _ _ dg_1000
  have H7 := hid fun (w1 : World) => FromInt_g (w := w1) I7.out (by omega) (by omega)
  have HM := hid fun (w1 : World) (A B : Option Addr) (c d : Nat) (ha : Mg w1 A c x7) (hb : Mg w1 B d x2) => DivMod_g (w := w1) I7.out I2.out I4.out I1.out ha hb (fits_word _ (by decide)) (fits_word _ (by decide)) (by omega) dm_q dm_r
  have HFp := hid fun (w1 : World) (A : Option Addr) (c : Nat) (ha : Mg w1 A c xp) (ht : PowTab w1) => Format_g (w := w1) Ip.out ha fits_100 (by decide) ht _ fm_100
  have HFg := hid fun (w1 : World) (A : Option Addr) (c : Nat) (ha : Mg w1 A c x6) (ht : PowTab w1) => Format_g (w := w1) I6.out ha (fits_word _ (by decide)) (by decide) ht _ fm_6
  have HFq := hid fun (w1 : World) (A : Option Addr) (c : Nat) (ha : Mg w1 A c x4) (ht : PowTab w1) => Format_g (w := w1) I4.out ha (fits_word _ (by decide)) (by decide) ht _ fm_m4
  have HFr := hid fun (w1 : World) (A : Option Addr) (c : Nat) (ha : Mg w1 A c x1) (ht : PowTab w1) => Format_g (w := w1) I1.out ha (fits_word _ (by decide)) (by decide) ht _ fm_1
  have HI := hid fun (w1 : World) => FromInt_g (w := w1) Im.out (by omega) (by omega)
  have HS := hid fun (w1 : World) (A B : Option Addr) (c d : Nat) (ha : Mg w1 A c xm) (hb : Mg w1 B d xm) => Same_g (w := w1) Im.out Im.out ha hb true (by decide)
  have HB : Below w.heap.size w w := Below.refl _ _
  go_enter Tryd.func20, Tryd.ntmps20
  go_wp2_with fail
  refine (H2.out _).mono ?_
  rintro e w1 ⟨R2, c2, rfl, m2, h1⟩
  have hv_ : Below w.heap.size w w1 := Below.trans (b := _) (by repeat (first | assumption | exact Below.refl _ _ | refine Below.alloc ?_ (by simp; try omega) _ | refine Below.drew ?_ | refine below_drewN ?_ _)) (h1.mono (by simp; try omega))
  replace HB := HB.trans (hv_.mono HB.size)
  clear hv_
  go_wp2_with fail
  refine (HP.out _ _ _ (m2.below (by repeat (first | assumption | exact Below.refl _ _ | refine Below.alloc ?_ (by simp; try omega) _ | refine Below.drew ?_ | refine below_drewN ?_ _)))).mono ?_
  rintro e w2 ⟨Rp, cp, rfl, mp, h2⟩
  have hv_ : Below w1.heap.size w1 w2 := Below.trans (b := _) (by repeat (first | assumption | exact Below.refl _ _ | refine Below.alloc ?_ (by simp; try omega) _ | refine Below.drew ?_ | refine below_drewN ?_ _)) (h2.mono (by simp; try omega))
  replace m2 := m2.below hv_
  replace HB := HB.trans (hv_.mono HB.size)
  clear hv_
  obtain ⟨f1, f2⟩ := new1 h2
  go_wp2_with fail
  refine (H12.out _).mono ?_
  rintro e w3 ⟨Ra, ca, rfl, ma, h3⟩
  have hv_ : Below w2.heap.size w2 w3 := Below.trans (b := _) (by repeat (first | assumption | exact Below.refl _ _ | refine Below.alloc ?_ (by simp; try omega) _ | refine Below.drew ?_ | refine below_drewN ?_ _)) (h3.mono (by simp; try omega))
  replace m2 := m2.below hv_
  replace mp := mp.below hv_
  replace f1 := keep_cell hv_ f1
  replace f2 := keep_cell hv_ f2
  have lt_f1 := cell_lt f1
  have lt_f2 := cell_lt f2
  replace HB := HB.trans (hv_.mono HB.size)
  clear hv_
  obtain ⟨f3, f4⟩ := new1 h3
  go_wp2_with fail
  refine (H18.out _).mono ?_
  rintro e w4 ⟨Rb, cb, rfl, mb, h4⟩
  have hv_ : Below w3.heap.size w3 w4 := Below.trans (b := _) (by repeat (first | assumption | exact Below.refl _ _ | refine Below.alloc ?_ (by simp; try omega) _ | refine Below.drew ?_ | refine below_drewN ?_ _)) (h4.mono (by simp; try omega))
  replace m2 := m2.below hv_
  replace mp := mp.below hv_
  replace ma := ma.below hv_
  replace f1 := keep_cell hv_ f1
  replace f2 := keep_cell hv_ f2
  replace f3 := keep_cell hv_ f3
  replace f4 := keep_cell hv_ f4
  have lt_f1 := cell_lt f1
  have lt_f2 := cell_lt f2
  have lt_f3 := cell_lt f3
  have lt_f4 := cell_lt f4
  replace HB := HB.trans (hv_.mono HB.size)
  clear hv_
  go_wp2_with fail
  refine (HG.out _ _ _ _ _ ma mb).mono ?_
  rintro e w5 ⟨Rg, cg, rfl, mg, h5⟩
  have hv_ : Below w4.heap.size w4 w5 := Below.trans (b := _) (by repeat (first | assumption | exact Below.refl _ _ | refine Below.alloc ?_ (by simp; try omega) _ | refine Below.drew ?_ | refine below_drewN ?_ _)) (h5.mono (by simp; try omega))
  replace m2 := m2.below hv_
  replace mp := mp.below hv_
  replace f1 := keep_cell hv_ f1
  replace f2 := keep_cell hv_ f2
  replace f3 := keep_cell hv_ f3
  replace f4 := keep_cell hv_ f4
  have lt_f1 := cell_lt f1
  have lt_f2 := cell_lt f2
  have lt_f3 := cell_lt f3
  have lt_f4 := cell_lt f4
  replace HB := HB.trans (hv_.mono HB.size)
  clear hv_
  go_wp2_with fail
  refine (HA.out _).mono ?_
  rintro e w6 ⟨Rm, cm, rfl, mm, h6⟩
  have hv_ : Below w5.heap.size w5 w6 := Below.trans (b := _) (by repeat (first | assumption | exact Below.refl _ _ | refine Below.alloc ?_ (by simp; try omega) _ | refine Below.drew ?_ | refine below_drewN ?_ _)) (h6.mono (by simp; try omega))
  replace m2 := m2.below hv_
  replace mp := mp.below hv_
  replace mg := mg.below hv_
  replace f1 := keep_cell hv_ f1
  replace f2 := keep_cell hv_ f2
  replace f3 := keep_cell hv_ f3
  replace f4 := keep_cell hv_ f4
  have lt_f1 := cell_lt f1
  have lt_f2 := cell_lt f2
  have lt_f3 := cell_lt f3
  have lt_f4 := cell_lt f4
  replace HB := HB.trans (hv_.mono HB.size)
  clear hv_
  obtain ⟨f5, f6⟩ := new1 h6
  go_wp2_with fail
  refine (HO.out _).mono ?_
  rintro e w7 ⟨Ro, co, rfl, _, h7⟩
  have hv_ : Below w6.heap.size w6 w7 := Below.trans (b := _) (by repeat (first | assumption | exact Below.refl _ _ | refine Below.alloc ?_ (by simp; try omega) _ | refine Below.drew ?_ | refine below_drewN ?_ _)) (h7.mono (by simp; try omega))
  replace m2 := m2.below hv_
  replace mp := mp.below hv_
  replace mg := mg.below hv_
  replace mm := mm.below hv_
  replace f1 := keep_cell hv_ f1
  replace f2 := keep_cell hv_ f2
  replace f3 := keep_cell hv_ f3
  replace f4 := keep_cell hv_ f4
  replace f5 := keep_cell hv_ f5
  replace f6 := keep_cell hv_ f6
  have lt_f1 := cell_lt f1
  have lt_f2 := cell_lt f2
  have lt_f3 := cell_lt f3
  have lt_f4 := cell_lt f4
  have lt_f5 := cell_lt f5
  have lt_f6 := cell_lt f6
  replace HB := HB.trans (hv_.mono HB.size)
  clear hv_
  obtain ⟨f7, f8⟩ := new1 h7
  go_wp2_with fail
  refine (HT.out _).mono ?_
  rintro e w8 ⟨Rt, ct, rfl, mt, h8⟩
  have hv_ : Below w7.heap.size w7 w8 := Below.trans (b := _) (by repeat (first | assumption | exact Below.refl _ _ | refine Below.alloc ?_ (by simp; try omega) _ | refine Below.drew ?_ | refine below_drewN ?_ _)) (h8.mono (by simp; try omega))
  replace m2 := m2.below hv_
  replace mp := mp.below hv_
  replace mg := mg.below hv_
  replace mm := mm.below hv_
  replace f1 := keep_cell hv_ f1
  replace f2 := keep_cell hv_ f2
  replace f3 := keep_cell hv_ f3
  replace f4 := keep_cell hv_ f4
  replace f5 := keep_cell hv_ f5
  replace f6 := keep_cell hv_ f6
  replace f7 := keep_cell hv_ f7
  replace f8 := keep_cell hv_ f8
  have lt_f1 := cell_lt f1
  have lt_f2 := cell_lt f2
  have lt_f3 := cell_lt f3
  have lt_f4 := cell_lt f4
  have lt_f5 := cell_lt f5
  have lt_f6 := cell_lt f6
  have lt_f7 := cell_lt f7
  have lt_f8 := cell_lt f8
  replace HB := HB.trans (hv_.mono HB.size)
  clear hv_
  go_wp2_with fail
  refine (HD.out _ _ _ mt).mono ?_
  rintro e w9 ⟨Rd9, cd9, rfl, rd9, h9⟩
  have hv_ : Below w8.heap.size w8 w9 := Below.trans (b := _) (by repeat (first | assumption | exact Below.refl _ _ | refine Below.alloc ?_ (by simp; try omega) _ | refine Below.drew ?_ | refine below_drewN ?_ _)) (h9.mono (by simp; try omega))
  replace m2 := m2.below hv_
  replace mp := mp.below hv_
  replace mg := mg.below hv_
  replace mm := mm.below hv_
  replace f1 := keep_cell hv_ f1
  replace f2 := keep_cell hv_ f2
  replace f3 := keep_cell hv_ f3
  replace f4 := keep_cell hv_ f4
  replace f5 := keep_cell hv_ f5
  replace f6 := keep_cell hv_ f6
  replace f7 := keep_cell hv_ f7
  replace f8 := keep_cell hv_ f8
  have lt_f1 := cell_lt f1
  have lt_f2 := cell_lt f2
  have lt_f3 := cell_lt f3
  have lt_f4 := cell_lt f4
  have lt_f5 := cell_lt f5
  have lt_f6 := cell_lt f6
  have lt_f7 := cell_lt f7
  have lt_f8 := cell_lt f8
  replace HB := HB.trans (hv_.mono HB.size)
  clear hv_
  go_wp2_with fail
  go_cut [12, 13, 14] (fun s12 s13 s14 wx => s14 = .int .i64 0 ∧ ∃ (g g' : Nat) (Rq Rr : Option Addr) (cq cr : Nat), s12 = .pointer (some ⟨g, 0, none⟩) ∧ s13 = .pointer (some ⟨g', 0, none⟩) ∧ Below w9.heap.size w9 wx ∧ Mg wx Rq cq x4 ∧ Mg wx Rr cr x1 ∧ wx.cell? ⟨g, 0, none⟩ = some (.bool b4) ∧ wx.cell? ⟨g, 1, none⟩ = some (.slice Rq n4 cq) ∧ wx.cell? ⟨g', 0, none⟩ = some (.bool b1) ∧ wx.cell? ⟨g', 1, none⟩ = some (.slice Rr n1 cr))
  case first =>
    have hl9 := cell_lt f1
    go_region_held3 (fun w' => w'.cell? ⟨w1.heap.size, 0, none⟩ = some (.bool b2) ∧ w'.cell? ⟨w1.heap.size, 1, none⟩ = some (.slice R2 n2 c2)) (first | with_reducible assumption | ((try dsimp only); repeat' (first | with_reducible assumption | apply And.intro | (with_reducible refine keep_alloc ?_) | (with_reducible refine keep_drew ?_) | (with_reducible refine keep_set (by simp; omega) ?_)))) (first | (go_at_call 30; (with_reducible refine (H7.out _).mono ?_); rintro e w10 ⟨R7, c7, rfl, m7, h10⟩; have h10' : Below w9.heap.size w9 w10 := bel_step (by repeat' (first | with_reducible assumption | exact Below.refl _ _ | (refine Below.alloc ?_ (by first | omega | (simp only [World.size_alloc, World.size_setCell, World.size_drew]; done) | (simp only [World.size_alloc, World.size_setCell, World.size_drew]; omega)) _) | (refine Below.drew ?_) | (refine below_drewN ?_ _) | (refine Below.setCell ?_ (by first | omega | (simp only [World.size_alloc, World.size_setCell, World.size_drew]; done) | (simp only [World.size_alloc, World.size_setCell, World.size_drew]; omega)) _))) h10; obtain ⟨hc10, hf10⟩ := bcell h10; have hz10 := h10.size; (try simp only [World.size_alloc, World.size_drew] at hz10); have ga := keep_cell h10' f1; have gb := keep_cell h10' f2; have hl10 := cell_lt ga; (try have hx1 : w9.heap.size < w10.heap.size := by omega); (try have hx2 : w9.heap.size + 1 < w10.heap.size := by omega)) | (go_at_call 15; (with_reducible refine (HM.out _ _ _ _ _ (m7.below (by repeat (first | assumption | exact Below.refl _ _ | refine Below.alloc ?_ (by simp; try omega) _ | refine Below.drew ?_ | refine below_drewN ?_ _))) ((m2.below h10').below (by repeat (first | assumption | exact Below.refl _ _ | refine Below.alloc ?_ (by simp; try omega) _ | refine Below.drew ?_ | refine below_drewN ?_ _)))).mono ?_); rintro e w11 ⟨Rq, cq, Rr, cr, rfl, mq, mr, h11⟩; have h11' : Below w10.heap.size w10 w11 := bel_step (by repeat' (first | with_reducible assumption | exact Below.refl _ _ | (refine Below.alloc ?_ (by first | omega | (simp only [World.size_alloc, World.size_setCell, World.size_drew]; done) | (simp only [World.size_alloc, World.size_setCell, World.size_drew]; omega)) _) | (refine Below.drew ?_) | (refine below_drewN ?_ _) | (refine Below.setCell ?_ (by first | omega | (simp only [World.size_alloc, World.size_setCell, World.size_drew]; done) | (simp only [World.size_alloc, World.size_setCell, World.size_drew]; omega)) _))) h11; obtain ⟨hc11, hf11⟩ := bcell h11; have hz11 := h11.size; (try simp only [World.size_alloc] at hz11); (try have hy1 : w9.heap.size < w11.heap.size := by omega); (try have hy2 : w9.heap.size + 1 < w11.heap.size := by omega); (try have hy3 : w10.heap.size < w11.heap.size := by omega); (try have hy4 : w10.heap.size + 1 < w11.heap.size := by omega); have ha := keep_cell h11' ga; have hb := keep_cell h11' gb; have hlt := cell_lt ha))
    all_goals
      go_wp2_with fail
      go_meet
    all_goals
      go_light
      clear HFp HFg HFq HFr HI HS H2 HP H12 H18 HG HA HO HT HD H7 HM I2 Ip I12 I18 I6 Im Io It I7 I4 I1 htab
      have hb911 := h10'.trans (h11'.mono h10'.size)
      refine ⟨rfl, _, _, Rq, Rr, cq, cr, rfl, rfl, (by repeat' (first | with_reducible assumption | exact Below.refl _ _ | (refine Below.alloc ?_ (by first | omega | (simp only [World.size_alloc, World.size_setCell, World.size_drew]; done) | (simp only [World.size_alloc, World.size_setCell, World.size_drew]; omega)) _) | (refine Below.drew ?_) | (refine below_drewN ?_ _) | (refine Below.setCell ?_ (by first | omega | (simp only [World.size_alloc, World.size_setCell, World.size_drew]; done) | (simp only [World.size_alloc, World.size_setCell, World.size_drew]; omega)) _))), ?_, ?_, ?_, ?_, ?_, ?_⟩
    any_goals ((repeat' (first | with_reducible assumption | (with_reducible refine Mg.alloc ?_) | (with_reducible refine Mg.setB ?_ ?_) | (with_reducible refine Mg.setS ?_ ?_) | (with_reducible refine at_alloc0 (by first | omega | (simp only [World.size_alloc, World.size_setCell, World.size_drew]; done) | (simp only [World.size_alloc, World.size_setCell, World.size_drew]; omega))) | (with_reducible refine at_alloc1 (by first | omega | (simp only [World.size_alloc, World.size_setCell, World.size_drew]; done) | (simp only [World.size_alloc, World.size_setCell, World.size_drew]; omega))) | (with_reducible refine keep_alloc ?_) | (with_reducible refine keep_off (by omega) ?_) | (with_reducible refine keep_set (by first | omega | (simp only [World.size_alloc, World.size_setCell, World.size_drew]; done) | (simp only [World.size_alloc, World.size_setCell, World.size_drew]; omega)) ?_) | (with_reducible refine at_setB ?_) | (with_reducible refine at_setS ?_) | (with_reducible refine keep_drew ?_) | (with_reducible refine (hc11 _ _ (by first | omega | (simp only [World.size_alloc, World.size_setCell, World.size_drew]; done) | (simp only [World.size_alloc, World.size_setCell, World.size_drew]; omega))).trans ?_) | (with_reducible refine (hc10 _ _ (by first | omega | (simp only [World.size_alloc, World.size_setCell, World.size_drew]; done) | (simp only [World.size_alloc, World.size_setCell, World.size_drew]; omega))).trans ?_) | fail)); done)
  case rest =>
    obtain ⟨rfl, g, g', Rq, Rr, cq, cr, rfl, rfl, hx, mq, mr, k1, k2, k3, k4⟩ := hcut
    clear H2 HP H12 H18 HG HA HO HT HD H7 HM I2 Ip I12 I18 I6 Im Io It I7 I4 I1
    have f3 := keep_cell hx f3
    have f4 := keep_cell hx f4
    have f5 := keep_cell hx f5
    have f6 := keep_cell hx f6
    have f7 := keep_cell hx f7
    have f8 := keep_cell hx f8
    have mp := mp.below hx
    have mg := mg.below hx
    have mm := mm.below hx
    have HB := HB.trans (hx.mono HB.size)
    have rd := rd9.below hx
    obtain ⟨bl, ol, rfl, hbl, hcl⟩ := rd.at_ (k := 0) (by simp)
    have c1 : wc.cell? ⟨bl, ol, none⟩ = some (.int .i64 1) := hcl 0 (by simp)
    have c2 : wc.cell? ⟨bl, ol + 1, none⟩ = some (.int .i64 100) := hcl 1 (by simp)
    clear hcl rd9 rd
    go_wp2_with fail
    go_region_held3 (fun w' => w'.cell? ⟨w2.heap.size, 0, none⟩ = some (.bool bp) ∧ w'.cell? ⟨w2.heap.size, 1, none⟩ = some (.slice Rp np cp) ∧ w'.cell? ⟨w5.heap.size, 0, none⟩ = some (.bool b6) ∧ w'.cell? ⟨w5.heap.size, 1, none⟩ = some (.slice Rg n6 cg) ∧ w'.cell? ⟨w6.heap.size, 0, none⟩ = some (.bool bm) ∧ w'.cell? ⟨w6.heap.size, 1, none⟩ = some (.slice Rm nm cm) ∧ w'.cell? ⟨g, 0, none⟩ = some (.bool b4) ∧ w'.cell? ⟨g, 1, none⟩ = some (.slice Rq n4 cq) ∧ w'.cell? ⟨g', 0, none⟩ = some (.bool b1) ∧ w'.cell? ⟨g', 1, none⟩ = some (.slice Rr n1 cr) ∧ w'.cell? ⟨bl, ol, none⟩ = some (.int .i64 1) ∧ w'.cell? ⟨bl, ol + 1, none⟩ = some (.int .i64 100)) (first | ((try dsimp only); repeat' (first | with_reducible assumption | apply And.intro | (with_reducible refine keep_cell (W := wc) ?_ ?_) | exact (Below.refl _ _).drew | fail))) (first | (go_at_call 25; (with_reducible refine (HFp.out _ _ _ (mp.below (by repeat' (first | with_reducible assumption | exact Below.refl _ _ | (refine Below.alloc ?_ (by first | omega | (simp only [World.size_alloc, World.size_setCell, World.size_drew]; done) | (simp only [World.size_alloc, World.size_setCell, World.size_drew]; omega)) _) | (refine Below.drew ?_) | (refine below_drewN ?_ _) | (refine Below.setCell ?_ (by first | omega | (simp only [World.size_alloc, World.size_setCell, World.size_drew]; done) | (simp only [World.size_alloc, World.size_setCell, World.size_drew]; omega)) _)))) (htab.below (bel_step HB (by repeat' (first | with_reducible assumption | exact Below.refl _ _ | (refine Below.alloc ?_ (by first | omega | (simp only [World.size_alloc, World.size_setCell, World.size_drew]; done) | (simp only [World.size_alloc, World.size_setCell, World.size_drew]; omega)) _) | (refine Below.drew ?_) | (refine below_drewN ?_ _) | (refine Below.setCell ?_ (by first | omega | (simp only [World.size_alloc, World.size_setCell, World.size_drew]; done) | (simp only [World.size_alloc, World.size_setCell, World.size_drew]; omega)) _)))))).mono ?_); rintro e y1 ⟨rfl, h12⟩; have q1 : Below wc.heap.size wc y1 := bel_step (by repeat' (first | with_reducible assumption | exact Below.refl _ _ | (refine Below.alloc ?_ (by first | omega | (simp only [World.size_alloc, World.size_setCell, World.size_drew]; done) | (simp only [World.size_alloc, World.size_setCell, World.size_drew]; omega)) _) | (refine Below.drew ?_) | (refine below_drewN ?_ _) | (refine Below.setCell ?_ (by first | omega | (simp only [World.size_alloc, World.size_setCell, World.size_drew]; done) | (simp only [World.size_alloc, World.size_setCell, World.size_drew]; omega)) _))) h12) | (go_at_call 25; (with_reducible refine (HFg.out _ _ _ (mg.below (by repeat' (first | with_reducible assumption | exact Below.refl _ _ | (refine Below.alloc ?_ (by first | omega | (simp only [World.size_alloc, World.size_setCell, World.size_drew]; done) | (simp only [World.size_alloc, World.size_setCell, World.size_drew]; omega)) _) | (refine Below.drew ?_) | (refine below_drewN ?_ _) | (refine Below.setCell ?_ (by first | omega | (simp only [World.size_alloc, World.size_setCell, World.size_drew]; done) | (simp only [World.size_alloc, World.size_setCell, World.size_drew]; omega)) _)))) (htab.below (bel_step HB (by repeat' (first | with_reducible assumption | exact Below.refl _ _ | (refine Below.alloc ?_ (by first | omega | (simp only [World.size_alloc, World.size_setCell, World.size_drew]; done) | (simp only [World.size_alloc, World.size_setCell, World.size_drew]; omega)) _) | (refine Below.drew ?_) | (refine below_drewN ?_ _) | (refine Below.setCell ?_ (by first | omega | (simp only [World.size_alloc, World.size_setCell, World.size_drew]; done) | (simp only [World.size_alloc, World.size_setCell, World.size_drew]; omega)) _)))))).mono ?_); rintro e y2 ⟨rfl, h12⟩; have q2 : Below wc.heap.size wc y2 := bel_step (by repeat' (first | with_reducible assumption | exact Below.refl _ _ | (refine Below.alloc ?_ (by first | omega | (simp only [World.size_alloc, World.size_setCell, World.size_drew]; done) | (simp only [World.size_alloc, World.size_setCell, World.size_drew]; omega)) _) | (refine Below.drew ?_) | (refine below_drewN ?_ _) | (refine Below.setCell ?_ (by first | omega | (simp only [World.size_alloc, World.size_setCell, World.size_drew]; done) | (simp only [World.size_alloc, World.size_setCell, World.size_drew]; omega)) _))) h12) | (go_at_call 30; (with_reducible refine (HI.out _).mono ?_); rintro e y3 ⟨Ri, ci, rfl, mi, h12⟩; have q3 : Below wc.heap.size wc y3 := bel_step (by repeat' (first | with_reducible assumption | exact Below.refl _ _ | (refine Below.alloc ?_ (by first | omega | (simp only [World.size_alloc, World.size_setCell, World.size_drew]; done) | (simp only [World.size_alloc, World.size_setCell, World.size_drew]; omega)) _) | (refine Below.drew ?_) | (refine below_drewN ?_ _) | (refine Below.setCell ?_ (by first | omega | (simp only [World.size_alloc, World.size_setCell, World.size_drew]; done) | (simp only [World.size_alloc, World.size_setCell, World.size_drew]; omega)) _))) h12) | (go_at_call 19; (with_reducible refine (HS.out _ _ _ _ _ (mm.below (by repeat' (first | with_reducible assumption | exact Below.refl _ _ | (refine Below.alloc ?_ (by first | omega | (simp only [World.size_alloc, World.size_setCell, World.size_drew]; done) | (simp only [World.size_alloc, World.size_setCell, World.size_drew]; omega)) _) | (refine Below.drew ?_) | (refine below_drewN ?_ _) | (refine Below.setCell ?_ (by first | omega | (simp only [World.size_alloc, World.size_setCell, World.size_drew]; done) | (simp only [World.size_alloc, World.size_setCell, World.size_drew]; omega)) _)))) mi).mono ?_); rintro e y4 ⟨rfl, h12⟩; have q4 : Below wc.heap.size wc y4 := bel_step (by repeat' (first | with_reducible assumption | exact Below.refl _ _ | (refine Below.alloc ?_ (by first | omega | (simp only [World.size_alloc, World.size_setCell, World.size_drew]; done) | (simp only [World.size_alloc, World.size_setCell, World.size_drew]; omega)) _) | (refine Below.drew ?_) | (refine below_drewN ?_ _) | (refine Below.setCell ?_ (by first | omega | (simp only [World.size_alloc, World.size_setCell, World.size_drew]; done) | (simp only [World.size_alloc, World.size_setCell, World.size_drew]; omega)) _))) h12) | (go_at_call 25; (with_reducible refine (HFq.out _ _ _ (mq.below (by repeat' (first | with_reducible assumption | exact Below.refl _ _ | (refine Below.alloc ?_ (by first | omega | (simp only [World.size_alloc, World.size_setCell, World.size_drew]; done) | (simp only [World.size_alloc, World.size_setCell, World.size_drew]; omega)) _) | (refine Below.drew ?_) | (refine below_drewN ?_ _) | (refine Below.setCell ?_ (by first | omega | (simp only [World.size_alloc, World.size_setCell, World.size_drew]; done) | (simp only [World.size_alloc, World.size_setCell, World.size_drew]; omega)) _)))) (htab.below (bel_step HB (by repeat' (first | with_reducible assumption | exact Below.refl _ _ | (refine Below.alloc ?_ (by first | omega | (simp only [World.size_alloc, World.size_setCell, World.size_drew]; done) | (simp only [World.size_alloc, World.size_setCell, World.size_drew]; omega)) _) | (refine Below.drew ?_) | (refine below_drewN ?_ _) | (refine Below.setCell ?_ (by first | omega | (simp only [World.size_alloc, World.size_setCell, World.size_drew]; done) | (simp only [World.size_alloc, World.size_setCell, World.size_drew]; omega)) _)))))).mono ?_); rintro e y5 ⟨rfl, h12⟩; have q5 : Below wc.heap.size wc y5 := bel_step (by repeat' (first | with_reducible assumption | exact Below.refl _ _ | (refine Below.alloc ?_ (by first | omega | (simp only [World.size_alloc, World.size_setCell, World.size_drew]; done) | (simp only [World.size_alloc, World.size_setCell, World.size_drew]; omega)) _) | (refine Below.drew ?_) | (refine below_drewN ?_ _) | (refine Below.setCell ?_ (by first | omega | (simp only [World.size_alloc, World.size_setCell, World.size_drew]; done) | (simp only [World.size_alloc, World.size_setCell, World.size_drew]; omega)) _))) h12) | (go_at_call 25; (with_reducible refine (HFr.out _ _ _ (mr.below (by repeat' (first | with_reducible assumption | exact Below.refl _ _ | (refine Below.alloc ?_ (by first | omega | (simp only [World.size_alloc, World.size_setCell, World.size_drew]; done) | (simp only [World.size_alloc, World.size_setCell, World.size_drew]; omega)) _) | (refine Below.drew ?_) | (refine below_drewN ?_ _) | (refine Below.setCell ?_ (by first | omega | (simp only [World.size_alloc, World.size_setCell, World.size_drew]; done) | (simp only [World.size_alloc, World.size_setCell, World.size_drew]; omega)) _)))) (htab.below (bel_step HB (by repeat' (first | with_reducible assumption | exact Below.refl _ _ | (refine Below.alloc ?_ (by first | omega | (simp only [World.size_alloc, World.size_setCell, World.size_drew]; done) | (simp only [World.size_alloc, World.size_setCell, World.size_drew]; omega)) _) | (refine Below.drew ?_) | (refine below_drewN ?_ _) | (refine Below.setCell ?_ (by first | omega | (simp only [World.size_alloc, World.size_setCell, World.size_drew]; done) | (simp only [World.size_alloc, World.size_setCell, World.size_drew]; omega)) _)))))).mono ?_); rintro e y6 ⟨rfl, h12⟩; have q6 : Below wc.heap.size wc y6 := bel_step (by repeat' (first | with_reducible assumption | exact Below.refl _ _ | (refine Below.alloc ?_ (by first | omega | (simp only [World.size_alloc, World.size_setCell, World.size_drew]; done) | (simp only [World.size_alloc, World.size_setCell, World.size_drew]; omega)) _) | (refine Below.drew ?_) | (refine below_drewN ?_ _) | (refine Below.setCell ?_ (by first | omega | (simp only [World.size_alloc, World.size_setCell, World.size_drew]; done) | (simp only [World.size_alloc, World.size_setCell, World.size_drew]; omega)) _))) h12))
    go_goals
    all_goals
      go_wp2_with fail
      go_ret
      exact ⟨rfl, HB.trans (q6.mono HB.size)⟩
end Go.Proofs.YtkfpcohdbbhmaaaDoor
