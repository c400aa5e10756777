/- The law FractionLimits: its walk. Conditions: none. -/
import Derived.Test.YtfhbigfbeppinaaGreatDoorZLwP
set_option linter.unusedVariables false
set_option linter.unusedSimpArgs false
namespace Go.Proofs.YtfhbigfbeppinaaGreatDoor
open Go.RowKit Big

theorem Lpower_fg {n : Nat} {w : World} (hn : n ≤ 4000) {b : Bool} {k l : Nat} {xs ys : List Nat} (I : Fz ((bp n : Int), 1) b k xs l ys) : Calls Tryz.prog 35 #[.int .i64 n, .bool false] w (GFV w b k xs l ys) := by
  obtain ⟨rfl, rfl, rfl, rfl, rfl⟩ := I.inj (fz_bp n)
  exact Lpower_f hn
theorem Lpower_tg {n : Nat} {w : World} (hn : n ≤ 4000) {b : Bool} {k l : Nat} {xs ys : List Nat} (I : Fz ((1 : Int), bp n) b k xs l ys) : Calls Tryz.prog 35 #[.int .i64 n, .bool true] w (GFV w b k xs l ys) := by
  obtain ⟨rfl, rfl, rfl, rfl, rfl⟩ := I.inj (fz_bpr n)
  exact Lpower_t hn
set_option maxRecDepth 100000 in
set_option maxHeartbeats 16000000 in
theorem FractionLimits_law {w : World} (n : Int) (hn : (Lit.int .u16 n).wf = true) (m : Int) (hm : (Lit.int .u16 m).wf = true) (tn : Bool) (htab : PowTab w) (hlen : LenAt w) :
    Calls Tryz.prog 7 #[.int .u16 n, .int .u16 m, .bool tn] w (RetB w true) := by
  have HE := hid fun (w1 : World) (h : Below w.heap.size w w1) => Lex_ok w1 (htab.below h) (hlen.below h)
  simp [Lit.wf, IntKind.min, IntKind.max, IntKind.signed, IntKind.bits] at hn hm
  obtain ⟨i, hi⟩ : ∃ i : Nat, n.tmod 512 = (i : Int) := ⟨(n % 512).toNat, by rw [Int.tmod_eq_emod_of_nonneg (by omega)]; omega⟩
  obtain ⟨k, hk⟩ : ∃ i : Nat, m.tmod 512 = (i : Int) := ⟨(m % 512).toNat, by rw [Int.tmod_eq_emod_of_nonneg (by omega)]; omega⟩
  have hi2 : i < 512 := by have h := hi; rw [Int.tmod_eq_emod_of_nonneg (by omega)] at h; omega
  have hk2 : k < 512 := by have h := hk; rw [Int.tmod_eq_emod_of_nonneg (by omega)] at h; omega
  clear hn hm
  obtain ⟨ba_, ka_, Xa_, la_, Ya_, Ia_⟩ := fz ((bp i : Int), 1)
  have HPa := hid fun (w1 : World) => Lpower_fg (w := w1) (n := i) (by omega) Ia_.out
  cases tn
  · obtain ⟨bb_, kb_, Xb_, lb_, Yb_, Ib_⟩ := fz ((bp k : Int), 1)
    obtain ⟨bc_, kc_, Xc_, lc_, Yc_, Ic_⟩ := fz ((1 : Int), bp i)
    obtain ⟨bd_, kd_, Xd_, ld_, Yd_, Id_⟩ := fz ((1 : Int), bp k)
    have HPb := hid fun (w1 : World) => Lpower_fg (w := w1) (n := k) (by omega) Ib_.out
    have HPc := hid fun (w1 : World) => Lpower_tg (w := w1) (n := i) (by omega) Ic_.out
    have HPd := hid fun (w1 : World) => Lpower_tg (w := w1) (n := k) (by omega) Id_.out
    obtain ⟨z, hz⟩ : ∃ z, cmpF ((bp i : Int), 1) ((bp k : Int), 1) = z := ⟨_, rfl⟩
    have HC := hid fun (w1 : World) (R Q R' Q' : Option Addr) (c d c' d' : Nat) (m1 : Mg w1 R c Xa_) (m2 : Mg w1 Q d Ya_) (m3 : Mg w1 R' c' Xb_) (m4 : Mg w1 Q' d' Yb_) => FrCmp_f (w := w1) Ia_.out Ib_.out (vf_bp hi2) (vf_bp hk2) z hz m1 m2 m3 m4
    rw [cmp_bb] at hz
    have HZ : Hid (((i : Int) < k ∧ z = -1) ∨ ((i : Int) = k ∧ z = 0) ∨ ((k : Int) < i ∧ z = 1)) := by rw [← hz]; exact zord_cases _ _
    obtain ⟨s, hs⟩ : ∃ s, i + k = s := ⟨_, rfl⟩
    have hsi : (i : Int) + (k : Int) = (s : Int) := by omega
    have hws : IntKind.i64.wrap (s : Int) = (s : Int) := by rw [IntKind.wrap_i64]; omega
    by_cases hlong : 512 ≤ s
    · obtain ⟨bx, kx, Xx, lx, Yx, Ix⟩ := fz ((0 : Int), 0)
      obtain ⟨br, kr, Xr, lr, Yr, Ir⟩ := fz ((0 : Int), 0)
      have HM1 := hid fun (w1 : World) (R Q R' Q' : Option Addr) (c d c' d' : Nat) (m1 : Mg w1 R c Xa_) (m2 : Mg w1 Q d Ya_) (m3 : Mg w1 R' c' Xb_) (m4 : Mg w1 Q' d' Yb_) => FrMul_f (w := w1) Ia_.out Ib_.out (vf_bp hi2) (vf_bp hk2) (mul_bp_no (by omega)) Ix.out m1 m2 m3 m4
      have HM2 := hid fun (w1 : World) (R Q R' Q' : Option Addr) (c d c' d' : Nat) (m1 : Mg w1 R c Xc_) (m2 : Mg w1 Q d Yc_) (m3 : Mg w1 R' c' Xd_) (m4 : Mg w1 Q' d' Yd_) => FrMul_f (w := w1) Ic_.out Id_.out (vf_bpr hi2) (vf_bpr hk2) (mul_rr_no (by omega)) Ir.out m1 m2 m3 m4
      have h00 : Fz ((0 : Int), 0) false 0 [] 0 [] := ⟨rfl, limbs_zero.symm, rfl, limbs_zero.symm, rfl⟩
      have HS := hid fun (w1 : World) (R Q : Option Addr) (c d : Nat) (m1 : Mg w1 R c Xx) (m2 : Mg w1 Q d Yx) => QSame_g (w := w1) Ix.out h00 m1 m2 (mg_nil' _) (mg_nil' _) true (by simp)
      have HSr := hid fun (w1 : World) (R Q : Option Addr) (c d : Nat) (m1 : Mg w1 R c Xr) (m2 : Mg w1 Q d Yr) => QSame_g (w := w1) Ir.out h00 m1 m2 (mg_nil' _) (mg_nil' _) true (by simp)
      have hl2 : (512 : Int) ≤ (s : Int) := by omega
      clear Ia_ Ib_ Ic_ Id_ Ix Ir h00 hs hlong hz
      go_enter Tryz.func7, Tryz.ntmps7
      go_wp2_with fail
      refine (HPa.out _).mono ?_
      rintro e w1 ⟨Ra, ca, Qa, da, rfl, m1, m2, HB⟩
      go_wp2_with fail
      refine (HPb.out _).mono ?_
      rintro e w2 ⟨Rb, cb, Qb, db, rfl, m3, m4, h2⟩
      have hv_ : Below w1.heap.size w1 w2 := Below.trans (b := _) (by repeat (first | assumption | exact Below.refl _ _ | refine Below.alloc ?_ (by simp; try omega) _ | refine Below.drew ?_ | refine below_drewN ?_ _)) (h2.mono (by simp; try omega))
      replace m1 := m1.below hv_
      replace m2 := m2.below hv_
      replace HB := HB.trans (hv_.mono HB.size)
      clear hv_
      go_upto_region 3 with fail
      have fa : Fb ((w2.alloc (.cells #[.bool ba_, .slice Ra ka_ ca, .bool false, .slice Qa la_ da] 26)).alloc (.cells #[.bool bb_, .slice Rb kb_ cb, .bool false, .slice Qb lb_ db] 26)) w2.heap.size ba_ Ra ka_ ca Xa_ Qa la_ da Ya_ := ⟨keep_alloc (at_allocF0 rfl), keep_alloc (at_allocF1 rfl), keep_alloc (at_allocF2 rfl), keep_alloc (at_allocF3 rfl), m1.alloc.alloc, m2.alloc.alloc⟩
      have fb : Fb ((w2.alloc (.cells #[.bool ba_, .slice Ra ka_ ca, .bool false, .slice Qa la_ da] 26)).alloc (.cells #[.bool bb_, .slice Rb kb_ cb, .bool false, .slice Qb lb_ db] 26)) (w2.heap.size + 1) bb_ Rb kb_ cb Xb_ Qb lb_ db Yb_ := ⟨at_allocF0 (by simp), at_allocF1 (by simp), at_allocF2 (by simp), at_allocF3 (by simp), m3.alloc.alloc, m4.alloc.alloc⟩
      have hv_ : Below w2.heap.size w2 ((w2.alloc (.cells #[.bool ba_, .slice Ra ka_ ca, .bool false, .slice Qa la_ da] 26)).alloc (.cells #[.bool bb_, .slice Rb kb_ cb, .bool false, .slice Qb lb_ db] 26)) := ((Below.refl _ _).alloc (Nat.le_refl _) _).alloc (by simp) _
      generalize (w2.alloc (.cells #[.bool ba_, .slice Ra ka_ ca, .bool false, .slice Qa la_ da] 26)).alloc (.cells #[.bool bb_, .slice Rb kb_ cb, .bool false, .slice Qb lb_ db] 26) = u2 at *
      replace HB := HB.trans (hv_.mono HB.size)
      clear hv_ m1 m2 m3 m4
      have e0 := fa.c0
      have e1 := fa.c1
      have e2 := fa.c2
      have e3 := fa.c3
      have f0 := fb.c0
      have f1 := fb.c1
      have f2 := fb.c2
      have f3 := fb.c3
      have lt_e0 := cell_lt e0
      have lt_f0 := cell_lt f0
      go_wp2_with fail
      refine (HM1.out _ _ _ _ _ _ _ _ _ fa.m fa.n fb.m fb.n).mono ?_
      rintro e v3 ⟨R3_, c3_, Q3_, d3_, rfl, m_, n_, h_⟩
      clear e0 e1 e2 e3 f0 f1 f2 f3 lt_e0 lt_f0
      have hv_ : Below u2.heap.size u2 v3 := Below.trans (b := _) (by repeat (first | assumption | exact Below.refl _ _ | refine Below.alloc ?_ (by simp; try omega) _ | refine Below.drew ?_ | refine below_drewN ?_ _)) (h_.mono (by simp; try omega))
      replace fa := fa.below hv_
      replace fb := fb.below hv_
      replace HB := HB.trans (hv_.mono HB.size)
      clear hv_
      go_upto_region 4 with fail
      have ox : Fb (v3.alloc (.cells #[.bool bx, .slice R3_ kx c3_, .bool false, .slice Q3_ lx d3_] 26)) v3.heap.size bx R3_ kx c3_ Xx Q3_ lx d3_ Yx := ⟨at_allocF0 rfl, at_allocF1 rfl, at_allocF2 rfl, at_allocF3 rfl, m_.alloc, n_.alloc⟩
      have hv_ : Below v3.heap.size v3 (v3.alloc (.cells #[.bool bx, .slice R3_ kx c3_, .bool false, .slice Q3_ lx d3_] 26)) := (Below.refl _ _).alloc (Nat.le_refl _) _
      generalize v3.alloc (.cells #[.bool bx, .slice R3_ kx c3_, .bool false, .slice Q3_ lx d3_] 26) = u3 at *
      replace fa := fa.below hv_
      replace fb := fb.below hv_
      replace HB := HB.trans (hv_.mono HB.size)
      clear hv_ m_ n_
      have e0 := fa.c0
      have e1 := fa.c1
      have e2 := fa.c2
      have e3 := fa.c3
      have f0 := fb.c0
      have f1 := fb.c1
      have f2 := fb.c2
      have f3 := fb.c3
      have lt_e0 := cell_lt e0
      have lt_f0 := cell_lt f0
      go_wp2_with fail
      refine (HC.out _ _ _ _ _ _ _ _ _ fa.m fa.n fb.m fb.n).mono ?_
      rintro e v4 ⟨rfl, h_⟩
      clear e0 e1 e2 e3 f0 f1 f2 f3 lt_e0 lt_f0
      have hv_ : Below u3.heap.size u3 v4 := Below.trans (b := _) (by repeat (first | assumption | exact Below.refl _ _ | refine Below.alloc ?_ (by simp; try omega) _ | refine Below.drew ?_ | refine below_drewN ?_ _)) (h_.mono (by simp; try omega))
      replace ox := ox.below hv_
      replace HB := HB.trans (hv_.mono HB.size)
      clear hv_
      rcases HZ.out with ⟨hh, rfl⟩ | ⟨hh, rfl⟩ | ⟨hh, rfl⟩
      · clear HZ
        have hh2 : ¬ (k : Int) < (i : Int) := by omega
        go_wp2_with fail
        refine (HPc.out _).mono ?_
        rintro e w5 ⟨Rc, cc, Qc, dc, rfl, m1, m2, h5⟩
        have hv_ : Below v4.heap.size v4 w5 := Below.trans (b := _) (by repeat (first | assumption | exact Below.refl _ _ | refine Below.alloc ?_ (by simp; try omega) _ | refine Below.drew ?_ | refine below_drewN ?_ _)) (h5.mono (by simp; try omega))
        replace ox := ox.below hv_
        replace HB := HB.trans (hv_.mono HB.size)
        clear hv_
        go_wp2_with fail
        refine (HPd.out _).mono ?_
        rintro e w6 ⟨Rd, cd, Qd, dd, rfl, m3, m4, h6⟩
        have hv_ : Below w5.heap.size w5 w6 := Below.trans (b := _) (by repeat (first | assumption | exact Below.refl _ _ | refine Below.alloc ?_ (by simp; try omega) _ | refine Below.drew ?_ | refine below_drewN ?_ _)) (h6.mono (by simp; try omega))
        replace m1 := m1.below hv_
        replace m2 := m2.below hv_
        replace ox := ox.below hv_
        replace HB := HB.trans (hv_.mono HB.size)
        clear hv_
        go_wp2_with fail
        refine (HM2.out _ _ _ _ _ _ _ _ _ m1 m2 m3 m4).mono ?_
        rintro e w7 ⟨Rr, cr, Qr, dr, rfl, m_, n_, h7⟩
        have hv_ : Below w6.heap.size w6 w7 := Below.trans (b := _) (by repeat (first | assumption | exact Below.refl _ _ | refine Below.alloc ?_ (by simp; try omega) _ | refine Below.drew ?_ | refine below_drewN ?_ _)) (h7.mono (by simp; try omega))
        replace ox := ox.below hv_
        replace HB := HB.trans (hv_.mono HB.size)
        clear hv_
        go_upto_region 9 with fail
        have ow : Fb (w7.alloc (.cells #[.bool br, .slice Rr kr cr, .bool false, .slice Qr lr dr] 26)) w7.heap.size br Rr kr cr Xr Qr lr dr Yr := ⟨at_allocF0 rfl, at_allocF1 rfl, at_allocF2 rfl, at_allocF3 rfl, m_.alloc, n_.alloc⟩
        have hv_ : Below w7.heap.size w7 (w7.alloc (.cells #[.bool br, .slice Rr kr cr, .bool false, .slice Qr lr dr] 26)) := (Below.refl _ _).alloc (Nat.le_refl _) _
        generalize w7.alloc (.cells #[.bool br, .slice Rr kr cr, .bool false, .slice Qr lr dr] 26) = u7 at *
        replace ox := ox.below hv_
        replace HB := HB.trans (hv_.mono HB.size)
        clear hv_ m_ n_
        have q0 := ox.c0
        have q1 := ox.c1
        have q2 := ox.c2
        have q3 := ox.c3
        have r0 := ow.c0
        have r1 := ow.c1
        have r2 := ow.c2
        have r3 := ow.c3
        have lt_q := cell_lt q0
        have lt_r := cell_lt r0
        go_wp2_with fail
        refine (HS.out _ _ _ _ _ ox.m ox.n).mono ?_
        rintro e y1 ⟨rfl, h_⟩
        have hv_ : Below u7.heap.size u7 y1 := Below.trans (b := _) (by repeat (first | assumption | exact Below.refl _ _ | refine Below.alloc ?_ (by simp; try omega) _ | refine Below.drew ?_ | refine below_drewN ?_ _)) (h_.mono (by simp; try omega))
        replace ow := ow.below hv_
        replace r0 := keep_cell hv_ r0
        replace r1 := keep_cell hv_ r1
        replace r2 := keep_cell hv_ r2
        replace r3 := keep_cell hv_ r3
        have lt_r0 := cell_lt r0
        have lt_r1 := cell_lt r1
        have lt_r2 := cell_lt r2
        have lt_r3 := cell_lt r3
        replace HB := HB.trans (hv_.mono HB.size)
        clear hv_
        go_wp2_with fail
        refine (HSr.out _ _ _ _ _ ow.m ow.n).mono ?_
        rintro e y2 ⟨rfl, h_⟩
        have hv_ : Below y1.heap.size y1 y2 := Below.trans (b := _) (by repeat (first | assumption | exact Below.refl _ _ | refine Below.alloc ?_ (by simp; try omega) _ | refine Below.drew ?_ | refine below_drewN ?_ _)) (h_.mono (by simp; try omega))
        replace HB := HB.trans (hv_.mono HB.size)
        clear hv_
        go_wp2_with fail
        refine (HE.out _ HB).mono ?_
        rintro e we ⟨rfl, hwe⟩
        go_wp2
        go_ret
        exact ⟨rfl, bel_step HB hwe⟩
      · clear HZ
        obtain rfl : i = k := by omega
        have hh2 : ¬ (i : Int) < (i : Int) := by omega
        clear hh
        go_wp2_with fail
        refine (HPc.out _).mono ?_
        rintro e w5 ⟨Rc, cc, Qc, dc, rfl, m1, m2, h5⟩
        have hv_ : Below v4.heap.size v4 w5 := Below.trans (b := _) (by repeat (first | assumption | exact Below.refl _ _ | refine Below.alloc ?_ (by simp; try omega) _ | refine Below.drew ?_ | refine below_drewN ?_ _)) (h5.mono (by simp; try omega))
        replace ox := ox.below hv_
        replace HB := HB.trans (hv_.mono HB.size)
        clear hv_
        go_wp2_with fail
        refine (HPd.out _).mono ?_
        rintro e w6 ⟨Rd, cd, Qd, dd, rfl, m3, m4, h6⟩
        have hv_ : Below w5.heap.size w5 w6 := Below.trans (b := _) (by repeat (first | assumption | exact Below.refl _ _ | refine Below.alloc ?_ (by simp; try omega) _ | refine Below.drew ?_ | refine below_drewN ?_ _)) (h6.mono (by simp; try omega))
        replace m1 := m1.below hv_
        replace m2 := m2.below hv_
        replace ox := ox.below hv_
        replace HB := HB.trans (hv_.mono HB.size)
        clear hv_
        go_wp2_with fail
        refine (HM2.out _ _ _ _ _ _ _ _ _ m1 m2 m3 m4).mono ?_
        rintro e w7 ⟨Rr, cr, Qr, dr, rfl, m_, n_, h7⟩
        have hv_ : Below w6.heap.size w6 w7 := Below.trans (b := _) (by repeat (first | assumption | exact Below.refl _ _ | refine Below.alloc ?_ (by simp; try omega) _ | refine Below.drew ?_ | refine below_drewN ?_ _)) (h7.mono (by simp; try omega))
        replace ox := ox.below hv_
        replace HB := HB.trans (hv_.mono HB.size)
        clear hv_
        go_upto_region 9 with fail
        have ow : Fb (w7.alloc (.cells #[.bool br, .slice Rr kr cr, .bool false, .slice Qr lr dr] 26)) w7.heap.size br Rr kr cr Xr Qr lr dr Yr := ⟨at_allocF0 rfl, at_allocF1 rfl, at_allocF2 rfl, at_allocF3 rfl, m_.alloc, n_.alloc⟩
        have hv_ : Below w7.heap.size w7 (w7.alloc (.cells #[.bool br, .slice Rr kr cr, .bool false, .slice Qr lr dr] 26)) := (Below.refl _ _).alloc (Nat.le_refl _) _
        generalize w7.alloc (.cells #[.bool br, .slice Rr kr cr, .bool false, .slice Qr lr dr] 26) = u7 at *
        replace ox := ox.below hv_
        replace HB := HB.trans (hv_.mono HB.size)
        clear hv_ m_ n_
        have q0 := ox.c0
        have q1 := ox.c1
        have q2 := ox.c2
        have q3 := ox.c3
        have r0 := ow.c0
        have r1 := ow.c1
        have r2 := ow.c2
        have r3 := ow.c3
        have lt_q := cell_lt q0
        have lt_r := cell_lt r0
        go_wp2_with fail
        refine (HS.out _ _ _ _ _ ox.m ox.n).mono ?_
        rintro e y1 ⟨rfl, h_⟩
        have hv_ : Below u7.heap.size u7 y1 := Below.trans (b := _) (by repeat (first | assumption | exact Below.refl _ _ | refine Below.alloc ?_ (by simp; try omega) _ | refine Below.drew ?_ | refine below_drewN ?_ _)) (h_.mono (by simp; try omega))
        replace ow := ow.below hv_
        replace r0 := keep_cell hv_ r0
        replace r1 := keep_cell hv_ r1
        replace r2 := keep_cell hv_ r2
        replace r3 := keep_cell hv_ r3
        have lt_r0 := cell_lt r0
        have lt_r1 := cell_lt r1
        have lt_r2 := cell_lt r2
        have lt_r3 := cell_lt r3
        replace HB := HB.trans (hv_.mono HB.size)
        clear hv_
        go_wp2_with fail
        refine (HSr.out _ _ _ _ _ ow.m ow.n).mono ?_
        rintro e y2 ⟨rfl, h_⟩
        have hv_ : Below y1.heap.size y1 y2 := Below.trans (b := _) (by repeat (first | assumption | exact Below.refl _ _ | refine Below.alloc ?_ (by simp; try omega) _ | refine Below.drew ?_ | refine below_drewN ?_ _)) (h_.mono (by simp; try omega))
        replace HB := HB.trans (hv_.mono HB.size)
        clear hv_
        go_wp2_with fail
        refine (HE.out _ HB).mono ?_
        rintro e we ⟨rfl, hwe⟩
        go_wp2
        go_ret
        exact ⟨rfl, bel_step HB hwe⟩
      · clear HZ
        have hh2 : ¬ (i : Int) < (k : Int) := by omega
        go_wp2_with fail
        refine (HPc.out _).mono ?_
        rintro e w5 ⟨Rc, cc, Qc, dc, rfl, m1, m2, h5⟩
        have hv_ : Below v4.heap.size v4 w5 := Below.trans (b := _) (by repeat (first | assumption | exact Below.refl _ _ | refine Below.alloc ?_ (by simp; try omega) _ | refine Below.drew ?_ | refine below_drewN ?_ _)) (h5.mono (by simp; try omega))
        replace ox := ox.below hv_
        replace HB := HB.trans (hv_.mono HB.size)
        clear hv_
        go_wp2_with fail
        refine (HPd.out _).mono ?_
        rintro e w6 ⟨Rd, cd, Qd, dd, rfl, m3, m4, h6⟩
        have hv_ : Below w5.heap.size w5 w6 := Below.trans (b := _) (by repeat (first | assumption | exact Below.refl _ _ | refine Below.alloc ?_ (by simp; try omega) _ | refine Below.drew ?_ | refine below_drewN ?_ _)) (h6.mono (by simp; try omega))
        replace m1 := m1.below hv_
        replace m2 := m2.below hv_
        replace ox := ox.below hv_
        replace HB := HB.trans (hv_.mono HB.size)
        clear hv_
        go_wp2_with fail
        refine (HM2.out _ _ _ _ _ _ _ _ _ m1 m2 m3 m4).mono ?_
        rintro e w7 ⟨Rr, cr, Qr, dr, rfl, m_, n_, h7⟩
        have hv_ : Below w6.heap.size w6 w7 := Below.trans (b := _) (by repeat (first | assumption | exact Below.refl _ _ | refine Below.alloc ?_ (by simp; try omega) _ | refine Below.drew ?_ | refine below_drewN ?_ _)) (h7.mono (by simp; try omega))
        replace ox := ox.below hv_
        replace HB := HB.trans (hv_.mono HB.size)
        clear hv_
        go_upto_region 9 with fail
        have ow : Fb (w7.alloc (.cells #[.bool br, .slice Rr kr cr, .bool false, .slice Qr lr dr] 26)) w7.heap.size br Rr kr cr Xr Qr lr dr Yr := ⟨at_allocF0 rfl, at_allocF1 rfl, at_allocF2 rfl, at_allocF3 rfl, m_.alloc, n_.alloc⟩
        have hv_ : Below w7.heap.size w7 (w7.alloc (.cells #[.bool br, .slice Rr kr cr, .bool false, .slice Qr lr dr] 26)) := (Below.refl _ _).alloc (Nat.le_refl _) _
        generalize w7.alloc (.cells #[.bool br, .slice Rr kr cr, .bool false, .slice Qr lr dr] 26) = u7 at *
        replace ox := ox.below hv_
        replace HB := HB.trans (hv_.mono HB.size)
        clear hv_ m_ n_
        have q0 := ox.c0
        have q1 := ox.c1
        have q2 := ox.c2
        have q3 := ox.c3
        have r0 := ow.c0
        have r1 := ow.c1
        have r2 := ow.c2
        have r3 := ow.c3
        have lt_q := cell_lt q0
        have lt_r := cell_lt r0
        go_wp2_with fail
        refine (HS.out _ _ _ _ _ ox.m ox.n).mono ?_
        rintro e y1 ⟨rfl, h_⟩
        have hv_ : Below u7.heap.size u7 y1 := Below.trans (b := _) (by repeat (first | assumption | exact Below.refl _ _ | refine Below.alloc ?_ (by simp; try omega) _ | refine Below.drew ?_ | refine below_drewN ?_ _)) (h_.mono (by simp; try omega))
        replace ow := ow.below hv_
        replace r0 := keep_cell hv_ r0
        replace r1 := keep_cell hv_ r1
        replace r2 := keep_cell hv_ r2
        replace r3 := keep_cell hv_ r3
        have lt_r0 := cell_lt r0
        have lt_r1 := cell_lt r1
        have lt_r2 := cell_lt r2
        have lt_r3 := cell_lt r3
        replace HB := HB.trans (hv_.mono HB.size)
        clear hv_
        go_wp2_with fail
        refine (HSr.out _ _ _ _ _ ow.m ow.n).mono ?_
        rintro e y2 ⟨rfl, h_⟩
        have hv_ : Below y1.heap.size y1 y2 := Below.trans (b := _) (by repeat (first | assumption | exact Below.refl _ _ | refine Below.alloc ?_ (by simp; try omega) _ | refine Below.drew ?_ | refine below_drewN ?_ _)) (h_.mono (by simp; try omega))
        replace HB := HB.trans (hv_.mono HB.size)
        clear hv_
        go_wp2_with fail
        refine (HE.out _ HB).mono ?_
        rintro e we ⟨rfl, hwe⟩
        go_wp2
        go_ret
        exact ⟨rfl, bel_step HB hwe⟩
    · obtain ⟨bx, kx, Xx, lx, Yx, Ix⟩ := fz (((bp s : Nat) : Int), 1)
      obtain ⟨br, kr, Xr, lr, Yr, Ir⟩ := fz ((1 : Int), bp s)
      have HM1 := hid fun (w1 : World) (R Q R' Q' : Option Addr) (c d c' d' : Nat) (m1 : Mg w1 R c Xa_) (m2 : Mg w1 Q d Ya_) (m3 : Mg w1 R' c' Xb_) (m4 : Mg w1 Q' d' Yb_) => FrMul_f (w := w1) Ia_.out Ib_.out (vf_bp hi2) (vf_bp hk2) (by rw [mul_bp_yes (by omega), hs]) Ix.out m1 m2 m3 m4
      have HM2 := hid fun (w1 : World) (R Q R' Q' : Option Addr) (c d c' d' : Nat) (m1 : Mg w1 R c Xc_) (m2 : Mg w1 Q d Yc_) (m3 : Mg w1 R' c' Xd_) (m4 : Mg w1 Q' d' Yd_) => FrMul_f (w := w1) Ic_.out Id_.out (vf_bpr hi2) (vf_bpr hk2) (by rw [mul_rr_yes (by omega), hs]) Ir.out m1 m2 m3 m4
      have HPs := hid fun (w1 : World) => Lpower_fg (w := w1) (n := s) (by omega) Ix.out
      have HPt := hid fun (w1 : World) => Lpower_tg (w := w1) (n := s) (by omega) Ir.out
      have HS_ := hid fun (w1 : World) (R Q R' Q' : Option Addr) (c d c' d' : Nat) (m1 : Mg w1 R c Xx) (m2 : Mg w1 Q d Yx) (m3 : Mg w1 R' c' Xx) (m4 : Mg w1 Q' d' Yx) => QSame_g (w := w1) Ix.out Ix.out m1 m2 m3 m4 true (by simp)
      have HS := HS_
      have HSq := hid fun (w1 : World) (R Q R' Q' : Option Addr) (c d c' d' : Nat) (m1 : Mg w1 R c Xr) (m2 : Mg w1 Q d Yr) (m3 : Mg w1 R' c' Xr) (m4 : Mg w1 Q' d' Yr) => QSame_g (w := w1) Ir.out Ir.out m1 m2 m3 m4 true (by simp)
      have HSr := HSq
      have hl2 : ¬ (512 : Int) ≤ (s : Int) := by omega
      clear Ia_ Ib_ Ic_ Id_ Ix Ir hs hlong HS_ HSq hz
      go_enter Tryz.func7, Tryz.ntmps7
      go_wp2_with fail
      refine (HPa.out _).mono ?_
      rintro e w1 ⟨Ra, ca, Qa, da, rfl, m1, m2, HB⟩
      go_wp2_with fail
      refine (HPb.out _).mono ?_
      rintro e w2 ⟨Rb, cb, Qb, db, rfl, m3, m4, h2⟩
      have hv_ : Below w1.heap.size w1 w2 := Below.trans (b := _) (by repeat (first | assumption | exact Below.refl _ _ | refine Below.alloc ?_ (by simp; try omega) _ | refine Below.drew ?_ | refine below_drewN ?_ _)) (h2.mono (by simp; try omega))
      replace m1 := m1.below hv_
      replace m2 := m2.below hv_
      replace HB := HB.trans (hv_.mono HB.size)
      clear hv_
      go_upto_region 3 with fail
      have fa : Fb ((w2.alloc (.cells #[.bool ba_, .slice Ra ka_ ca, .bool false, .slice Qa la_ da] 26)).alloc (.cells #[.bool bb_, .slice Rb kb_ cb, .bool false, .slice Qb lb_ db] 26)) w2.heap.size ba_ Ra ka_ ca Xa_ Qa la_ da Ya_ := ⟨keep_alloc (at_allocF0 rfl), keep_alloc (at_allocF1 rfl), keep_alloc (at_allocF2 rfl), keep_alloc (at_allocF3 rfl), m1.alloc.alloc, m2.alloc.alloc⟩
      have fb : Fb ((w2.alloc (.cells #[.bool ba_, .slice Ra ka_ ca, .bool false, .slice Qa la_ da] 26)).alloc (.cells #[.bool bb_, .slice Rb kb_ cb, .bool false, .slice Qb lb_ db] 26)) (w2.heap.size + 1) bb_ Rb kb_ cb Xb_ Qb lb_ db Yb_ := ⟨at_allocF0 (by simp), at_allocF1 (by simp), at_allocF2 (by simp), at_allocF3 (by simp), m3.alloc.alloc, m4.alloc.alloc⟩
      have hv_ : Below w2.heap.size w2 ((w2.alloc (.cells #[.bool ba_, .slice Ra ka_ ca, .bool false, .slice Qa la_ da] 26)).alloc (.cells #[.bool bb_, .slice Rb kb_ cb, .bool false, .slice Qb lb_ db] 26)) := ((Below.refl _ _).alloc (Nat.le_refl _) _).alloc (by simp) _
      generalize (w2.alloc (.cells #[.bool ba_, .slice Ra ka_ ca, .bool false, .slice Qa la_ da] 26)).alloc (.cells #[.bool bb_, .slice Rb kb_ cb, .bool false, .slice Qb lb_ db] 26) = u2 at *
      replace HB := HB.trans (hv_.mono HB.size)
      clear hv_ m1 m2 m3 m4
      have e0 := fa.c0
      have e1 := fa.c1
      have e2 := fa.c2
      have e3 := fa.c3
      have f0 := fb.c0
      have f1 := fb.c1
      have f2 := fb.c2
      have f3 := fb.c3
      have lt_e0 := cell_lt e0
      have lt_f0 := cell_lt f0
      go_wp2_with fail
      refine (HM1.out _ _ _ _ _ _ _ _ _ fa.m fa.n fb.m fb.n).mono ?_
      rintro e v3 ⟨R3_, c3_, Q3_, d3_, rfl, m_, n_, h_⟩
      clear e0 e1 e2 e3 f0 f1 f2 f3 lt_e0 lt_f0
      have hv_ : Below u2.heap.size u2 v3 := Below.trans (b := _) (by repeat (first | assumption | exact Below.refl _ _ | refine Below.alloc ?_ (by simp; try omega) _ | refine Below.drew ?_ | refine below_drewN ?_ _)) (h_.mono (by simp; try omega))
      replace fa := fa.below hv_
      replace fb := fb.below hv_
      replace HB := HB.trans (hv_.mono HB.size)
      clear hv_
      go_upto_region 4 with fail
      have ox : Fb (v3.alloc (.cells #[.bool bx, .slice R3_ kx c3_, .bool false, .slice Q3_ lx d3_] 26)) v3.heap.size bx R3_ kx c3_ Xx Q3_ lx d3_ Yx := ⟨at_allocF0 rfl, at_allocF1 rfl, at_allocF2 rfl, at_allocF3 rfl, m_.alloc, n_.alloc⟩
      have hv_ : Below v3.heap.size v3 (v3.alloc (.cells #[.bool bx, .slice R3_ kx c3_, .bool false, .slice Q3_ lx d3_] 26)) := (Below.refl _ _).alloc (Nat.le_refl _) _
      generalize v3.alloc (.cells #[.bool bx, .slice R3_ kx c3_, .bool false, .slice Q3_ lx d3_] 26) = u3 at *
      replace fa := fa.below hv_
      replace fb := fb.below hv_
      replace HB := HB.trans (hv_.mono HB.size)
      clear hv_ m_ n_
      have e0 := fa.c0
      have e1 := fa.c1
      have e2 := fa.c2
      have e3 := fa.c3
      have f0 := fb.c0
      have f1 := fb.c1
      have f2 := fb.c2
      have f3 := fb.c3
      have lt_e0 := cell_lt e0
      have lt_f0 := cell_lt f0
      go_wp2_with fail
      refine (HC.out _ _ _ _ _ _ _ _ _ fa.m fa.n fb.m fb.n).mono ?_
      rintro e v4 ⟨rfl, h_⟩
      clear e0 e1 e2 e3 f0 f1 f2 f3 lt_e0 lt_f0
      have hv_ : Below u3.heap.size u3 v4 := Below.trans (b := _) (by repeat (first | assumption | exact Below.refl _ _ | refine Below.alloc ?_ (by simp; try omega) _ | refine Below.drew ?_ | refine below_drewN ?_ _)) (h_.mono (by simp; try omega))
      replace ox := ox.below hv_
      replace HB := HB.trans (hv_.mono HB.size)
      clear hv_
      rcases HZ.out with ⟨hh, rfl⟩ | ⟨hh, rfl⟩ | ⟨hh, rfl⟩
      · clear HZ
        have hh2 : ¬ (k : Int) < (i : Int) := by omega
        go_wp2_with fail
        refine (HPc.out _).mono ?_
        rintro e w5 ⟨Rc, cc, Qc, dc, rfl, m1, m2, h5⟩
        have hv_ : Below v4.heap.size v4 w5 := Below.trans (b := _) (by repeat (first | assumption | exact Below.refl _ _ | refine Below.alloc ?_ (by simp; try omega) _ | refine Below.drew ?_ | refine below_drewN ?_ _)) (h5.mono (by simp; try omega))
        replace ox := ox.below hv_
        replace HB := HB.trans (hv_.mono HB.size)
        clear hv_
        go_wp2_with fail
        refine (HPd.out _).mono ?_
        rintro e w6 ⟨Rd, cd, Qd, dd, rfl, m3, m4, h6⟩
        have hv_ : Below w5.heap.size w5 w6 := Below.trans (b := _) (by repeat (first | assumption | exact Below.refl _ _ | refine Below.alloc ?_ (by simp; try omega) _ | refine Below.drew ?_ | refine below_drewN ?_ _)) (h6.mono (by simp; try omega))
        replace m1 := m1.below hv_
        replace m2 := m2.below hv_
        replace ox := ox.below hv_
        replace HB := HB.trans (hv_.mono HB.size)
        clear hv_
        go_wp2_with fail
        refine (HM2.out _ _ _ _ _ _ _ _ _ m1 m2 m3 m4).mono ?_
        rintro e w7 ⟨Rr, cr, Qr, dr, rfl, m_, n_, h7⟩
        have hv_ : Below w6.heap.size w6 w7 := Below.trans (b := _) (by repeat (first | assumption | exact Below.refl _ _ | refine Below.alloc ?_ (by simp; try omega) _ | refine Below.drew ?_ | refine below_drewN ?_ _)) (h7.mono (by simp; try omega))
        replace ox := ox.below hv_
        replace HB := HB.trans (hv_.mono HB.size)
        clear hv_
        go_upto_region 9 with fail
        have ow : Fb (w7.alloc (.cells #[.bool br, .slice Rr kr cr, .bool false, .slice Qr lr dr] 26)) w7.heap.size br Rr kr cr Xr Qr lr dr Yr := ⟨at_allocF0 rfl, at_allocF1 rfl, at_allocF2 rfl, at_allocF3 rfl, m_.alloc, n_.alloc⟩
        have hv_ : Below w7.heap.size w7 (w7.alloc (.cells #[.bool br, .slice Rr kr cr, .bool false, .slice Qr lr dr] 26)) := (Below.refl _ _).alloc (Nat.le_refl _) _
        generalize w7.alloc (.cells #[.bool br, .slice Rr kr cr, .bool false, .slice Qr lr dr] 26) = u7 at *
        replace ox := ox.below hv_
        replace HB := HB.trans (hv_.mono HB.size)
        clear hv_ m_ n_
        have q0 := ox.c0
        have q1 := ox.c1
        have q2 := ox.c2
        have q3 := ox.c3
        have r0 := ow.c0
        have r1 := ow.c1
        have r2 := ow.c2
        have r3 := ow.c3
        have lt_q := cell_lt q0
        have lt_r := cell_lt r0
        go_wp2_with fail
        go_region_held3 (fun w' => (w'.cell? ⟨v3.heap.size, 0, none⟩ = some (.bool bx) ∧ w'.cell? ⟨v3.heap.size, 1, none⟩ = some (.slice R3_ kx c3_) ∧ w'.cell? ⟨v3.heap.size, 2, none⟩ = some (.bool false) ∧ w'.cell? ⟨v3.heap.size, 3, none⟩ = some (.slice Q3_ lx d3_)) ∧ (w'.cell? ⟨w7.heap.size, 0, none⟩ = some (.bool br) ∧ w'.cell? ⟨w7.heap.size, 1, none⟩ = some (.slice Rr kr cr) ∧ w'.cell? ⟨w7.heap.size, 2, none⟩ = some (.bool false) ∧ w'.cell? ⟨w7.heap.size, 3, none⟩ = some (.slice Qr lr dr))) (first | ((try dsimp only); repeat' (first | with_reducible assumption | apply And.intro | (with_reducible refine keep_cell (W := u7) ?_ ?_) | exact (Below.refl _ _).drew | fail))) (first | (go_at_call 35; (with_reducible refine (HPs.out _).mono ?_); rintro e y1 ⟨Rp, cp, Qp, dp, rfl, mp, mpb, hq_⟩; have qy1 : Below u7.heap.size u7 y1 := bel_step (by repeat' (first | with_reducible assumption | exact Below.refl _ _ | (refine Below.alloc ?_ (by first | omega | (simp only [World.size_alloc, World.size_setCell, World.size_drew]; done) | (simp only [World.size_alloc, World.size_setCell, World.size_drew]; omega)) _) | (refine Below.drew ?_) | (refine below_drewN ?_ _) | (refine Below.setCell ?_ (by first | omega | (simp only [World.size_alloc, World.size_setCell, World.size_drew]; done) | (simp only [World.size_alloc, World.size_setCell, World.size_drew]; omega)) _))) hq_) | (go_at_call 32; (with_reducible refine (HS.out _ _ _ _ _ _ _ _ _ (ox.m.below (by repeat' (first | with_reducible assumption | exact Below.refl _ _ | (refine Below.alloc ?_ (by first | omega | (simp only [World.size_alloc, World.size_setCell, World.size_drew]; done) | (simp only [World.size_alloc, World.size_setCell, World.size_drew]; omega)) _) | (refine Below.drew ?_) | (refine below_drewN ?_ _) | (refine Below.setCell ?_ (by first | omega | (simp only [World.size_alloc, World.size_setCell, World.size_drew]; done) | (simp only [World.size_alloc, World.size_setCell, World.size_drew]; omega)) _)))) (ox.n.below (by repeat' (first | with_reducible assumption | exact Below.refl _ _ | (refine Below.alloc ?_ (by first | omega | (simp only [World.size_alloc, World.size_setCell, World.size_drew]; done) | (simp only [World.size_alloc, World.size_setCell, World.size_drew]; omega)) _) | (refine Below.drew ?_) | (refine below_drewN ?_ _) | (refine Below.setCell ?_ (by first | omega | (simp only [World.size_alloc, World.size_setCell, World.size_drew]; done) | (simp only [World.size_alloc, World.size_setCell, World.size_drew]; omega)) _)))) (mp.below (by repeat' (first | with_reducible assumption | exact Below.refl _ _ | (refine Below.alloc ?_ (by first | omega | (simp only [World.size_alloc, World.size_setCell, World.size_drew]; done) | (simp only [World.size_alloc, World.size_setCell, World.size_drew]; omega)) _) | (refine Below.drew ?_) | (refine below_drewN ?_ _) | (refine Below.setCell ?_ (by first | omega | (simp only [World.size_alloc, World.size_setCell, World.size_drew]; done) | (simp only [World.size_alloc, World.size_setCell, World.size_drew]; omega)) _)))) (mpb.below (by repeat' (first | with_reducible assumption | exact Below.refl _ _ | (refine Below.alloc ?_ (by first | omega | (simp only [World.size_alloc, World.size_setCell, World.size_drew]; done) | (simp only [World.size_alloc, World.size_setCell, World.size_drew]; omega)) _) | (refine Below.drew ?_) | (refine below_drewN ?_ _) | (refine Below.setCell ?_ (by first | omega | (simp only [World.size_alloc, World.size_setCell, World.size_drew]; done) | (simp only [World.size_alloc, World.size_setCell, World.size_drew]; omega)) _))))).mono ?_); rintro e y2 ⟨rfl, hq_⟩; have qy2 : Below u7.heap.size u7 y2 := bel_step (by repeat' (first | with_reducible assumption | exact Below.refl _ _ | (refine Below.alloc ?_ (by first | omega | (simp only [World.size_alloc, World.size_setCell, World.size_drew]; done) | (simp only [World.size_alloc, World.size_setCell, World.size_drew]; omega)) _) | (refine Below.drew ?_) | (refine below_drewN ?_ _) | (refine Below.setCell ?_ (by first | omega | (simp only [World.size_alloc, World.size_setCell, World.size_drew]; done) | (simp only [World.size_alloc, World.size_setCell, World.size_drew]; omega)) _))) hq_) | (go_at_call 35; (with_reducible refine (HPt.out _).mono ?_); rintro e y3 ⟨Rt, ct, Qt, dt, rfl, mt, mtb, hq_⟩; have qy3 : Below u7.heap.size u7 y3 := bel_step (by repeat' (first | with_reducible assumption | exact Below.refl _ _ | (refine Below.alloc ?_ (by first | omega | (simp only [World.size_alloc, World.size_setCell, World.size_drew]; done) | (simp only [World.size_alloc, World.size_setCell, World.size_drew]; omega)) _) | (refine Below.drew ?_) | (refine below_drewN ?_ _) | (refine Below.setCell ?_ (by first | omega | (simp only [World.size_alloc, World.size_setCell, World.size_drew]; done) | (simp only [World.size_alloc, World.size_setCell, World.size_drew]; omega)) _))) hq_) | (go_at_call 32; (with_reducible refine (HSr.out _ _ _ _ _ _ _ _ _ (ow.m.below (by repeat' (first | with_reducible assumption | exact Below.refl _ _ | (refine Below.alloc ?_ (by first | omega | (simp only [World.size_alloc, World.size_setCell, World.size_drew]; done) | (simp only [World.size_alloc, World.size_setCell, World.size_drew]; omega)) _) | (refine Below.drew ?_) | (refine below_drewN ?_ _) | (refine Below.setCell ?_ (by first | omega | (simp only [World.size_alloc, World.size_setCell, World.size_drew]; done) | (simp only [World.size_alloc, World.size_setCell, World.size_drew]; omega)) _)))) (ow.n.below (by repeat' (first | with_reducible assumption | exact Below.refl _ _ | (refine Below.alloc ?_ (by first | omega | (simp only [World.size_alloc, World.size_setCell, World.size_drew]; done) | (simp only [World.size_alloc, World.size_setCell, World.size_drew]; omega)) _) | (refine Below.drew ?_) | (refine below_drewN ?_ _) | (refine Below.setCell ?_ (by first | omega | (simp only [World.size_alloc, World.size_setCell, World.size_drew]; done) | (simp only [World.size_alloc, World.size_setCell, World.size_drew]; omega)) _)))) (mt.below (by repeat' (first | with_reducible assumption | exact Below.refl _ _ | (refine Below.alloc ?_ (by first | omega | (simp only [World.size_alloc, World.size_setCell, World.size_drew]; done) | (simp only [World.size_alloc, World.size_setCell, World.size_drew]; omega)) _) | (refine Below.drew ?_) | (refine below_drewN ?_ _) | (refine Below.setCell ?_ (by first | omega | (simp only [World.size_alloc, World.size_setCell, World.size_drew]; done) | (simp only [World.size_alloc, World.size_setCell, World.size_drew]; omega)) _)))) (mtb.below (by repeat' (first | with_reducible assumption | exact Below.refl _ _ | (refine Below.alloc ?_ (by first | omega | (simp only [World.size_alloc, World.size_setCell, World.size_drew]; done) | (simp only [World.size_alloc, World.size_setCell, World.size_drew]; omega)) _) | (refine Below.drew ?_) | (refine below_drewN ?_ _) | (refine Below.setCell ?_ (by first | omega | (simp only [World.size_alloc, World.size_setCell, World.size_drew]; done) | (simp only [World.size_alloc, World.size_setCell, World.size_drew]; omega)) _))))).mono ?_); rintro e y4 ⟨rfl, hq_⟩; have qy4 : Below u7.heap.size u7 y4 := bel_step (by repeat' (first | with_reducible assumption | exact Below.refl _ _ | (refine Below.alloc ?_ (by first | omega | (simp only [World.size_alloc, World.size_setCell, World.size_drew]; done) | (simp only [World.size_alloc, World.size_setCell, World.size_drew]; omega)) _) | (refine Below.drew ?_) | (refine below_drewN ?_ _) | (refine Below.setCell ?_ (by first | omega | (simp only [World.size_alloc, World.size_setCell, World.size_drew]; done) | (simp only [World.size_alloc, World.size_setCell, World.size_drew]; omega)) _))) hq_) | (go_at_call 16; (with_reducible refine (HE.out _ (bel_step HB (by repeat' (first | with_reducible assumption | exact Below.refl _ _ | (refine Below.alloc ?_ (by first | omega | (simp only [World.size_alloc, World.size_setCell, World.size_drew]; done) | (simp only [World.size_alloc, World.size_setCell, World.size_drew]; omega)) _) | (refine Below.drew ?_) | (refine below_drewN ?_ _) | (refine Below.setCell ?_ (by first | omega | (simp only [World.size_alloc, World.size_setCell, World.size_drew]; done) | (simp only [World.size_alloc, World.size_setCell, World.size_drew]; omega)) _))))).mono ?_); rintro e y5 ⟨rfl, hq_⟩; have qy5 : Below u7.heap.size u7 y5 := bel_step (by repeat' (first | with_reducible assumption | exact Below.refl _ _ | (refine Below.alloc ?_ (by first | omega | (simp only [World.size_alloc, World.size_setCell, World.size_drew]; done) | (simp only [World.size_alloc, World.size_setCell, World.size_drew]; omega)) _) | (refine Below.drew ?_) | (refine below_drewN ?_ _) | (refine Below.setCell ?_ (by first | omega | (simp only [World.size_alloc, World.size_setCell, World.size_drew]; done) | (simp only [World.size_alloc, World.size_setCell, World.size_drew]; omega)) _))) hq_))
        all_goals
          go_wp2_with fail
          go_ret
          exact ⟨rfl, bel_step HB qy5⟩
      · clear HZ
        obtain rfl : i = k := by omega
        have hh2 : ¬ (i : Int) < (i : Int) := by omega
        clear hh
        go_wp2_with fail
        refine (HPc.out _).mono ?_
        rintro e w5 ⟨Rc, cc, Qc, dc, rfl, m1, m2, h5⟩
        have hv_ : Below v4.heap.size v4 w5 := Below.trans (b := _) (by repeat (first | assumption | exact Below.refl _ _ | refine Below.alloc ?_ (by simp; try omega) _ | refine Below.drew ?_ | refine below_drewN ?_ _)) (h5.mono (by simp; try omega))
        replace ox := ox.below hv_
        replace HB := HB.trans (hv_.mono HB.size)
        clear hv_
        go_wp2_with fail
        refine (HPd.out _).mono ?_
        rintro e w6 ⟨Rd, cd, Qd, dd, rfl, m3, m4, h6⟩
        have hv_ : Below w5.heap.size w5 w6 := Below.trans (b := _) (by repeat (first | assumption | exact Below.refl _ _ | refine Below.alloc ?_ (by simp; try omega) _ | refine Below.drew ?_ | refine below_drewN ?_ _)) (h6.mono (by simp; try omega))
        replace m1 := m1.below hv_
        replace m2 := m2.below hv_
        replace ox := ox.below hv_
        replace HB := HB.trans (hv_.mono HB.size)
        clear hv_
        go_wp2_with fail
        refine (HM2.out _ _ _ _ _ _ _ _ _ m1 m2 m3 m4).mono ?_
        rintro e w7 ⟨Rr, cr, Qr, dr, rfl, m_, n_, h7⟩
        have hv_ : Below w6.heap.size w6 w7 := Below.trans (b := _) (by repeat (first | assumption | exact Below.refl _ _ | refine Below.alloc ?_ (by simp; try omega) _ | refine Below.drew ?_ | refine below_drewN ?_ _)) (h7.mono (by simp; try omega))
        replace ox := ox.below hv_
        replace HB := HB.trans (hv_.mono HB.size)
        clear hv_
        go_upto_region 9 with fail
        have ow : Fb (w7.alloc (.cells #[.bool br, .slice Rr kr cr, .bool false, .slice Qr lr dr] 26)) w7.heap.size br Rr kr cr Xr Qr lr dr Yr := ⟨at_allocF0 rfl, at_allocF1 rfl, at_allocF2 rfl, at_allocF3 rfl, m_.alloc, n_.alloc⟩
        have hv_ : Below w7.heap.size w7 (w7.alloc (.cells #[.bool br, .slice Rr kr cr, .bool false, .slice Qr lr dr] 26)) := (Below.refl _ _).alloc (Nat.le_refl _) _
        generalize w7.alloc (.cells #[.bool br, .slice Rr kr cr, .bool false, .slice Qr lr dr] 26) = u7 at *
        replace ox := ox.below hv_
        replace HB := HB.trans (hv_.mono HB.size)
        clear hv_ m_ n_
        have q0 := ox.c0
        have q1 := ox.c1
        have q2 := ox.c2
        have q3 := ox.c3
        have r0 := ow.c0
        have r1 := ow.c1
        have r2 := ow.c2
        have r3 := ow.c3
        have lt_q := cell_lt q0
        have lt_r := cell_lt r0
        go_wp2_with fail
        go_region_held3 (fun w' => (w'.cell? ⟨v3.heap.size, 0, none⟩ = some (.bool bx) ∧ w'.cell? ⟨v3.heap.size, 1, none⟩ = some (.slice R3_ kx c3_) ∧ w'.cell? ⟨v3.heap.size, 2, none⟩ = some (.bool false) ∧ w'.cell? ⟨v3.heap.size, 3, none⟩ = some (.slice Q3_ lx d3_)) ∧ (w'.cell? ⟨w7.heap.size, 0, none⟩ = some (.bool br) ∧ w'.cell? ⟨w7.heap.size, 1, none⟩ = some (.slice Rr kr cr) ∧ w'.cell? ⟨w7.heap.size, 2, none⟩ = some (.bool false) ∧ w'.cell? ⟨w7.heap.size, 3, none⟩ = some (.slice Qr lr dr))) (first | ((try dsimp only); repeat' (first | with_reducible assumption | apply And.intro | (with_reducible refine keep_cell (W := u7) ?_ ?_) | exact (Below.refl _ _).drew | fail))) (first | (go_at_call 35; (with_reducible refine (HPs.out _).mono ?_); rintro e y1 ⟨Rp, cp, Qp, dp, rfl, mp, mpb, hq_⟩; have qy1 : Below u7.heap.size u7 y1 := bel_step (by repeat' (first | with_reducible assumption | exact Below.refl _ _ | (refine Below.alloc ?_ (by first | omega | (simp only [World.size_alloc, World.size_setCell, World.size_drew]; done) | (simp only [World.size_alloc, World.size_setCell, World.size_drew]; omega)) _) | (refine Below.drew ?_) | (refine below_drewN ?_ _) | (refine Below.setCell ?_ (by first | omega | (simp only [World.size_alloc, World.size_setCell, World.size_drew]; done) | (simp only [World.size_alloc, World.size_setCell, World.size_drew]; omega)) _))) hq_) | (go_at_call 32; (with_reducible refine (HS.out _ _ _ _ _ _ _ _ _ (ox.m.below (by repeat' (first | with_reducible assumption | exact Below.refl _ _ | (refine Below.alloc ?_ (by first | omega | (simp only [World.size_alloc, World.size_setCell, World.size_drew]; done) | (simp only [World.size_alloc, World.size_setCell, World.size_drew]; omega)) _) | (refine Below.drew ?_) | (refine below_drewN ?_ _) | (refine Below.setCell ?_ (by first | omega | (simp only [World.size_alloc, World.size_setCell, World.size_drew]; done) | (simp only [World.size_alloc, World.size_setCell, World.size_drew]; omega)) _)))) (ox.n.below (by repeat' (first | with_reducible assumption | exact Below.refl _ _ | (refine Below.alloc ?_ (by first | omega | (simp only [World.size_alloc, World.size_setCell, World.size_drew]; done) | (simp only [World.size_alloc, World.size_setCell, World.size_drew]; omega)) _) | (refine Below.drew ?_) | (refine below_drewN ?_ _) | (refine Below.setCell ?_ (by first | omega | (simp only [World.size_alloc, World.size_setCell, World.size_drew]; done) | (simp only [World.size_alloc, World.size_setCell, World.size_drew]; omega)) _)))) (mp.below (by repeat' (first | with_reducible assumption | exact Below.refl _ _ | (refine Below.alloc ?_ (by first | omega | (simp only [World.size_alloc, World.size_setCell, World.size_drew]; done) | (simp only [World.size_alloc, World.size_setCell, World.size_drew]; omega)) _) | (refine Below.drew ?_) | (refine below_drewN ?_ _) | (refine Below.setCell ?_ (by first | omega | (simp only [World.size_alloc, World.size_setCell, World.size_drew]; done) | (simp only [World.size_alloc, World.size_setCell, World.size_drew]; omega)) _)))) (mpb.below (by repeat' (first | with_reducible assumption | exact Below.refl _ _ | (refine Below.alloc ?_ (by first | omega | (simp only [World.size_alloc, World.size_setCell, World.size_drew]; done) | (simp only [World.size_alloc, World.size_setCell, World.size_drew]; omega)) _) | (refine Below.drew ?_) | (refine below_drewN ?_ _) | (refine Below.setCell ?_ (by first | omega | (simp only [World.size_alloc, World.size_setCell, World.size_drew]; done) | (simp only [World.size_alloc, World.size_setCell, World.size_drew]; omega)) _))))).mono ?_); rintro e y2 ⟨rfl, hq_⟩; have qy2 : Below u7.heap.size u7 y2 := bel_step (by repeat' (first | with_reducible assumption | exact Below.refl _ _ | (refine Below.alloc ?_ (by first | omega | (simp only [World.size_alloc, World.size_setCell, World.size_drew]; done) | (simp only [World.size_alloc, World.size_setCell, World.size_drew]; omega)) _) | (refine Below.drew ?_) | (refine below_drewN ?_ _) | (refine Below.setCell ?_ (by first | omega | (simp only [World.size_alloc, World.size_setCell, World.size_drew]; done) | (simp only [World.size_alloc, World.size_setCell, World.size_drew]; omega)) _))) hq_) | (go_at_call 35; (with_reducible refine (HPt.out _).mono ?_); rintro e y3 ⟨Rt, ct, Qt, dt, rfl, mt, mtb, hq_⟩; have qy3 : Below u7.heap.size u7 y3 := bel_step (by repeat' (first | with_reducible assumption | exact Below.refl _ _ | (refine Below.alloc ?_ (by first | omega | (simp only [World.size_alloc, World.size_setCell, World.size_drew]; done) | (simp only [World.size_alloc, World.size_setCell, World.size_drew]; omega)) _) | (refine Below.drew ?_) | (refine below_drewN ?_ _) | (refine Below.setCell ?_ (by first | omega | (simp only [World.size_alloc, World.size_setCell, World.size_drew]; done) | (simp only [World.size_alloc, World.size_setCell, World.size_drew]; omega)) _))) hq_) | (go_at_call 32; (with_reducible refine (HSr.out _ _ _ _ _ _ _ _ _ (ow.m.below (by repeat' (first | with_reducible assumption | exact Below.refl _ _ | (refine Below.alloc ?_ (by first | omega | (simp only [World.size_alloc, World.size_setCell, World.size_drew]; done) | (simp only [World.size_alloc, World.size_setCell, World.size_drew]; omega)) _) | (refine Below.drew ?_) | (refine below_drewN ?_ _) | (refine Below.setCell ?_ (by first | omega | (simp only [World.size_alloc, World.size_setCell, World.size_drew]; done) | (simp only [World.size_alloc, World.size_setCell, World.size_drew]; omega)) _)))) (ow.n.below (by repeat' (first | with_reducible assumption | exact Below.refl _ _ | (refine Below.alloc ?_ (by first | omega | (simp only [World.size_alloc, World.size_setCell, World.size_drew]; done) | (simp only [World.size_alloc, World.size_setCell, World.size_drew]; omega)) _) | (refine Below.drew ?_) | (refine below_drewN ?_ _) | (refine Below.setCell ?_ (by first | omega | (simp only [World.size_alloc, World.size_setCell, World.size_drew]; done) | (simp only [World.size_alloc, World.size_setCell, World.size_drew]; omega)) _)))) (mt.below (by repeat' (first | with_reducible assumption | exact Below.refl _ _ | (refine Below.alloc ?_ (by first | omega | (simp only [World.size_alloc, World.size_setCell, World.size_drew]; done) | (simp only [World.size_alloc, World.size_setCell, World.size_drew]; omega)) _) | (refine Below.drew ?_) | (refine below_drewN ?_ _) | (refine Below.setCell ?_ (by first | omega | (simp only [World.size_alloc, World.size_setCell, World.size_drew]; done) | (simp only [World.size_alloc, World.size_setCell, World.size_drew]; omega)) _)))) (mtb.below (by repeat' (first | with_reducible assumption | exact Below.refl _ _ | (refine Below.alloc ?_ (by first | omega | (simp only [World.size_alloc, World.size_setCell, World.size_drew]; done) | (simp only [World.size_alloc, World.size_setCell, World.size_drew]; omega)) _) | (refine Below.drew ?_) | (refine below_drewN ?_ _) | (refine Below.setCell ?_ (by first | omega | (simp only [World.size_alloc, World.size_setCell, World.size_drew]; done) | (simp only [World.size_alloc, World.size_setCell, World.size_drew]; omega)) _))))).mono ?_); rintro e y4 ⟨rfl, hq_⟩; have qy4 : Below u7.heap.size u7 y4 := bel_step (by repeat' (first | with_reducible assumption | exact Below.refl _ _ | (refine Below.alloc ?_ (by first | omega | (simp only [World.size_alloc, World.size_setCell, World.size_drew]; done) | (simp only [World.size_alloc, World.size_setCell, World.size_drew]; omega)) _) | (refine Below.drew ?_) | (refine below_drewN ?_ _) | (refine Below.setCell ?_ (by first | omega | (simp only [World.size_alloc, World.size_setCell, World.size_drew]; done) | (simp only [World.size_alloc, World.size_setCell, World.size_drew]; omega)) _))) hq_) | (go_at_call 16; (with_reducible refine (HE.out _ (bel_step HB (by repeat' (first | with_reducible assumption | exact Below.refl _ _ | (refine Below.alloc ?_ (by first | omega | (simp only [World.size_alloc, World.size_setCell, World.size_drew]; done) | (simp only [World.size_alloc, World.size_setCell, World.size_drew]; omega)) _) | (refine Below.drew ?_) | (refine below_drewN ?_ _) | (refine Below.setCell ?_ (by first | omega | (simp only [World.size_alloc, World.size_setCell, World.size_drew]; done) | (simp only [World.size_alloc, World.size_setCell, World.size_drew]; omega)) _))))).mono ?_); rintro e y5 ⟨rfl, hq_⟩; have qy5 : Below u7.heap.size u7 y5 := bel_step (by repeat' (first | with_reducible assumption | exact Below.refl _ _ | (refine Below.alloc ?_ (by first | omega | (simp only [World.size_alloc, World.size_setCell, World.size_drew]; done) | (simp only [World.size_alloc, World.size_setCell, World.size_drew]; omega)) _) | (refine Below.drew ?_) | (refine below_drewN ?_ _) | (refine Below.setCell ?_ (by first | omega | (simp only [World.size_alloc, World.size_setCell, World.size_drew]; done) | (simp only [World.size_alloc, World.size_setCell, World.size_drew]; omega)) _))) hq_))
        all_goals
          go_wp2_with fail
          go_ret
          exact ⟨rfl, bel_step HB qy5⟩
      · clear HZ
        have hh2 : ¬ (i : Int) < (k : Int) := by omega
        go_wp2_with fail
        refine (HPc.out _).mono ?_
        rintro e w5 ⟨Rc, cc, Qc, dc, rfl, m1, m2, h5⟩
        have hv_ : Below v4.heap.size v4 w5 := Below.trans (b := _) (by repeat (first | assumption | exact Below.refl _ _ | refine Below.alloc ?_ (by simp; try omega) _ | refine Below.drew ?_ | refine below_drewN ?_ _)) (h5.mono (by simp; try omega))
        replace ox := ox.below hv_
        replace HB := HB.trans (hv_.mono HB.size)
        clear hv_
        go_wp2_with fail
        refine (HPd.out _).mono ?_
        rintro e w6 ⟨Rd, cd, Qd, dd, rfl, m3, m4, h6⟩
        have hv_ : Below w5.heap.size w5 w6 := Below.trans (b := _) (by repeat (first | assumption | exact Below.refl _ _ | refine Below.alloc ?_ (by simp; try omega) _ | refine Below.drew ?_ | refine below_drewN ?_ _)) (h6.mono (by simp; try omega))
        replace m1 := m1.below hv_
        replace m2 := m2.below hv_
        replace ox := ox.below hv_
        replace HB := HB.trans (hv_.mono HB.size)
        clear hv_
        go_wp2_with fail
        refine (HM2.out _ _ _ _ _ _ _ _ _ m1 m2 m3 m4).mono ?_
        rintro e w7 ⟨Rr, cr, Qr, dr, rfl, m_, n_, h7⟩
        have hv_ : Below w6.heap.size w6 w7 := Below.trans (b := _) (by repeat (first | assumption | exact Below.refl _ _ | refine Below.alloc ?_ (by simp; try omega) _ | refine Below.drew ?_ | refine below_drewN ?_ _)) (h7.mono (by simp; try omega))
        replace ox := ox.below hv_
        replace HB := HB.trans (hv_.mono HB.size)
        clear hv_
        go_upto_region 9 with fail
        have ow : Fb (w7.alloc (.cells #[.bool br, .slice Rr kr cr, .bool false, .slice Qr lr dr] 26)) w7.heap.size br Rr kr cr Xr Qr lr dr Yr := ⟨at_allocF0 rfl, at_allocF1 rfl, at_allocF2 rfl, at_allocF3 rfl, m_.alloc, n_.alloc⟩
        have hv_ : Below w7.heap.size w7 (w7.alloc (.cells #[.bool br, .slice Rr kr cr, .bool false, .slice Qr lr dr] 26)) := (Below.refl _ _).alloc (Nat.le_refl _) _
        generalize w7.alloc (.cells #[.bool br, .slice Rr kr cr, .bool false, .slice Qr lr dr] 26) = u7 at *
        replace ox := ox.below hv_
        replace HB := HB.trans (hv_.mono HB.size)
        clear hv_ m_ n_
        have q0 := ox.c0
        have q1 := ox.c1
        have q2 := ox.c2
        have q3 := ox.c3
        have r0 := ow.c0
        have r1 := ow.c1
        have r2 := ow.c2
        have r3 := ow.c3
        have lt_q := cell_lt q0
        have lt_r := cell_lt r0
        go_wp2_with fail
        go_region_held3 (fun w' => (w'.cell? ⟨v3.heap.size, 0, none⟩ = some (.bool bx) ∧ w'.cell? ⟨v3.heap.size, 1, none⟩ = some (.slice R3_ kx c3_) ∧ w'.cell? ⟨v3.heap.size, 2, none⟩ = some (.bool false) ∧ w'.cell? ⟨v3.heap.size, 3, none⟩ = some (.slice Q3_ lx d3_)) ∧ (w'.cell? ⟨w7.heap.size, 0, none⟩ = some (.bool br) ∧ w'.cell? ⟨w7.heap.size, 1, none⟩ = some (.slice Rr kr cr) ∧ w'.cell? ⟨w7.heap.size, 2, none⟩ = some (.bool false) ∧ w'.cell? ⟨w7.heap.size, 3, none⟩ = some (.slice Qr lr dr))) (first | ((try dsimp only); repeat' (first | with_reducible assumption | apply And.intro | (with_reducible refine keep_cell (W := u7) ?_ ?_) | exact (Below.refl _ _).drew | fail))) (first | (go_at_call 35; (with_reducible refine (HPs.out _).mono ?_); rintro e y1 ⟨Rp, cp, Qp, dp, rfl, mp, mpb, hq_⟩; have qy1 : Below u7.heap.size u7 y1 := bel_step (by repeat' (first | with_reducible assumption | exact Below.refl _ _ | (refine Below.alloc ?_ (by first | omega | (simp only [World.size_alloc, World.size_setCell, World.size_drew]; done) | (simp only [World.size_alloc, World.size_setCell, World.size_drew]; omega)) _) | (refine Below.drew ?_) | (refine below_drewN ?_ _) | (refine Below.setCell ?_ (by first | omega | (simp only [World.size_alloc, World.size_setCell, World.size_drew]; done) | (simp only [World.size_alloc, World.size_setCell, World.size_drew]; omega)) _))) hq_) | (go_at_call 32; (with_reducible refine (HS.out _ _ _ _ _ _ _ _ _ (ox.m.below (by repeat' (first | with_reducible assumption | exact Below.refl _ _ | (refine Below.alloc ?_ (by first | omega | (simp only [World.size_alloc, World.size_setCell, World.size_drew]; done) | (simp only [World.size_alloc, World.size_setCell, World.size_drew]; omega)) _) | (refine Below.drew ?_) | (refine below_drewN ?_ _) | (refine Below.setCell ?_ (by first | omega | (simp only [World.size_alloc, World.size_setCell, World.size_drew]; done) | (simp only [World.size_alloc, World.size_setCell, World.size_drew]; omega)) _)))) (ox.n.below (by repeat' (first | with_reducible assumption | exact Below.refl _ _ | (refine Below.alloc ?_ (by first | omega | (simp only [World.size_alloc, World.size_setCell, World.size_drew]; done) | (simp only [World.size_alloc, World.size_setCell, World.size_drew]; omega)) _) | (refine Below.drew ?_) | (refine below_drewN ?_ _) | (refine Below.setCell ?_ (by first | omega | (simp only [World.size_alloc, World.size_setCell, World.size_drew]; done) | (simp only [World.size_alloc, World.size_setCell, World.size_drew]; omega)) _)))) (mp.below (by repeat' (first | with_reducible assumption | exact Below.refl _ _ | (refine Below.alloc ?_ (by first | omega | (simp only [World.size_alloc, World.size_setCell, World.size_drew]; done) | (simp only [World.size_alloc, World.size_setCell, World.size_drew]; omega)) _) | (refine Below.drew ?_) | (refine below_drewN ?_ _) | (refine Below.setCell ?_ (by first | omega | (simp only [World.size_alloc, World.size_setCell, World.size_drew]; done) | (simp only [World.size_alloc, World.size_setCell, World.size_drew]; omega)) _)))) (mpb.below (by repeat' (first | with_reducible assumption | exact Below.refl _ _ | (refine Below.alloc ?_ (by first | omega | (simp only [World.size_alloc, World.size_setCell, World.size_drew]; done) | (simp only [World.size_alloc, World.size_setCell, World.size_drew]; omega)) _) | (refine Below.drew ?_) | (refine below_drewN ?_ _) | (refine Below.setCell ?_ (by first | omega | (simp only [World.size_alloc, World.size_setCell, World.size_drew]; done) | (simp only [World.size_alloc, World.size_setCell, World.size_drew]; omega)) _))))).mono ?_); rintro e y2 ⟨rfl, hq_⟩; have qy2 : Below u7.heap.size u7 y2 := bel_step (by repeat' (first | with_reducible assumption | exact Below.refl _ _ | (refine Below.alloc ?_ (by first | omega | (simp only [World.size_alloc, World.size_setCell, World.size_drew]; done) | (simp only [World.size_alloc, World.size_setCell, World.size_drew]; omega)) _) | (refine Below.drew ?_) | (refine below_drewN ?_ _) | (refine Below.setCell ?_ (by first | omega | (simp only [World.size_alloc, World.size_setCell, World.size_drew]; done) | (simp only [World.size_alloc, World.size_setCell, World.size_drew]; omega)) _))) hq_) | (go_at_call 35; (with_reducible refine (HPt.out _).mono ?_); rintro e y3 ⟨Rt, ct, Qt, dt, rfl, mt, mtb, hq_⟩; have qy3 : Below u7.heap.size u7 y3 := bel_step (by repeat' (first | with_reducible assumption | exact Below.refl _ _ | (refine Below.alloc ?_ (by first | omega | (simp only [World.size_alloc, World.size_setCell, World.size_drew]; done) | (simp only [World.size_alloc, World.size_setCell, World.size_drew]; omega)) _) | (refine Below.drew ?_) | (refine below_drewN ?_ _) | (refine Below.setCell ?_ (by first | omega | (simp only [World.size_alloc, World.size_setCell, World.size_drew]; done) | (simp only [World.size_alloc, World.size_setCell, World.size_drew]; omega)) _))) hq_) | (go_at_call 32; (with_reducible refine (HSr.out _ _ _ _ _ _ _ _ _ (ow.m.below (by repeat' (first | with_reducible assumption | exact Below.refl _ _ | (refine Below.alloc ?_ (by first | omega | (simp only [World.size_alloc, World.size_setCell, World.size_drew]; done) | (simp only [World.size_alloc, World.size_setCell, World.size_drew]; omega)) _) | (refine Below.drew ?_) | (refine below_drewN ?_ _) | (refine Below.setCell ?_ (by first | omega | (simp only [World.size_alloc, World.size_setCell, World.size_drew]; done) | (simp only [World.size_alloc, World.size_setCell, World.size_drew]; omega)) _)))) (ow.n.below (by repeat' (first | with_reducible assumption | exact Below.refl _ _ | (refine Below.alloc ?_ (by first | omega | (simp only [World.size_alloc, World.size_setCell, World.size_drew]; done) | (simp only [World.size_alloc, World.size_setCell, World.size_drew]; omega)) _) | (refine Below.drew ?_) | (refine below_drewN ?_ _) | (refine Below.setCell ?_ (by first | omega | (simp only [World.size_alloc, World.size_setCell, World.size_drew]; done) | (simp only [World.size_alloc, World.size_setCell, World.size_drew]; omega)) _)))) (mt.below (by repeat' (first | with_reducible assumption | exact Below.refl _ _ | (refine Below.alloc ?_ (by first | omega | (simp only [World.size_alloc, World.size_setCell, World.size_drew]; done) | (simp only [World.size_alloc, World.size_setCell, World.size_drew]; omega)) _) | (refine Below.drew ?_) | (refine below_drewN ?_ _) | (refine Below.setCell ?_ (by first | omega | (simp only [World.size_alloc, World.size_setCell, World.size_drew]; done) | (simp only [World.size_alloc, World.size_setCell, World.size_drew]; omega)) _)))) (mtb.below (by repeat' (first | with_reducible assumption | exact Below.refl _ _ | (refine Below.alloc ?_ (by first | omega | (simp only [World.size_alloc, World.size_setCell, World.size_drew]; done) | (simp only [World.size_alloc, World.size_setCell, World.size_drew]; omega)) _) | (refine Below.drew ?_) | (refine below_drewN ?_ _) | (refine Below.setCell ?_ (by first | omega | (simp only [World.size_alloc, World.size_setCell, World.size_drew]; done) | (simp only [World.size_alloc, World.size_setCell, World.size_drew]; omega)) _))))).mono ?_); rintro e y4 ⟨rfl, hq_⟩; have qy4 : Below u7.heap.size u7 y4 := bel_step (by repeat' (first | with_reducible assumption | exact Below.refl _ _ | (refine Below.alloc ?_ (by first | omega | (simp only [World.size_alloc, World.size_setCell, World.size_drew]; done) | (simp only [World.size_alloc, World.size_setCell, World.size_drew]; omega)) _) | (refine Below.drew ?_) | (refine below_drewN ?_ _) | (refine Below.setCell ?_ (by first | omega | (simp only [World.size_alloc, World.size_setCell, World.size_drew]; done) | (simp only [World.size_alloc, World.size_setCell, World.size_drew]; omega)) _))) hq_) | (go_at_call 16; (with_reducible refine (HE.out _ (bel_step HB (by repeat' (first | with_reducible assumption | exact Below.refl _ _ | (refine Below.alloc ?_ (by first | omega | (simp only [World.size_alloc, World.size_setCell, World.size_drew]; done) | (simp only [World.size_alloc, World.size_setCell, World.size_drew]; omega)) _) | (refine Below.drew ?_) | (refine below_drewN ?_ _) | (refine Below.setCell ?_ (by first | omega | (simp only [World.size_alloc, World.size_setCell, World.size_drew]; done) | (simp only [World.size_alloc, World.size_setCell, World.size_drew]; omega)) _))))).mono ?_); rintro e y5 ⟨rfl, hq_⟩; have qy5 : Below u7.heap.size u7 y5 := bel_step (by repeat' (first | with_reducible assumption | exact Below.refl _ _ | (refine Below.alloc ?_ (by first | omega | (simp only [World.size_alloc, World.size_setCell, World.size_drew]; done) | (simp only [World.size_alloc, World.size_setCell, World.size_drew]; omega)) _) | (refine Below.drew ?_) | (refine below_drewN ?_ _) | (refine Below.setCell ?_ (by first | omega | (simp only [World.size_alloc, World.size_setCell, World.size_drew]; done) | (simp only [World.size_alloc, World.size_setCell, World.size_drew]; omega)) _))) hq_))
        all_goals
          go_wp2_with fail
          go_ret
          exact ⟨rfl, bel_step HB qy5⟩
  · obtain ⟨bb_, kb_, Xb_, lb_, Yb_, Ib_⟩ := fz ((1 : Int), bp k)
    have HPb := hid fun (w1 : World) => Lpower_tg (w := w1) (n := k) (by omega) Ib_.out
    obtain ⟨z, hz⟩ : ∃ z, cmpF ((bp i : Int), 1) ((1 : Int), bp k) = z := ⟨_, rfl⟩
    have HC := hid fun (w1 : World) (R Q R' Q' : Option Addr) (c d c' d' : Nat) (m1 : Mg w1 R c Xa_) (m2 : Mg w1 Q d Ya_) (m3 : Mg w1 R' c' Xb_) (m4 : Mg w1 Q' d' Yb_) => FrCmp_f (w := w1) Ia_.out Ib_.out (vf_bp hi2) (vf_bpr hk2) z hz m1 m2 m3 m4
    rw [cmp_br] at hz
    have HZ : Hid (z = 1 ∨ (i = 0 ∧ k = 0 ∧ z = 0)) := by
      rw [← hz]
      split
      · exact .inl rfl
      · exact .inr ⟨by omega, by omega, rfl⟩
    by_cases hle : k ≤ i
    · obtain ⟨s, hs⟩ : ∃ s, i - k = s := ⟨_, rfl⟩
      have hsi : (i : Int) - (k : Int) = (s : Int) := by omega
      have hws : IntKind.i64.wrap (s : Int) = (s : Int) := by rw [IntKind.wrap_i64]; omega
      obtain ⟨bx, kx, Xx, lx, Yx, Ix⟩ := fz (((bp s : Nat) : Int), 1)
      have HM1 := hid fun (w1 : World) (R Q R' Q' : Option Addr) (c d c' d' : Nat) (m1 : Mg w1 R c Xa_) (m2 : Mg w1 Q d Ya_) (m3 : Mg w1 R' c' Xb_) (m4 : Mg w1 Q' d' Yb_) => FrMul_f (w := w1) Ia_.out Ib_.out (vf_bp hi2) (vf_bpr hk2) (by rw [mul_br_ge hi2 hle, hs]) Ix.out m1 m2 m3 m4
      have HPs := hid fun (w1 : World) => Lpower_fg (w := w1) (n := s) (by omega) Ix.out
      have HS_ := hid fun (w1 : World) (R Q R' Q' : Option Addr) (c d c' d' : Nat) (m1 : Mg w1 R c Xx) (m2 : Mg w1 Q d Yx) (m3 : Mg w1 R' c' Xx) (m4 : Mg w1 Q' d' Yx) => QSame_g (w := w1) Ix.out Ix.out m1 m2 m3 m4 true (by simp)
      have HS := HS_
      have hl2 : (k : Int) ≤ (i : Int) := by omega
      clear Ia_ Ib_ Ix hs hle HS_ hz
      go_enter Tryz.func7, Tryz.ntmps7
      go_wp2_with fail
      refine (HPa.out _).mono ?_
      rintro e w1 ⟨Ra, ca, Qa, da, rfl, m1, m2, HB⟩
      go_wp2_with fail
      refine (HPb.out _).mono ?_
      rintro e w2 ⟨Rb, cb, Qb, db, rfl, m3, m4, h2⟩
      have hv_ : Below w1.heap.size w1 w2 := Below.trans (b := _) (by repeat (first | assumption | exact Below.refl _ _ | refine Below.alloc ?_ (by simp; try omega) _ | refine Below.drew ?_ | refine below_drewN ?_ _)) (h2.mono (by simp; try omega))
      replace m1 := m1.below hv_
      replace m2 := m2.below hv_
      replace HB := HB.trans (hv_.mono HB.size)
      clear hv_
      go_upto_region 3 with fail
      have fa : Fb ((w2.alloc (.cells #[.bool ba_, .slice Ra ka_ ca, .bool false, .slice Qa la_ da] 26)).alloc (.cells #[.bool bb_, .slice Rb kb_ cb, .bool false, .slice Qb lb_ db] 26)) w2.heap.size ba_ Ra ka_ ca Xa_ Qa la_ da Ya_ := ⟨keep_alloc (at_allocF0 rfl), keep_alloc (at_allocF1 rfl), keep_alloc (at_allocF2 rfl), keep_alloc (at_allocF3 rfl), m1.alloc.alloc, m2.alloc.alloc⟩
      have fb : Fb ((w2.alloc (.cells #[.bool ba_, .slice Ra ka_ ca, .bool false, .slice Qa la_ da] 26)).alloc (.cells #[.bool bb_, .slice Rb kb_ cb, .bool false, .slice Qb lb_ db] 26)) (w2.heap.size + 1) bb_ Rb kb_ cb Xb_ Qb lb_ db Yb_ := ⟨at_allocF0 (by simp), at_allocF1 (by simp), at_allocF2 (by simp), at_allocF3 (by simp), m3.alloc.alloc, m4.alloc.alloc⟩
      have hv_ : Below w2.heap.size w2 ((w2.alloc (.cells #[.bool ba_, .slice Ra ka_ ca, .bool false, .slice Qa la_ da] 26)).alloc (.cells #[.bool bb_, .slice Rb kb_ cb, .bool false, .slice Qb lb_ db] 26)) := ((Below.refl _ _).alloc (Nat.le_refl _) _).alloc (by simp) _
      generalize (w2.alloc (.cells #[.bool ba_, .slice Ra ka_ ca, .bool false, .slice Qa la_ da] 26)).alloc (.cells #[.bool bb_, .slice Rb kb_ cb, .bool false, .slice Qb lb_ db] 26) = u2 at *
      replace HB := HB.trans (hv_.mono HB.size)
      clear hv_ m1 m2 m3 m4
      have e0 := fa.c0
      have e1 := fa.c1
      have e2 := fa.c2
      have e3 := fa.c3
      have f0 := fb.c0
      have f1 := fb.c1
      have f2 := fb.c2
      have f3 := fb.c3
      have lt_e0 := cell_lt e0
      have lt_f0 := cell_lt f0
      go_wp2_with fail
      refine (HM1.out _ _ _ _ _ _ _ _ _ fa.m fa.n fb.m fb.n).mono ?_
      rintro e v3 ⟨R3_, c3_, Q3_, d3_, rfl, m_, n_, h_⟩
      clear e0 e1 e2 e3 f0 f1 f2 f3 lt_e0 lt_f0
      have hv_ : Below u2.heap.size u2 v3 := Below.trans (b := _) (by repeat (first | assumption | exact Below.refl _ _ | refine Below.alloc ?_ (by simp; try omega) _ | refine Below.drew ?_ | refine below_drewN ?_ _)) (h_.mono (by simp; try omega))
      replace fa := fa.below hv_
      replace fb := fb.below hv_
      replace HB := HB.trans (hv_.mono HB.size)
      clear hv_
      go_upto_region 4 with fail
      have ox : Fb (v3.alloc (.cells #[.bool bx, .slice R3_ kx c3_, .bool false, .slice Q3_ lx d3_] 26)) v3.heap.size bx R3_ kx c3_ Xx Q3_ lx d3_ Yx := ⟨at_allocF0 rfl, at_allocF1 rfl, at_allocF2 rfl, at_allocF3 rfl, m_.alloc, n_.alloc⟩
      have hv_ : Below v3.heap.size v3 (v3.alloc (.cells #[.bool bx, .slice R3_ kx c3_, .bool false, .slice Q3_ lx d3_] 26)) := (Below.refl _ _).alloc (Nat.le_refl _) _
      generalize v3.alloc (.cells #[.bool bx, .slice R3_ kx c3_, .bool false, .slice Q3_ lx d3_] 26) = u3 at *
      replace fa := fa.below hv_
      replace fb := fb.below hv_
      replace HB := HB.trans (hv_.mono HB.size)
      clear hv_ m_ n_
      have e0 := fa.c0
      have e1 := fa.c1
      have e2 := fa.c2
      have e3 := fa.c3
      have f0 := fb.c0
      have f1 := fb.c1
      have f2 := fb.c2
      have f3 := fb.c3
      have lt_e0 := cell_lt e0
      have lt_f0 := cell_lt f0
      go_wp2_with fail
      refine (HC.out _ _ _ _ _ _ _ _ _ fa.m fa.n fb.m fb.n).mono ?_
      rintro e v4 ⟨rfl, h_⟩
      clear e0 e1 e2 e3 f0 f1 f2 f3 lt_e0 lt_f0
      have hv_ : Below u3.heap.size u3 v4 := Below.trans (b := _) (by repeat (first | assumption | exact Below.refl _ _ | refine Below.alloc ?_ (by simp; try omega) _ | refine Below.drew ?_ | refine below_drewN ?_ _)) (h_.mono (by simp; try omega))
      replace ox := ox.below hv_
      replace HB := HB.trans (hv_.mono HB.size)
      clear hv_
      rcases HZ.out with rfl | ⟨hh1, hh2, rfl⟩
      · clear HZ
        have q0 := ox.c0
        have q1 := ox.c1
        have q2 := ox.c2
        have q3 := ox.c3
        have lt_q := cell_lt q0
        go_wp2_with fail
        go_region_held3 (fun w' => w'.cell? ⟨v3.heap.size, 0, none⟩ = some (.bool bx) ∧ w'.cell? ⟨v3.heap.size, 1, none⟩ = some (.slice R3_ kx c3_) ∧ w'.cell? ⟨v3.heap.size, 2, none⟩ = some (.bool false) ∧ w'.cell? ⟨v3.heap.size, 3, none⟩ = some (.slice Q3_ lx d3_)) (first | ((try dsimp only); repeat' (first | with_reducible assumption | apply And.intro | (with_reducible refine keep_cell (W := v4) ?_ ?_) | exact (Below.refl _ _).drew | fail))) (first | (go_at_call 35; (with_reducible refine (HPs.out _).mono ?_); rintro e y1 ⟨Rp, cp, Qp, dp, rfl, mp, mpb, hq_⟩; have qy1 : Below v4.heap.size v4 y1 := bel_step (by repeat' (first | with_reducible assumption | exact Below.refl _ _ | (refine Below.alloc ?_ (by first | omega | (simp only [World.size_alloc, World.size_setCell, World.size_drew]; done) | (simp only [World.size_alloc, World.size_setCell, World.size_drew]; omega)) _) | (refine Below.drew ?_) | (refine below_drewN ?_ _) | (refine Below.setCell ?_ (by first | omega | (simp only [World.size_alloc, World.size_setCell, World.size_drew]; done) | (simp only [World.size_alloc, World.size_setCell, World.size_drew]; omega)) _))) hq_) | (go_at_call 32; (with_reducible refine (HS.out _ _ _ _ _ _ _ _ _ (ox.m.below (by repeat' (first | with_reducible assumption | exact Below.refl _ _ | (refine Below.alloc ?_ (by first | omega | (simp only [World.size_alloc, World.size_setCell, World.size_drew]; done) | (simp only [World.size_alloc, World.size_setCell, World.size_drew]; omega)) _) | (refine Below.drew ?_) | (refine below_drewN ?_ _) | (refine Below.setCell ?_ (by first | omega | (simp only [World.size_alloc, World.size_setCell, World.size_drew]; done) | (simp only [World.size_alloc, World.size_setCell, World.size_drew]; omega)) _)))) (ox.n.below (by repeat' (first | with_reducible assumption | exact Below.refl _ _ | (refine Below.alloc ?_ (by first | omega | (simp only [World.size_alloc, World.size_setCell, World.size_drew]; done) | (simp only [World.size_alloc, World.size_setCell, World.size_drew]; omega)) _) | (refine Below.drew ?_) | (refine below_drewN ?_ _) | (refine Below.setCell ?_ (by first | omega | (simp only [World.size_alloc, World.size_setCell, World.size_drew]; done) | (simp only [World.size_alloc, World.size_setCell, World.size_drew]; omega)) _)))) (mp.below (by repeat' (first | with_reducible assumption | exact Below.refl _ _ | (refine Below.alloc ?_ (by first | omega | (simp only [World.size_alloc, World.size_setCell, World.size_drew]; done) | (simp only [World.size_alloc, World.size_setCell, World.size_drew]; omega)) _) | (refine Below.drew ?_) | (refine below_drewN ?_ _) | (refine Below.setCell ?_ (by first | omega | (simp only [World.size_alloc, World.size_setCell, World.size_drew]; done) | (simp only [World.size_alloc, World.size_setCell, World.size_drew]; omega)) _)))) (mpb.below (by repeat' (first | with_reducible assumption | exact Below.refl _ _ | (refine Below.alloc ?_ (by first | omega | (simp only [World.size_alloc, World.size_setCell, World.size_drew]; done) | (simp only [World.size_alloc, World.size_setCell, World.size_drew]; omega)) _) | (refine Below.drew ?_) | (refine below_drewN ?_ _) | (refine Below.setCell ?_ (by first | omega | (simp only [World.size_alloc, World.size_setCell, World.size_drew]; done) | (simp only [World.size_alloc, World.size_setCell, World.size_drew]; omega)) _))))).mono ?_); rintro e y2 ⟨rfl, hq_⟩; have qy2 : Below v4.heap.size v4 y2 := bel_step (by repeat' (first | with_reducible assumption | exact Below.refl _ _ | (refine Below.alloc ?_ (by first | omega | (simp only [World.size_alloc, World.size_setCell, World.size_drew]; done) | (simp only [World.size_alloc, World.size_setCell, World.size_drew]; omega)) _) | (refine Below.drew ?_) | (refine below_drewN ?_ _) | (refine Below.setCell ?_ (by first | omega | (simp only [World.size_alloc, World.size_setCell, World.size_drew]; done) | (simp only [World.size_alloc, World.size_setCell, World.size_drew]; omega)) _))) hq_) | (go_at_call 16; (with_reducible refine (HE.out _ (bel_step HB (by repeat' (first | with_reducible assumption | exact Below.refl _ _ | (refine Below.alloc ?_ (by first | omega | (simp only [World.size_alloc, World.size_setCell, World.size_drew]; done) | (simp only [World.size_alloc, World.size_setCell, World.size_drew]; omega)) _) | (refine Below.drew ?_) | (refine below_drewN ?_ _) | (refine Below.setCell ?_ (by first | omega | (simp only [World.size_alloc, World.size_setCell, World.size_drew]; done) | (simp only [World.size_alloc, World.size_setCell, World.size_drew]; omega)) _))))).mono ?_); rintro e y3 ⟨rfl, hq_⟩; have qy3 : Below v4.heap.size v4 y3 := bel_step (by repeat' (first | with_reducible assumption | exact Below.refl _ _ | (refine Below.alloc ?_ (by first | omega | (simp only [World.size_alloc, World.size_setCell, World.size_drew]; done) | (simp only [World.size_alloc, World.size_setCell, World.size_drew]; omega)) _) | (refine Below.drew ?_) | (refine below_drewN ?_ _) | (refine Below.setCell ?_ (by first | omega | (simp only [World.size_alloc, World.size_setCell, World.size_drew]; done) | (simp only [World.size_alloc, World.size_setCell, World.size_drew]; omega)) _))) hq_))
        all_goals
          go_wp2_with fail
          go_ret
          exact ⟨rfl, bel_step HB qy3⟩
      · clear HZ
        have hik : ¬ (0 : Int) < (i : Int) + (k : Int) := by omega
        clear hh1 hh2
        have q0 := ox.c0
        have q1 := ox.c1
        have q2 := ox.c2
        have q3 := ox.c3
        have lt_q := cell_lt q0
        go_wp2_with fail
        go_region_held3 (fun w' => w'.cell? ⟨v3.heap.size, 0, none⟩ = some (.bool bx) ∧ w'.cell? ⟨v3.heap.size, 1, none⟩ = some (.slice R3_ kx c3_) ∧ w'.cell? ⟨v3.heap.size, 2, none⟩ = some (.bool false) ∧ w'.cell? ⟨v3.heap.size, 3, none⟩ = some (.slice Q3_ lx d3_)) (first | ((try dsimp only); repeat' (first | with_reducible assumption | apply And.intro | (with_reducible refine keep_cell (W := v4) ?_ ?_) | exact (Below.refl _ _).drew | fail))) (first | (go_at_call 35; (with_reducible refine (HPs.out _).mono ?_); rintro e y1 ⟨Rp, cp, Qp, dp, rfl, mp, mpb, hq_⟩; have qy1 : Below v4.heap.size v4 y1 := bel_step (by repeat' (first | with_reducible assumption | exact Below.refl _ _ | (refine Below.alloc ?_ (by first | omega | (simp only [World.size_alloc, World.size_setCell, World.size_drew]; done) | (simp only [World.size_alloc, World.size_setCell, World.size_drew]; omega)) _) | (refine Below.drew ?_) | (refine below_drewN ?_ _) | (refine Below.setCell ?_ (by first | omega | (simp only [World.size_alloc, World.size_setCell, World.size_drew]; done) | (simp only [World.size_alloc, World.size_setCell, World.size_drew]; omega)) _))) hq_) | (go_at_call 32; (with_reducible refine (HS.out _ _ _ _ _ _ _ _ _ (ox.m.below (by repeat' (first | with_reducible assumption | exact Below.refl _ _ | (refine Below.alloc ?_ (by first | omega | (simp only [World.size_alloc, World.size_setCell, World.size_drew]; done) | (simp only [World.size_alloc, World.size_setCell, World.size_drew]; omega)) _) | (refine Below.drew ?_) | (refine below_drewN ?_ _) | (refine Below.setCell ?_ (by first | omega | (simp only [World.size_alloc, World.size_setCell, World.size_drew]; done) | (simp only [World.size_alloc, World.size_setCell, World.size_drew]; omega)) _)))) (ox.n.below (by repeat' (first | with_reducible assumption | exact Below.refl _ _ | (refine Below.alloc ?_ (by first | omega | (simp only [World.size_alloc, World.size_setCell, World.size_drew]; done) | (simp only [World.size_alloc, World.size_setCell, World.size_drew]; omega)) _) | (refine Below.drew ?_) | (refine below_drewN ?_ _) | (refine Below.setCell ?_ (by first | omega | (simp only [World.size_alloc, World.size_setCell, World.size_drew]; done) | (simp only [World.size_alloc, World.size_setCell, World.size_drew]; omega)) _)))) (mp.below (by repeat' (first | with_reducible assumption | exact Below.refl _ _ | (refine Below.alloc ?_ (by first | omega | (simp only [World.size_alloc, World.size_setCell, World.size_drew]; done) | (simp only [World.size_alloc, World.size_setCell, World.size_drew]; omega)) _) | (refine Below.drew ?_) | (refine below_drewN ?_ _) | (refine Below.setCell ?_ (by first | omega | (simp only [World.size_alloc, World.size_setCell, World.size_drew]; done) | (simp only [World.size_alloc, World.size_setCell, World.size_drew]; omega)) _)))) (mpb.below (by repeat' (first | with_reducible assumption | exact Below.refl _ _ | (refine Below.alloc ?_ (by first | omega | (simp only [World.size_alloc, World.size_setCell, World.size_drew]; done) | (simp only [World.size_alloc, World.size_setCell, World.size_drew]; omega)) _) | (refine Below.drew ?_) | (refine below_drewN ?_ _) | (refine Below.setCell ?_ (by first | omega | (simp only [World.size_alloc, World.size_setCell, World.size_drew]; done) | (simp only [World.size_alloc, World.size_setCell, World.size_drew]; omega)) _))))).mono ?_); rintro e y2 ⟨rfl, hq_⟩; have qy2 : Below v4.heap.size v4 y2 := bel_step (by repeat' (first | with_reducible assumption | exact Below.refl _ _ | (refine Below.alloc ?_ (by first | omega | (simp only [World.size_alloc, World.size_setCell, World.size_drew]; done) | (simp only [World.size_alloc, World.size_setCell, World.size_drew]; omega)) _) | (refine Below.drew ?_) | (refine below_drewN ?_ _) | (refine Below.setCell ?_ (by first | omega | (simp only [World.size_alloc, World.size_setCell, World.size_drew]; done) | (simp only [World.size_alloc, World.size_setCell, World.size_drew]; omega)) _))) hq_) | (go_at_call 16; (with_reducible refine (HE.out _ (bel_step HB (by repeat' (first | with_reducible assumption | exact Below.refl _ _ | (refine Below.alloc ?_ (by first | omega | (simp only [World.size_alloc, World.size_setCell, World.size_drew]; done) | (simp only [World.size_alloc, World.size_setCell, World.size_drew]; omega)) _) | (refine Below.drew ?_) | (refine below_drewN ?_ _) | (refine Below.setCell ?_ (by first | omega | (simp only [World.size_alloc, World.size_setCell, World.size_drew]; done) | (simp only [World.size_alloc, World.size_setCell, World.size_drew]; omega)) _))))).mono ?_); rintro e y3 ⟨rfl, hq_⟩; have qy3 : Below v4.heap.size v4 y3 := bel_step (by repeat' (first | with_reducible assumption | exact Below.refl _ _ | (refine Below.alloc ?_ (by first | omega | (simp only [World.size_alloc, World.size_setCell, World.size_drew]; done) | (simp only [World.size_alloc, World.size_setCell, World.size_drew]; omega)) _) | (refine Below.drew ?_) | (refine below_drewN ?_ _) | (refine Below.setCell ?_ (by first | omega | (simp only [World.size_alloc, World.size_setCell, World.size_drew]; done) | (simp only [World.size_alloc, World.size_setCell, World.size_drew]; omega)) _))) hq_))
        all_goals
          go_wp2_with fail
          go_ret
          exact ⟨rfl, bel_step HB qy3⟩
    · obtain ⟨s, hs⟩ : ∃ s, k - i = s := ⟨_, rfl⟩
      have hsi : (k : Int) - (i : Int) = (s : Int) := by omega
      have hws : IntKind.i64.wrap (s : Int) = (s : Int) := by rw [IntKind.wrap_i64]; omega
      obtain ⟨bx, kx, Xx, lx, Yx, Ix⟩ := fz ((1 : Int), bp s)
      have HM1 := hid fun (w1 : World) (R Q R' Q' : Option Addr) (c d c' d' : Nat) (m1 : Mg w1 R c Xa_) (m2 : Mg w1 Q d Ya_) (m3 : Mg w1 R' c' Xb_) (m4 : Mg w1 Q' d' Yb_) => FrMul_f (w := w1) Ia_.out Ib_.out (vf_bp hi2) (vf_bpr hk2) (by rw [mul_br_lt hk2 (by omega), hs]) Ix.out m1 m2 m3 m4
      have HPs := hid fun (w1 : World) => Lpower_tg (w := w1) (n := s) (by omega) Ix.out
      have HS_ := hid fun (w1 : World) (R Q R' Q' : Option Addr) (c d c' d' : Nat) (m1 : Mg w1 R c Xx) (m2 : Mg w1 Q d Yx) (m3 : Mg w1 R' c' Xx) (m4 : Mg w1 Q' d' Yx) => QSame_g (w := w1) Ix.out Ix.out m1 m2 m3 m4 true (by simp)
      have HS := HS_
      have hl2 : ¬ (k : Int) ≤ (i : Int) := by omega
      have HNZ : Hid (¬ (i = 0 ∧ k = 0)) := by unfold Hid; omega
      clear Ia_ Ib_ Ix hs hle HS_ hz
      go_enter Tryz.func7, Tryz.ntmps7
      go_wp2_with fail
      refine (HPa.out _).mono ?_
      rintro e w1 ⟨Ra, ca, Qa, da, rfl, m1, m2, HB⟩
      go_wp2_with fail
      refine (HPb.out _).mono ?_
      rintro e w2 ⟨Rb, cb, Qb, db, rfl, m3, m4, h2⟩
      have hv_ : Below w1.heap.size w1 w2 := Below.trans (b := _) (by repeat (first | assumption | exact Below.refl _ _ | refine Below.alloc ?_ (by simp; try omega) _ | refine Below.drew ?_ | refine below_drewN ?_ _)) (h2.mono (by simp; try omega))
      replace m1 := m1.below hv_
      replace m2 := m2.below hv_
      replace HB := HB.trans (hv_.mono HB.size)
      clear hv_
      go_upto_region 3 with fail
      have fa : Fb ((w2.alloc (.cells #[.bool ba_, .slice Ra ka_ ca, .bool false, .slice Qa la_ da] 26)).alloc (.cells #[.bool bb_, .slice Rb kb_ cb, .bool false, .slice Qb lb_ db] 26)) w2.heap.size ba_ Ra ka_ ca Xa_ Qa la_ da Ya_ := ⟨keep_alloc (at_allocF0 rfl), keep_alloc (at_allocF1 rfl), keep_alloc (at_allocF2 rfl), keep_alloc (at_allocF3 rfl), m1.alloc.alloc, m2.alloc.alloc⟩
      have fb : Fb ((w2.alloc (.cells #[.bool ba_, .slice Ra ka_ ca, .bool false, .slice Qa la_ da] 26)).alloc (.cells #[.bool bb_, .slice Rb kb_ cb, .bool false, .slice Qb lb_ db] 26)) (w2.heap.size + 1) bb_ Rb kb_ cb Xb_ Qb lb_ db Yb_ := ⟨at_allocF0 (by simp), at_allocF1 (by simp), at_allocF2 (by simp), at_allocF3 (by simp), m3.alloc.alloc, m4.alloc.alloc⟩
      have hv_ : Below w2.heap.size w2 ((w2.alloc (.cells #[.bool ba_, .slice Ra ka_ ca, .bool false, .slice Qa la_ da] 26)).alloc (.cells #[.bool bb_, .slice Rb kb_ cb, .bool false, .slice Qb lb_ db] 26)) := ((Below.refl _ _).alloc (Nat.le_refl _) _).alloc (by simp) _
      generalize (w2.alloc (.cells #[.bool ba_, .slice Ra ka_ ca, .bool false, .slice Qa la_ da] 26)).alloc (.cells #[.bool bb_, .slice Rb kb_ cb, .bool false, .slice Qb lb_ db] 26) = u2 at *
      replace HB := HB.trans (hv_.mono HB.size)
      clear hv_ m1 m2 m3 m4
      have e0 := fa.c0
      have e1 := fa.c1
      have e2 := fa.c2
      have e3 := fa.c3
      have f0 := fb.c0
      have f1 := fb.c1
      have f2 := fb.c2
      have f3 := fb.c3
      have lt_e0 := cell_lt e0
      have lt_f0 := cell_lt f0
      go_wp2_with fail
      refine (HM1.out _ _ _ _ _ _ _ _ _ fa.m fa.n fb.m fb.n).mono ?_
      rintro e v3 ⟨R3_, c3_, Q3_, d3_, rfl, m_, n_, h_⟩
      clear e0 e1 e2 e3 f0 f1 f2 f3 lt_e0 lt_f0
      have hv_ : Below u2.heap.size u2 v3 := Below.trans (b := _) (by repeat (first | assumption | exact Below.refl _ _ | refine Below.alloc ?_ (by simp; try omega) _ | refine Below.drew ?_ | refine below_drewN ?_ _)) (h_.mono (by simp; try omega))
      replace fa := fa.below hv_
      replace fb := fb.below hv_
      replace HB := HB.trans (hv_.mono HB.size)
      clear hv_
      go_upto_region 4 with fail
      have ox : Fb (v3.alloc (.cells #[.bool bx, .slice R3_ kx c3_, .bool false, .slice Q3_ lx d3_] 26)) v3.heap.size bx R3_ kx c3_ Xx Q3_ lx d3_ Yx := ⟨at_allocF0 rfl, at_allocF1 rfl, at_allocF2 rfl, at_allocF3 rfl, m_.alloc, n_.alloc⟩
      have hv_ : Below v3.heap.size v3 (v3.alloc (.cells #[.bool bx, .slice R3_ kx c3_, .bool false, .slice Q3_ lx d3_] 26)) := (Below.refl _ _).alloc (Nat.le_refl _) _
      generalize v3.alloc (.cells #[.bool bx, .slice R3_ kx c3_, .bool false, .slice Q3_ lx d3_] 26) = u3 at *
      replace fa := fa.below hv_
      replace fb := fb.below hv_
      replace HB := HB.trans (hv_.mono HB.size)
      clear hv_ m_ n_
      have e0 := fa.c0
      have e1 := fa.c1
      have e2 := fa.c2
      have e3 := fa.c3
      have f0 := fb.c0
      have f1 := fb.c1
      have f2 := fb.c2
      have f3 := fb.c3
      have lt_e0 := cell_lt e0
      have lt_f0 := cell_lt f0
      go_wp2_with fail
      refine (HC.out _ _ _ _ _ _ _ _ _ fa.m fa.n fb.m fb.n).mono ?_
      rintro e v4 ⟨rfl, h_⟩
      clear e0 e1 e2 e3 f0 f1 f2 f3 lt_e0 lt_f0
      have hv_ : Below u3.heap.size u3 v4 := Below.trans (b := _) (by repeat (first | assumption | exact Below.refl _ _ | refine Below.alloc ?_ (by simp; try omega) _ | refine Below.drew ?_ | refine below_drewN ?_ _)) (h_.mono (by simp; try omega))
      replace ox := ox.below hv_
      replace HB := HB.trans (hv_.mono HB.size)
      clear hv_
      rcases HZ.out with rfl | ⟨hh1, hh2, rfl⟩
      · clear HZ
        have q0 := ox.c0
        have q1 := ox.c1
        have q2 := ox.c2
        have q3 := ox.c3
        have lt_q := cell_lt q0
        go_wp2_with fail
        go_region_held3 (fun w' => w'.cell? ⟨v3.heap.size, 0, none⟩ = some (.bool bx) ∧ w'.cell? ⟨v3.heap.size, 1, none⟩ = some (.slice R3_ kx c3_) ∧ w'.cell? ⟨v3.heap.size, 2, none⟩ = some (.bool false) ∧ w'.cell? ⟨v3.heap.size, 3, none⟩ = some (.slice Q3_ lx d3_)) (first | ((try dsimp only); repeat' (first | with_reducible assumption | apply And.intro | (with_reducible refine keep_cell (W := v4) ?_ ?_) | exact (Below.refl _ _).drew | fail))) (first | (go_at_call 35; (with_reducible refine (HPs.out _).mono ?_); rintro e y1 ⟨Rp, cp, Qp, dp, rfl, mp, mpb, hq_⟩; have qy1 : Below v4.heap.size v4 y1 := bel_step (by repeat' (first | with_reducible assumption | exact Below.refl _ _ | (refine Below.alloc ?_ (by first | omega | (simp only [World.size_alloc, World.size_setCell, World.size_drew]; done) | (simp only [World.size_alloc, World.size_setCell, World.size_drew]; omega)) _) | (refine Below.drew ?_) | (refine below_drewN ?_ _) | (refine Below.setCell ?_ (by first | omega | (simp only [World.size_alloc, World.size_setCell, World.size_drew]; done) | (simp only [World.size_alloc, World.size_setCell, World.size_drew]; omega)) _))) hq_) | (go_at_call 32; (with_reducible refine (HS.out _ _ _ _ _ _ _ _ _ (ox.m.below (by repeat' (first | with_reducible assumption | exact Below.refl _ _ | (refine Below.alloc ?_ (by first | omega | (simp only [World.size_alloc, World.size_setCell, World.size_drew]; done) | (simp only [World.size_alloc, World.size_setCell, World.size_drew]; omega)) _) | (refine Below.drew ?_) | (refine below_drewN ?_ _) | (refine Below.setCell ?_ (by first | omega | (simp only [World.size_alloc, World.size_setCell, World.size_drew]; done) | (simp only [World.size_alloc, World.size_setCell, World.size_drew]; omega)) _)))) (ox.n.below (by repeat' (first | with_reducible assumption | exact Below.refl _ _ | (refine Below.alloc ?_ (by first | omega | (simp only [World.size_alloc, World.size_setCell, World.size_drew]; done) | (simp only [World.size_alloc, World.size_setCell, World.size_drew]; omega)) _) | (refine Below.drew ?_) | (refine below_drewN ?_ _) | (refine Below.setCell ?_ (by first | omega | (simp only [World.size_alloc, World.size_setCell, World.size_drew]; done) | (simp only [World.size_alloc, World.size_setCell, World.size_drew]; omega)) _)))) (mp.below (by repeat' (first | with_reducible assumption | exact Below.refl _ _ | (refine Below.alloc ?_ (by first | omega | (simp only [World.size_alloc, World.size_setCell, World.size_drew]; done) | (simp only [World.size_alloc, World.size_setCell, World.size_drew]; omega)) _) | (refine Below.drew ?_) | (refine below_drewN ?_ _) | (refine Below.setCell ?_ (by first | omega | (simp only [World.size_alloc, World.size_setCell, World.size_drew]; done) | (simp only [World.size_alloc, World.size_setCell, World.size_drew]; omega)) _)))) (mpb.below (by repeat' (first | with_reducible assumption | exact Below.refl _ _ | (refine Below.alloc ?_ (by first | omega | (simp only [World.size_alloc, World.size_setCell, World.size_drew]; done) | (simp only [World.size_alloc, World.size_setCell, World.size_drew]; omega)) _) | (refine Below.drew ?_) | (refine below_drewN ?_ _) | (refine Below.setCell ?_ (by first | omega | (simp only [World.size_alloc, World.size_setCell, World.size_drew]; done) | (simp only [World.size_alloc, World.size_setCell, World.size_drew]; omega)) _))))).mono ?_); rintro e y2 ⟨rfl, hq_⟩; have qy2 : Below v4.heap.size v4 y2 := bel_step (by repeat' (first | with_reducible assumption | exact Below.refl _ _ | (refine Below.alloc ?_ (by first | omega | (simp only [World.size_alloc, World.size_setCell, World.size_drew]; done) | (simp only [World.size_alloc, World.size_setCell, World.size_drew]; omega)) _) | (refine Below.drew ?_) | (refine below_drewN ?_ _) | (refine Below.setCell ?_ (by first | omega | (simp only [World.size_alloc, World.size_setCell, World.size_drew]; done) | (simp only [World.size_alloc, World.size_setCell, World.size_drew]; omega)) _))) hq_) | (go_at_call 16; (with_reducible refine (HE.out _ (bel_step HB (by repeat' (first | with_reducible assumption | exact Below.refl _ _ | (refine Below.alloc ?_ (by first | omega | (simp only [World.size_alloc, World.size_setCell, World.size_drew]; done) | (simp only [World.size_alloc, World.size_setCell, World.size_drew]; omega)) _) | (refine Below.drew ?_) | (refine below_drewN ?_ _) | (refine Below.setCell ?_ (by first | omega | (simp only [World.size_alloc, World.size_setCell, World.size_drew]; done) | (simp only [World.size_alloc, World.size_setCell, World.size_drew]; omega)) _))))).mono ?_); rintro e y3 ⟨rfl, hq_⟩; have qy3 : Below v4.heap.size v4 y3 := bel_step (by repeat' (first | with_reducible assumption | exact Below.refl _ _ | (refine Below.alloc ?_ (by first | omega | (simp only [World.size_alloc, World.size_setCell, World.size_drew]; done) | (simp only [World.size_alloc, World.size_setCell, World.size_drew]; omega)) _) | (refine Below.drew ?_) | (refine below_drewN ?_ _) | (refine Below.setCell ?_ (by first | omega | (simp only [World.size_alloc, World.size_setCell, World.size_drew]; done) | (simp only [World.size_alloc, World.size_setCell, World.size_drew]; omega)) _))) hq_))
        all_goals
          go_wp2_with fail
          go_ret
          exact ⟨rfl, bel_step HB qy3⟩
      · exact absurd ⟨hh1, hh2⟩ HNZ.out
end Go.Proofs.YtfhbigfbeppinaaGreatDoor
