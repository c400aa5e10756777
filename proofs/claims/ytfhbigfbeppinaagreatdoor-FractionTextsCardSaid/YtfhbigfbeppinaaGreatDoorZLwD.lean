/- The law FractionTexts: its walk. Conditions: none. -/
import Derived.Test.YtfhbigfbeppinaaGreatDoorZYS
import Derived.Test.YtfhbigfbeppinaaGreatDoorZYT
set_option linter.unusedVariables false
set_option linter.unusedSimpArgs false
namespace Go.Proofs.YtfhbigfbeppinaaGreatDoor
open Go.RowKit Big

set_option maxRecDepth 100000 in
set_option maxHeartbeats 4000000 in
theorem FractionTexts_law {na nb : Bool} {xs ys : List Nat} {A B : Option Addr} {ca cb : Nat} {w : World} (ma : Mg w A ca xs) (mb : Mg w B cb ys) (s : ByteArray) (hs0 : s.size ≤ maxLen) (htab : PowTab w) (hlen : LenAt w) :
    Calls Tryz.prog 5 #[.agg #[.bool na, .slice A xs.length ca, .bool nb, .slice B ys.length cb], .string s] w (RetB w true) := by
  have HE := hid fun (w1 : World) (h : Below w.heap.size w w1) => Lex_ok w1 (htab.below h) (hlen.below h)
  obtain ⟨t1, ht1⟩ : ∃ t, (decide (xs.length ≤ 8) && decide (ys.length ≤ 8)) = t := ⟨_, rfl⟩
  have HS1 := hid fun (w1 : World) => Lsmall_g (na := na) (nb := nb) (A := A) (B := B) (ca := ca) (cb := cb) (w := w1) t1 ht1
  cases t1
  · clear ma mb ht1
    generalize xs.length = ka at *
    generalize ys.length = la at *
    go_enter Tryz.func5, Tryz.ntmps5
    go_wp2_with fail
    refine enterF (P := fun u => Calls _ _ _ u _) ?_
    intro u HB q0 q1 q2 q3 z1 hsz
    clear hsz
    have f_z1 := z1.fr
    have lt_q0 := cell_lt q0
    refine (HS1.out _).mono ?_
    rintro e w1 ⟨rfl, h1⟩
    have hv_ : Below u.heap.size u w1 := Below.trans (b := _) (by repeat (first | assumption | exact Below.refl _ _ | refine Below.alloc ?_ (by simp; try omega) _ | refine Below.drew ?_ | refine below_drewN ?_ _)) (h1.mono (by simp; try omega))
    replace q0 := keep_cell hv_ q0
    replace q1 := keep_cell hv_ q1
    replace q2 := keep_cell hv_ q2
    replace q3 := keep_cell hv_ q3
    have lt_q0 := cell_lt q0
    have lt_q1 := cell_lt q1
    have lt_q2 := cell_lt q2
    have lt_q3 := cell_lt q3
    replace HB := HB.trans (hv_.mono HB.size)
    clear hv_
    go_wp2_with fail
    refine (HE.out _ HB).mono ?_
    rintro e we ⟨rfl, hwe⟩
    go_wp2
    go_ret
    exact ⟨rfl, bel_step HB hwe⟩
  · by_cases hs : 200 < s.size
    · clear ma mb ht1
      generalize xs.length = ka at *
      generalize ys.length = la at *
      go_enter Tryz.func5, Tryz.ntmps5
      go_wp2_with fail
      refine enterF (P := fun u => Calls _ _ _ u _) ?_
      intro u HB q0 q1 q2 q3 z1 hsz
      clear hsz
      have f_z1 := z1.fr
      have lt_q0 := cell_lt q0
      refine (HS1.out _).mono ?_
      rintro e w1 ⟨rfl, h1⟩
      have hv_ : Below u.heap.size u w1 := Below.trans (b := _) (by repeat (first | assumption | exact Below.refl _ _ | refine Below.alloc ?_ (by simp; try omega) _ | refine Below.drew ?_ | refine below_drewN ?_ _)) (h1.mono (by simp; try omega))
      replace q0 := keep_cell hv_ q0
      replace q1 := keep_cell hv_ q1
      replace q2 := keep_cell hv_ q2
      replace q3 := keep_cell hv_ q3
      have lt_q0 := cell_lt q0
      have lt_q1 := cell_lt q1
      have lt_q2 := cell_lt q2
      have lt_q3 := cell_lt q3
      replace HB := HB.trans (hv_.mono HB.size)
      clear hv_
      go_wp2_with fail
      refine (HE.out _ HB).mono ?_
      rintro e we ⟨rfl, hwe⟩
      go_wp2
      go_ret
      exact ⟨rfl, bel_step HB hwe⟩
    · have HF1 := hid fun (w1 : World) (h : Below w.heap.size w w1) => FrFormat_any (na := na) (nb := nb) (w := w1) (ma.below h) (mb.below h) (htab.below h)
      have HF2 := hid fun (w1 : World) (h : Below w.heap.size w w1) => QFormat_any (na := na) (nb := nb) (w := w1) (ma.below h) (mb.below h)
      have HV := hid fun (w1 : World) (h : Below w.heap.size w w1) => Qvalid_any (na := na) (nb := nb) (w := w1) (ma.below h) (mb.below h)
      obtain ⟨⟨p1, err1⟩, hq1⟩ : ∃ q, parF s.data.toList = q := ⟨_, rfl⟩
      obtain ⟨b1, k1, X1, l1, Y1, I1⟩ := fz p1
      have H1a := hid fun (w1 : World) (h : Below w.heap.size w w1) => (FrParse_any s w1 (hlen.below h) (by omega)).mono fun e w' h => by
        rw [hq1] at h; exact RetFE.g h I1.out
      have H1b := hid fun (w1 : World) (h : Below w.heap.size w w1) => (QParse_any s w1 (by omega)).mono fun e w' h => by
        rw [hq1] at h; exact RetFE.g h I1.out
      have HL1 := hid fun (w1 : World) (R Q R' Q' : Option Addr) (c d c' d' : Nat) (m1 : Mg w1 R c X1) (m2 : Mg w1 Q d Y1) (m3 : Mg w1 R' c' X1) (m4 : Mg w1 Q' d' Y1) => Llike_g (w := w1) (err := err1) I1.out m1 m2 m3 m4
      clear hq1 I1
      simp only [Bool.and_eq_true, decide_eq_true_eq] at ht1
      obtain ⟨l8, l8'⟩ := ht1
      cases hv : fvB na xs nb ys
      · have hf : fmtR na xs nb ys = [] := by unfold fmtR; rw [hv]; rfl
        rw [hf] at HF1 HF2
        rw [hv] at HV
        clear ma mb hf hv
        generalize xs.length = ka at *
        generalize ys.length = la at *
        go_enter Tryz.func5, Tryz.ntmps5
        go_wp2_with fail
        refine enterF (P := fun u => Calls _ _ _ u _) ?_
        intro u HB q0 q1 q2 q3 z1 hsz
        clear hsz
        have f_z1 := z1.fr
        have lt_q0 := cell_lt q0
        refine (HS1.out _).mono ?_
        rintro e w1 ⟨rfl, h1⟩
        have hv_ : Below u.heap.size u w1 := Below.trans (b := _) (by repeat (first | assumption | exact Below.refl _ _ | refine Below.alloc ?_ (by simp; try omega) _ | refine Below.drew ?_ | refine below_drewN ?_ _)) (h1.mono (by simp; try omega))
        replace q0 := keep_cell hv_ q0
        replace q1 := keep_cell hv_ q1
        replace q2 := keep_cell hv_ q2
        replace q3 := keep_cell hv_ q3
        have lt_q0 := cell_lt q0
        have lt_q1 := cell_lt q1
        have lt_q2 := cell_lt q2
        have lt_q3 := cell_lt q3
        replace HB := HB.trans (hv_.mono HB.size)
        clear hv_
        go_wp2_with fail
        refine (HF1.out _ HB).mono ?_
        rintro e w2 ⟨rfl, h2⟩
        have hv_ : Below w1.heap.size w1 w2 := Below.trans (b := _) (by repeat (first | assumption | exact Below.refl _ _ | refine Below.alloc ?_ (by simp; try omega) _ | refine Below.drew ?_ | refine below_drewN ?_ _)) (h2.mono (by simp; try omega))
        replace q0 := keep_cell hv_ q0
        replace q1 := keep_cell hv_ q1
        replace q2 := keep_cell hv_ q2
        replace q3 := keep_cell hv_ q3
        have lt_q0 := cell_lt q0
        have lt_q1 := cell_lt q1
        have lt_q2 := cell_lt q2
        have lt_q3 := cell_lt q3
        replace HB := HB.trans (hv_.mono HB.size)
        clear hv_
        go_wp2_with fail
        refine (H1a.out _ HB).mono ?_
        rintro e w3 ⟨Ra, ca_, Qa, da_, rfl, am, an_, ha⟩
        have hv_ : Below w2.heap.size w2 w3 := Below.trans (b := _) (by repeat (first | assumption | exact Below.refl _ _ | refine Below.alloc ?_ (by simp; try omega) _ | refine Below.drew ?_ | refine below_drewN ?_ _)) (ha.mono (by simp; try omega))
        replace q0 := keep_cell hv_ q0
        replace q1 := keep_cell hv_ q1
        replace q2 := keep_cell hv_ q2
        replace q3 := keep_cell hv_ q3
        have lt_q0 := cell_lt q0
        have lt_q1 := cell_lt q1
        have lt_q2 := cell_lt q2
        have lt_q3 := cell_lt q3
        replace HB := HB.trans (hv_.mono HB.size)
        clear hv_
        go_upto_region 5 with fail
        have a0 := at_allocF0 (W := w3) (a := .bool b1) (b := .slice Ra k1 ca_) (c := .bool false) (d := .slice Qa l1 da_) (t := 26) rfl
        have a1 := at_allocF1 (W := w3) (a := .bool b1) (b := .slice Ra k1 ca_) (c := .bool false) (d := .slice Qa l1 da_) (t := 26) rfl
        have a2 := at_allocF2 (W := w3) (a := .bool b1) (b := .slice Ra k1 ca_) (c := .bool false) (d := .slice Qa l1 da_) (t := 26) rfl
        have a3 := at_allocF3 (W := w3) (a := .bool b1) (b := .slice Ra k1 ca_) (c := .bool false) (d := .slice Qa l1 da_) (t := 26) rfl
        have hv_ : Below w3.heap.size w3 (w3.alloc (.cells #[.bool b1, .slice Ra k1 ca_, .bool false, .slice Qa l1 da_] 26)) := (Below.refl _ _).alloc (Nat.le_refl _) _
        generalize w3.alloc (.cells #[.bool b1, .slice Ra k1 ca_, .bool false, .slice Qa l1 da_] 26) = u3 at *
        replace am := am.below hv_
        replace an_ := an_.below hv_
        replace q0 := keep_cell hv_ q0
        replace q1 := keep_cell hv_ q1
        replace q2 := keep_cell hv_ q2
        replace q3 := keep_cell hv_ q3
        replace HB := HB.trans (hv_.mono HB.size)
        clear hv_
        have lt_a0 := cell_lt a0
        go_wp2_with fail
        refine (H1b.out _ HB).mono ?_
        rintro e w4 ⟨Rg, cg_, Qg, dg_, rfl, gm, gn_, hg⟩
        have hv_ : Below u3.heap.size u3 w4 := Below.trans (b := _) (by repeat (first | assumption | exact Below.refl _ _ | refine Below.alloc ?_ (by simp; try omega) _ | refine Below.drew ?_ | refine below_drewN ?_ _)) (hg.mono (by simp; try omega))
        replace am := am.below hv_
        replace an_ := an_.below hv_
        replace q0 := keep_cell hv_ q0
        replace q1 := keep_cell hv_ q1
        replace q2 := keep_cell hv_ q2
        replace q3 := keep_cell hv_ q3
        replace a0 := keep_cell hv_ a0
        replace a1 := keep_cell hv_ a1
        replace a2 := keep_cell hv_ a2
        replace a3 := keep_cell hv_ a3
        have lt_q0 := cell_lt q0
        have lt_q1 := cell_lt q1
        have lt_q2 := cell_lt q2
        have lt_q3 := cell_lt q3
        have lt_a0 := cell_lt a0
        have lt_a1 := cell_lt a1
        have lt_a2 := cell_lt a2
        have lt_a3 := cell_lt a3
        replace HB := HB.trans (hv_.mono HB.size)
        clear hv_
        go_upto_region 6 with fail
        have g0 := at_allocF0 (W := w4) (a := .bool b1) (b := .slice Rg k1 cg_) (c := .bool false) (d := .slice Qg l1 dg_) (t := 26) rfl
        have g1 := at_allocF1 (W := w4) (a := .bool b1) (b := .slice Rg k1 cg_) (c := .bool false) (d := .slice Qg l1 dg_) (t := 26) rfl
        have g2 := at_allocF2 (W := w4) (a := .bool b1) (b := .slice Rg k1 cg_) (c := .bool false) (d := .slice Qg l1 dg_) (t := 26) rfl
        have g3 := at_allocF3 (W := w4) (a := .bool b1) (b := .slice Rg k1 cg_) (c := .bool false) (d := .slice Qg l1 dg_) (t := 26) rfl
        have hv_ : Below w4.heap.size w4 (w4.alloc (.cells #[.bool b1, .slice Rg k1 cg_, .bool false, .slice Qg l1 dg_] 26)) := (Below.refl _ _).alloc (Nat.le_refl _) _
        generalize w4.alloc (.cells #[.bool b1, .slice Rg k1 cg_, .bool false, .slice Qg l1 dg_] 26) = u4 at *
        replace gm := gm.below hv_
        replace gn_ := gn_.below hv_
        replace am := am.below hv_
        replace an_ := an_.below hv_
        replace q0 := keep_cell hv_ q0
        replace q1 := keep_cell hv_ q1
        replace q2 := keep_cell hv_ q2
        replace q3 := keep_cell hv_ q3
        replace a0 := keep_cell hv_ a0
        replace a1 := keep_cell hv_ a1
        replace a2 := keep_cell hv_ a2
        replace a3 := keep_cell hv_ a3
        replace HB := HB.trans (hv_.mono HB.size)
        clear hv_
        have lt_g0 := cell_lt g0
        go_wp2_with fail
        refine (HF2.out _ HB).mono ?_
        rintro e w5 ⟨rfl, h5⟩
        have hv_ : Below u4.heap.size u4 w5 := Below.trans (b := _) (by repeat (first | assumption | exact Below.refl _ _ | refine Below.alloc ?_ (by simp; try omega) _ | refine Below.drew ?_ | refine below_drewN ?_ _)) (h5.mono (by simp; try omega))
        replace am := am.below hv_
        replace an_ := an_.below hv_
        replace gm := gm.below hv_
        replace gn_ := gn_.below hv_
        replace q0 := keep_cell hv_ q0
        replace q1 := keep_cell hv_ q1
        replace q2 := keep_cell hv_ q2
        replace q3 := keep_cell hv_ q3
        replace a0 := keep_cell hv_ a0
        replace a1 := keep_cell hv_ a1
        replace a2 := keep_cell hv_ a2
        replace a3 := keep_cell hv_ a3
        replace g0 := keep_cell hv_ g0
        replace g1 := keep_cell hv_ g1
        replace g2 := keep_cell hv_ g2
        replace g3 := keep_cell hv_ g3
        have lt_q0 := cell_lt q0
        have lt_q1 := cell_lt q1
        have lt_q2 := cell_lt q2
        have lt_q3 := cell_lt q3
        have lt_a0 := cell_lt a0
        have lt_a1 := cell_lt a1
        have lt_a2 := cell_lt a2
        have lt_a3 := cell_lt a3
        have lt_g0 := cell_lt g0
        have lt_g1 := cell_lt g1
        have lt_g2 := cell_lt g2
        have lt_g3 := cell_lt g3
        replace HB := HB.trans (hv_.mono HB.size)
        clear hv_
        go_wp2_with fail
        refine (HL1.out _ _ _ _ _ _ _ _ _ am an_ gm gn_).mono ?_
        rintro e w6 ⟨rfl, hl_⟩
        have hv_ : Below w5.heap.size w5 w6 := Below.trans (b := _) (by repeat (first | assumption | exact Below.refl _ _ | refine Below.alloc ?_ (by simp; try omega) _ | refine Below.drew ?_ | refine below_drewN ?_ _)) (hl_.mono (by simp; try omega))
        replace q0 := keep_cell hv_ q0
        replace q1 := keep_cell hv_ q1
        replace q2 := keep_cell hv_ q2
        replace q3 := keep_cell hv_ q3
        have lt_q0 := cell_lt q0
        have lt_q1 := cell_lt q1
        have lt_q2 := cell_lt q2
        have lt_q3 := cell_lt q3
        replace HB := HB.trans (hv_.mono HB.size)
        clear hv_
        go_wp2_with fail
        refine (HV.out _ HB).mono ?_
        rintro e w7 ⟨rfl, h7⟩
        have hv_ : Below w6.heap.size w6 w7 := Below.trans (b := _) (by repeat (first | assumption | exact Below.refl _ _ | refine Below.alloc ?_ (by simp; try omega) _ | refine Below.drew ?_ | refine below_drewN ?_ _)) (h7.mono (by simp; try omega))
        replace q0 := keep_cell hv_ q0
        replace q1 := keep_cell hv_ q1
        replace q2 := keep_cell hv_ q2
        replace q3 := keep_cell hv_ q3
        have lt_q0 := cell_lt q0
        have lt_q1 := cell_lt q1
        have lt_q2 := cell_lt q2
        have lt_q3 := cell_lt q3
        replace HB := HB.trans (hv_.mono HB.size)
        clear hv_
        go_wp2_with fail
        refine (HE.out _ HB).mono ?_
        rintro e we ⟨rfl, hwe⟩
        go_wp2
        go_ret
        exact ⟨rfl, bel_step HB hwe⟩
      · obtain ⟨rfl, q1, q2, q3, q4, q5, q6⟩ := fvB_ok ma.ok mb.ok hv
        have hf : fmtR na xs false ys = fmtF (sg na (val xs), val ys) := by unfold fmtR; rw [hv]; rfl
        rw [hf] at HF1 HF2
        rw [hv] at HV
        have IF : Hid (Fz (sg na (val xs), val ys) na xs.length xs ys.length ys) := ⟨q1, by rw [natAbs_sg]; exact q2, rfl, q3, rfl⟩
        generalize (sg na (val xs), val ys) = f at *
        have ff1 : fits f.1 := by unfold fits; rw [IF.out.n.len]; exact q5
        have ff2 : fits (f.2 : Nat) := by rw [fits_nat, IF.out.d.len]; exact q6
        have b1_ := fmtZ_len f.1
        have b2_ := fmtZ_len (f.2 : Int)
        rw [Int.natAbs_natCast, IF.out.d.len] at b2_
        rw [IF.out.n.len] at b1_
        have hp := parF_fmtF q4 ff1 ff2 (by omega) (by omega)
        have hfl : (fmtF f).length ≤ 1000 := by
          unfold fmtF
          split
          · omega
          · simp only [List.length_append, List.length_cons]; omega
        have hsz : (⟨(fmtF f).toArray⟩ : ByteArray).size < 4294967281 := by rw [show (⟨(fmtF f).toArray⟩ : ByteArray).size = (fmtF f).length by simp [ByteArray.size]]; omega
        have HP3 := hid fun (w1 : World) (h : Below w.heap.size w w1) => FrParse_f (w := w1) (hlen.below h) hsz hp IF.out
        have HS3 := hid fun (w1 : World) (h : Below w.heap.size w w1) (R Q : Option Addr) (c d : Nat) (m1 : Mg w1 R c xs) (m2 : Mg w1 Q d ys) => QSame_g (w := w1) IF.out IF.out m1 m2 (ma.below h) (mb.below h) true (by simp)
        unfold RetS at HF1 HF2
        generalize (⟨(fmtF f).toArray⟩ : ByteArray) = T at *
        clear ma mb hf hv q1 q2 q3 q4 q5 q6 IF ff1 ff2 b1_ b2_ hp hfl hsz
        generalize xs.length = ka at *
        generalize ys.length = la at *
        go_enter Tryz.func5, Tryz.ntmps5
        go_wp2_with fail
        refine enterF (P := fun u => Calls _ _ _ u _) ?_
        intro u HB q0 q1 q2 q3 z1 hsz
        clear hsz
        have f_z1 := z1.fr
        have lt_q0 := cell_lt q0
        refine (HS1.out _).mono ?_
        rintro e w1 ⟨rfl, h1⟩
        have hv_ : Below u.heap.size u w1 := Below.trans (b := _) (by repeat (first | assumption | exact Below.refl _ _ | refine Below.alloc ?_ (by simp; try omega) _ | refine Below.drew ?_ | refine below_drewN ?_ _)) (h1.mono (by simp; try omega))
        replace q0 := keep_cell hv_ q0
        replace q1 := keep_cell hv_ q1
        replace q2 := keep_cell hv_ q2
        replace q3 := keep_cell hv_ q3
        have lt_q0 := cell_lt q0
        have lt_q1 := cell_lt q1
        have lt_q2 := cell_lt q2
        have lt_q3 := cell_lt q3
        replace HB := HB.trans (hv_.mono HB.size)
        clear hv_
        go_wp2_with fail
        refine (HF1.out _ HB).mono ?_
        rintro e w2 ⟨rfl, h2⟩
        have hv_ : Below w1.heap.size w1 w2 := Below.trans (b := _) (by repeat (first | assumption | exact Below.refl _ _ | refine Below.alloc ?_ (by simp; try omega) _ | refine Below.drew ?_ | refine below_drewN ?_ _)) (h2.mono (by simp; try omega))
        replace q0 := keep_cell hv_ q0
        replace q1 := keep_cell hv_ q1
        replace q2 := keep_cell hv_ q2
        replace q3 := keep_cell hv_ q3
        have lt_q0 := cell_lt q0
        have lt_q1 := cell_lt q1
        have lt_q2 := cell_lt q2
        have lt_q3 := cell_lt q3
        replace HB := HB.trans (hv_.mono HB.size)
        clear hv_
        go_wp2_with fail
        refine (H1a.out _ HB).mono ?_
        rintro e w3 ⟨Ra, ca_, Qa, da_, rfl, am, an_, ha⟩
        have hv_ : Below w2.heap.size w2 w3 := Below.trans (b := _) (by repeat (first | assumption | exact Below.refl _ _ | refine Below.alloc ?_ (by simp; try omega) _ | refine Below.drew ?_ | refine below_drewN ?_ _)) (ha.mono (by simp; try omega))
        replace q0 := keep_cell hv_ q0
        replace q1 := keep_cell hv_ q1
        replace q2 := keep_cell hv_ q2
        replace q3 := keep_cell hv_ q3
        have lt_q0 := cell_lt q0
        have lt_q1 := cell_lt q1
        have lt_q2 := cell_lt q2
        have lt_q3 := cell_lt q3
        replace HB := HB.trans (hv_.mono HB.size)
        clear hv_
        go_upto_region 5 with fail
        have a0 := at_allocF0 (W := w3) (a := .bool b1) (b := .slice Ra k1 ca_) (c := .bool false) (d := .slice Qa l1 da_) (t := 26) rfl
        have a1 := at_allocF1 (W := w3) (a := .bool b1) (b := .slice Ra k1 ca_) (c := .bool false) (d := .slice Qa l1 da_) (t := 26) rfl
        have a2 := at_allocF2 (W := w3) (a := .bool b1) (b := .slice Ra k1 ca_) (c := .bool false) (d := .slice Qa l1 da_) (t := 26) rfl
        have a3 := at_allocF3 (W := w3) (a := .bool b1) (b := .slice Ra k1 ca_) (c := .bool false) (d := .slice Qa l1 da_) (t := 26) rfl
        have hv_ : Below w3.heap.size w3 (w3.alloc (.cells #[.bool b1, .slice Ra k1 ca_, .bool false, .slice Qa l1 da_] 26)) := (Below.refl _ _).alloc (Nat.le_refl _) _
        generalize w3.alloc (.cells #[.bool b1, .slice Ra k1 ca_, .bool false, .slice Qa l1 da_] 26) = u3 at *
        replace am := am.below hv_
        replace an_ := an_.below hv_
        replace q0 := keep_cell hv_ q0
        replace q1 := keep_cell hv_ q1
        replace q2 := keep_cell hv_ q2
        replace q3 := keep_cell hv_ q3
        replace HB := HB.trans (hv_.mono HB.size)
        clear hv_
        have lt_a0 := cell_lt a0
        go_wp2_with fail
        refine (H1b.out _ HB).mono ?_
        rintro e w4 ⟨Rg, cg_, Qg, dg_, rfl, gm, gn_, hg⟩
        have hv_ : Below u3.heap.size u3 w4 := Below.trans (b := _) (by repeat (first | assumption | exact Below.refl _ _ | refine Below.alloc ?_ (by simp; try omega) _ | refine Below.drew ?_ | refine below_drewN ?_ _)) (hg.mono (by simp; try omega))
        replace am := am.below hv_
        replace an_ := an_.below hv_
        replace q0 := keep_cell hv_ q0
        replace q1 := keep_cell hv_ q1
        replace q2 := keep_cell hv_ q2
        replace q3 := keep_cell hv_ q3
        replace a0 := keep_cell hv_ a0
        replace a1 := keep_cell hv_ a1
        replace a2 := keep_cell hv_ a2
        replace a3 := keep_cell hv_ a3
        have lt_q0 := cell_lt q0
        have lt_q1 := cell_lt q1
        have lt_q2 := cell_lt q2
        have lt_q3 := cell_lt q3
        have lt_a0 := cell_lt a0
        have lt_a1 := cell_lt a1
        have lt_a2 := cell_lt a2
        have lt_a3 := cell_lt a3
        replace HB := HB.trans (hv_.mono HB.size)
        clear hv_
        go_upto_region 6 with fail
        have g0 := at_allocF0 (W := w4) (a := .bool b1) (b := .slice Rg k1 cg_) (c := .bool false) (d := .slice Qg l1 dg_) (t := 26) rfl
        have g1 := at_allocF1 (W := w4) (a := .bool b1) (b := .slice Rg k1 cg_) (c := .bool false) (d := .slice Qg l1 dg_) (t := 26) rfl
        have g2 := at_allocF2 (W := w4) (a := .bool b1) (b := .slice Rg k1 cg_) (c := .bool false) (d := .slice Qg l1 dg_) (t := 26) rfl
        have g3 := at_allocF3 (W := w4) (a := .bool b1) (b := .slice Rg k1 cg_) (c := .bool false) (d := .slice Qg l1 dg_) (t := 26) rfl
        have hv_ : Below w4.heap.size w4 (w4.alloc (.cells #[.bool b1, .slice Rg k1 cg_, .bool false, .slice Qg l1 dg_] 26)) := (Below.refl _ _).alloc (Nat.le_refl _) _
        generalize w4.alloc (.cells #[.bool b1, .slice Rg k1 cg_, .bool false, .slice Qg l1 dg_] 26) = u4 at *
        replace gm := gm.below hv_
        replace gn_ := gn_.below hv_
        replace am := am.below hv_
        replace an_ := an_.below hv_
        replace q0 := keep_cell hv_ q0
        replace q1 := keep_cell hv_ q1
        replace q2 := keep_cell hv_ q2
        replace q3 := keep_cell hv_ q3
        replace a0 := keep_cell hv_ a0
        replace a1 := keep_cell hv_ a1
        replace a2 := keep_cell hv_ a2
        replace a3 := keep_cell hv_ a3
        replace HB := HB.trans (hv_.mono HB.size)
        clear hv_
        have lt_g0 := cell_lt g0
        go_wp2_with fail
        refine (HF2.out _ HB).mono ?_
        rintro e w5 ⟨rfl, h5⟩
        have hv_ : Below u4.heap.size u4 w5 := Below.trans (b := _) (by repeat (first | assumption | exact Below.refl _ _ | refine Below.alloc ?_ (by simp; try omega) _ | refine Below.drew ?_ | refine below_drewN ?_ _)) (h5.mono (by simp; try omega))
        replace am := am.below hv_
        replace an_ := an_.below hv_
        replace gm := gm.below hv_
        replace gn_ := gn_.below hv_
        replace q0 := keep_cell hv_ q0
        replace q1 := keep_cell hv_ q1
        replace q2 := keep_cell hv_ q2
        replace q3 := keep_cell hv_ q3
        replace a0 := keep_cell hv_ a0
        replace a1 := keep_cell hv_ a1
        replace a2 := keep_cell hv_ a2
        replace a3 := keep_cell hv_ a3
        replace g0 := keep_cell hv_ g0
        replace g1 := keep_cell hv_ g1
        replace g2 := keep_cell hv_ g2
        replace g3 := keep_cell hv_ g3
        have lt_q0 := cell_lt q0
        have lt_q1 := cell_lt q1
        have lt_q2 := cell_lt q2
        have lt_q3 := cell_lt q3
        have lt_a0 := cell_lt a0
        have lt_a1 := cell_lt a1
        have lt_a2 := cell_lt a2
        have lt_a3 := cell_lt a3
        have lt_g0 := cell_lt g0
        have lt_g1 := cell_lt g1
        have lt_g2 := cell_lt g2
        have lt_g3 := cell_lt g3
        replace HB := HB.trans (hv_.mono HB.size)
        clear hv_
        go_wp2_with fail
        refine (HL1.out _ _ _ _ _ _ _ _ _ am an_ gm gn_).mono ?_
        rintro e w6 ⟨rfl, hl_⟩
        have hv_ : Below w5.heap.size w5 w6 := Below.trans (b := _) (by repeat (first | assumption | exact Below.refl _ _ | refine Below.alloc ?_ (by simp; try omega) _ | refine Below.drew ?_ | refine below_drewN ?_ _)) (hl_.mono (by simp; try omega))
        replace q0 := keep_cell hv_ q0
        replace q1 := keep_cell hv_ q1
        replace q2 := keep_cell hv_ q2
        replace q3 := keep_cell hv_ q3
        have lt_q0 := cell_lt q0
        have lt_q1 := cell_lt q1
        have lt_q2 := cell_lt q2
        have lt_q3 := cell_lt q3
        replace HB := HB.trans (hv_.mono HB.size)
        clear hv_
        go_wp2_with fail
        refine (HV.out _ HB).mono ?_
        rintro e w7 ⟨rfl, h7⟩
        have hv_ : Below w6.heap.size w6 w7 := Below.trans (b := _) (by repeat (first | assumption | exact Below.refl _ _ | refine Below.alloc ?_ (by simp; try omega) _ | refine Below.drew ?_ | refine below_drewN ?_ _)) (h7.mono (by simp; try omega))
        replace q0 := keep_cell hv_ q0
        replace q1 := keep_cell hv_ q1
        replace q2 := keep_cell hv_ q2
        replace q3 := keep_cell hv_ q3
        have lt_q0 := cell_lt q0
        have lt_q1 := cell_lt q1
        have lt_q2 := cell_lt q2
        have lt_q3 := cell_lt q3
        replace HB := HB.trans (hv_.mono HB.size)
        clear hv_
        go_wp2_with fail
        refine (HP3.out _ HB).mono ?_
        rintro e w8 ⟨R8, c8, Q8, d8, rfl, m8, m8b, h8⟩
        have hv_ : Below w7.heap.size w7 w8 := Below.trans (b := _) (by repeat (first | assumption | exact Below.refl _ _ | refine Below.alloc ?_ (by simp; try omega) _ | refine Below.drew ?_ | refine below_drewN ?_ _)) (h8.mono (by simp; try omega))
        replace q0 := keep_cell hv_ q0
        replace q1 := keep_cell hv_ q1
        replace q2 := keep_cell hv_ q2
        replace q3 := keep_cell hv_ q3
        have lt_q0 := cell_lt q0
        have lt_q1 := cell_lt q1
        have lt_q2 := cell_lt q2
        have lt_q3 := cell_lt q3
        replace HB := HB.trans (hv_.mono HB.size)
        clear hv_
        go_upto_region 11 with fail
        have i0 := at_allocF0 (W := w8) (a := .bool na) (b := .slice R8 ka c8) (c := .bool false) (d := .slice Q8 la d8) (t := 26) rfl
        have i1 := at_allocF1 (W := w8) (a := .bool na) (b := .slice R8 ka c8) (c := .bool false) (d := .slice Q8 la d8) (t := 26) rfl
        have i2 := at_allocF2 (W := w8) (a := .bool na) (b := .slice R8 ka c8) (c := .bool false) (d := .slice Q8 la d8) (t := 26) rfl
        have i3 := at_allocF3 (W := w8) (a := .bool na) (b := .slice R8 ka c8) (c := .bool false) (d := .slice Q8 la d8) (t := 26) rfl
        have hv_ : Below w8.heap.size w8 (w8.alloc (.cells #[.bool na, .slice R8 ka c8, .bool false, .slice Q8 la d8] 26)) := (Below.refl _ _).alloc (Nat.le_refl _) _
        generalize w8.alloc (.cells #[.bool na, .slice R8 ka c8, .bool false, .slice Q8 la d8] 26) = u8 at *
        replace m8 := m8.below hv_
        replace m8b := m8b.below hv_
        replace q0 := keep_cell hv_ q0
        replace q1 := keep_cell hv_ q1
        replace q2 := keep_cell hv_ q2
        replace q3 := keep_cell hv_ q3
        replace HB := HB.trans (hv_.mono HB.size)
        clear hv_
        have lt_i0 := cell_lt i0
        go_wp2_with fail
        refine (HS3.out _ HB _ _ _ _ m8 m8b).mono ?_
        rintro e w9 ⟨rfl, h9⟩
        have hv_ : Below u8.heap.size u8 w9 := Below.trans (b := _) (by repeat (first | assumption | exact Below.refl _ _ | refine Below.alloc ?_ (by simp; try omega) _ | refine Below.drew ?_ | refine below_drewN ?_ _)) (h9.mono (by simp; try omega))
        replace HB := HB.trans (hv_.mono HB.size)
        clear hv_
        go_wp2_with fail
        refine (HE.out _ HB).mono ?_
        rintro e we ⟨rfl, hwe⟩
        go_wp2
        go_ret
        exact ⟨rfl, bel_step HB hwe⟩
end Go.Proofs.YtfhbigfbeppinaaGreatDoor
