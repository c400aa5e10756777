/- The fractions' reference: walks of simplest, Simplest. Conditions: none. -/
import Derived.Test.YtfhbigfbeppinaaGreatDoorZQ3I
import Derived.Test.YtfhbigfbeppinaaGreatDoorZYB
set_option linter.unusedVariables false
set_option linter.unusedSimpArgs false
namespace Go.Proofs.YtfhbigfbeppinaaGreatDoor
open Go.RowKit Big

theorem fitsL {n k : Nat} {L : List Nat} (h : Lz n k L) (f : fits (n : Nat)) : k ≤ 512 := h.le ((fits_nat n).1 f)
theorem Lz.inj {n k k' : Nat} {L L' : List Nat} (h : Lz n k L) (h' : Lz n k' L') : k = k' ∧ L = L' := by
  obtain ⟨rfl, rfl⟩ := h; obtain ⟨rfl, rfl⟩ := h'; exact ⟨rfl, rfl⟩
theorem lz1 : Lz 1 1 [1] := ⟨limbs_one.symm, rfl⟩
theorem ord_lt' {n m : Nat} (h : n < m) : ord n m = -1 := by unfold ord; rw [if_pos h]
theorem ord_ge' {n m : Nat} (h : ¬ n < m) : 0 ≤ ord n m := by unfold ord; rw [if_neg h]; split <;> omega
set_option maxRecDepth 100000 in
set_option maxHeartbeats 8000000 in
theorem Qsimplest_g : ∀ (N n d m k : Nat), d + k ≤ N → 0 < d → 0 < k → 0 < n → n * k ≤ m * d → fits (n : Nat) → fits (d : Nat) → fits (m : Nat) → fits (k : Nat) →
    ∀ {kn kd km kk : Nat} {Ln Ld Lm Lk : List Nat} {An Ad Am Ak : Option Addr} {cn cd cm ck : Nat} {w : World}, Lz n kn Ln → Lz d kd Ld → Lz m km Lm → Lz k kk Lk → Mg w An cn Ln → Mg w Ad cd Ld → Mg w Am cm Lm → Mg w Ak ck Lk →
    ∀ {kx ky : Nat} {Lx Ly : List Nat}, Lz (simpl n d m k).1 kx Lx → Lz (simpl n d m k).2 ky Ly →
    Calls Tryz.prog 75 #[.slice An kn cn, .slice Ad kd cd, .slice Am km cm, .slice Ak kk ck] w (GNN w kx Lx ky Ly) := by
  intro N
  induction N with
  | zero => intro n d m k h1 h2; omega
  | succ N ih =>
    intro n d m k hN hd hk hn hle fn fd fm fk kn kd km kk Ln Ld Lm Lk An Ad Am Ak cn cd cm ck w iN iD iM iK mn md mm mk kx ky Lx Ly iX iY
    have bn := fitsL iN fn
    have bd := fitsL iD fd
    have bm := fitsL iM fm
    have bk := fitsL iK fk
    obtain ⟨kq, Lq, Iq⟩ := lz (n / d)
    obtain ⟨kr, Lr, Ir⟩ := lz (n % d)
    have HD1 := hid (Qdivide_g (w := w) iN iD mn md (by omega) (by omega) Iq.out Ir.out (by omega))
    have hkq : kq ≤ 512 := by have := Iq.out.mono iN (Nat.div_le_self _ _); omega
    by_cases hr : n % d = 0
    · have hs := simpl_int (k := k) (m := m) hr
      rw [hs] at iX iY
      obtain ⟨rfl, rfl⟩ := iX.inj Iq.out
      obtain ⟨rfl, rfl⟩ := iY.inj lz1
      obtain rfl : kr = 0 := Ir.out.zero.2 hr
      clear ih hN hd hk hn hle fn fd fm fk iN iD iM iK mn md mm mk iX iY bn bd bm bk Iq Ir hs hr hkq
      go_enter Tryz.func75, Tryz.ntmps75
      go_wp2_with fail
      refine HD1.out.mono ?_
      rintro e w1 ⟨R1, c1, R2, c2, rfl, m1, m2, h1⟩
      go_wp2
      go_ret2
      refine ⟨_, _, _, _, rfl, m1.alloc, mg_one w1, h1.alloc h1.size _⟩
    · have hkr0 : kr ≠ 0 := fun h => hr (Ir.out.zero.1 h)
      have hkr : ((kr : Int) == 0) = false := by rw [beq_eq_false_iff_ne]; omega
      obtain ⟨kp, Lp, Ip⟩ := lz (m / k)
      obtain ⟨ks, Ls, Is⟩ := lz (m % k)
      have hkp : kp ≤ 512 := by have := Ip.out.mono iM (Nat.div_le_self _ _); omega
      have HD2 := hid fun (w1 : World) (h : Below w.heap.size w w1) => Qdivide_g (w := w1) iM iK (mm.below h) (mk.below h) (by omega) (by omega) Ip.out Is.out (by omega)
      by_cases hlt : n / d < m / k
      · have hs := simpl_next (by omega) (by omega) hr hlt
        rw [hs] at iX iY
        obtain ⟨rfl, rfl⟩ := iY.inj lz1
        have HC := hid fun (w1 : World) (R Q : Option Addr) (c d : Nat) (m1 : Mg w1 R c Lq) (m2 : Mg w1 Q d Lp) => Qcmp_g (w := w1) Iq.out Ip.out m1 m2 (by omega) (-1) (ord_lt' hlt)
        have HP := hid fun (w1 : World) (R : Option Addr) (c : Nat) (m : Mg w1 R c Lq) => Qplus_g (w := w1.alloc (.cells #[.int .u32 1] 47)) Iq.out lz1 m.alloc (mg_one w1) (by omega) (by omega) iX
        clear ih hN hd hk hn hle fn fd fm fk iN iD iM iK mn md mm mk iX iY bn bd bm bk Iq Ir Ip Is hs hr hlt hkq hkp
        go_enter Tryz.func75, Tryz.ntmps75
        go_wp2_with fail
        refine HD1.out.mono ?_
        rintro e w1 ⟨R1, c1, R2, c2, rfl, m1, m2, HB⟩
        go_wp2_with fail
        refine (HD2.out _ HB).mono ?_
        rintro e w2 ⟨R3, c3, R4, c4, rfl, m3, m4, h2⟩
        have hv_ : Below w1.heap.size w1 w2 := Below.trans (b := _) (by repeat (first | assumption | exact Below.refl _ _ | refine Below.alloc ?_ (by simp; try omega) _ | refine Below.drew ?_ | refine below_drewN ?_ _)) (h2.mono (by simp; try omega))
        replace m1 := m1.below hv_
        replace m2 := m2.below hv_
        replace HB := HB.trans (hv_.mono HB.size)
        clear hv_
        go_wp2_with fail
        refine (HC.out _ _ _ _ _ m1 m3).mono ?_
        rintro e w3 ⟨rfl, h3⟩
        have hv_ : Below w2.heap.size w2 w3 := Below.trans (b := _) (by repeat (first | assumption | exact Below.refl _ _ | refine Below.alloc ?_ (by simp; try omega) _ | refine Below.drew ?_ | refine below_drewN ?_ _)) (h3.mono (by simp; try omega))
        replace m1 := m1.below hv_
        replace m2 := m2.below hv_
        replace HB := HB.trans (hv_.mono HB.size)
        clear hv_
        go_wp2_with fail
        refine (HP.out _ _ _ m1).mono ?_
        rintro e w4 ⟨R5, c5, rfl, m5, h4⟩
        have h4' : Below w3.heap.size w3 w4 := ((Below.refl _ _).alloc (Nat.le_refl _) _).trans (h4.mono (by simp))
        have hv_ : Below w3.heap.size w3 w4 := Below.trans (b := _) (by repeat (first | assumption | exact Below.refl _ _ | refine Below.alloc ?_ (by simp; try omega) _ | refine Below.drew ?_ | refine below_drewN ?_ _)) (h4'.mono (by simp; try omega))
        replace HB := HB.trans (hv_.mono HB.size)
        clear hv_
        go_wp2
        go_ret2
        refine ⟨_, _, _, _, rfl, m5.alloc, mg_one w4, HB.alloc HB.size _⟩
      · have he := same_floor hd hk hle hlt
        have hrs := rest_le hle he
        have hs0 : 0 < m % k := by
          rcases Nat.eq_zero_or_pos (m % k) with h1 | h1
          · rw [h1, Nat.mul_zero] at hrs
            have : 0 < k * (n % d) := Nat.mul_pos hk (by omega)
            omega
          · exact h1
        have l1 := Nat.mod_lt m hk
        have l2 := Nat.mod_lt n hd
        have hs := simpl_rec (by omega) (by omega) hr hlt
        rw [hs] at iX iY
        have hsl := simpl_le hs0 (show 0 < n % d by omega) hrs
        generalize hX : simpl k (m % k) d (n % d) = X at *
        obtain ⟨x, y⟩ := X
        obtain ⟨kx', Lx', Ix'⟩ := lz x
        obtain ⟨ky', Ly', Iy'⟩ := lz y
        have HR := hid fun (w1 : World) (h : Below w.heap.size w w1) (R Q : Option Addr) (c d_ : Nat) (m1 : Mg w1 R c Ls) (m2 : Mg w1 Q d_ Lr) => ih k (m % k) d (n % d) (by omega) hs0 (by omega) hk hrs fk (fits_mono (Nat.le_of_lt l1) fk) fd (fits_mono (Nat.le_of_lt l2) fd) (w := w1) iK Is.out iD Ir.out (mk.below h) m1 (md.below h) m2 (by rw [hX]; exact Ix'.out) (by rw [hX]; exact Iy'.out)
        have HC := hid fun (w1 : World) (R Q : Option Addr) (c d : Nat) (m1 : Mg w1 R c Lq) (m2 : Mg w1 Q d Lp) => Qcmp_g (w := w1) Iq.out Ip.out m1 m2 (by omega) _ rfl
        have hzo := ord_ge' hlt
        have hkx : kx' ≤ 512 := by have := Ix'.out.mono iK hsl.1; omega
        have hky : ky' ≤ 512 := by have := Iy'.out.mono Is.out hsl.2; have := Is.out.mono iK (Nat.le_of_lt l1); omega
        obtain ⟨kt, Lt, It⟩ := lz (n / d * x)
        have hkt : kt ≤ 1024 := It.out.le (Nat.le_trans (mul_len Iq.out Ix'.out) (by omega))
        have HT := hid fun (w1 : World) (R Q : Option Addr) (c d : Nat) (m1 : Mg w1 R c Lq) (m2 : Mg w1 Q d Lx') => Qtimes_g (w := w1) Iq.out Ix'.out m1 m2 (by omega) (by omega) It.out
        have HP := hid fun (w1 : World) (R Q : Option Addr) (c d : Nat) (m1 : Mg w1 R c Lt) (m2 : Mg w1 Q d Ly') => Qplus_g (w := w1) It.out Iy'.out m1 m2 (by omega) (by omega) iX
        obtain ⟨rfl, rfl⟩ := iY.inj Ix'.out
        generalize ord (n / d) (m / k) = zo at *
        clear ih hN hd hk hn hle fn fd fm fk iN iD iM iK mn md mm mk iX iY bn bd bm bk Iq Ir Ip Is hs hr hlt hkq hkp he hrs hs0 l1 l2 hsl hX hkx hky hkt It Ix' Iy'
        go_enter Tryz.func75, Tryz.ntmps75
        go_wp2_with fail
        refine HD1.out.mono ?_
        rintro e w1 ⟨R1, c1, R2, c2, rfl, m1, m2, HB⟩
        go_wp2_with fail
        refine (HD2.out _ HB).mono ?_
        rintro e w2 ⟨R3, c3, R4, c4, rfl, m3, m4, h2⟩
        have hv_ : Below w1.heap.size w1 w2 := Below.trans (b := _) (by repeat (first | assumption | exact Below.refl _ _ | refine Below.alloc ?_ (by simp; try omega) _ | refine Below.drew ?_ | refine below_drewN ?_ _)) (h2.mono (by simp; try omega))
        replace m1 := m1.below hv_
        replace m2 := m2.below hv_
        replace HB := HB.trans (hv_.mono HB.size)
        clear hv_
        go_wp2_with fail
        refine (HC.out _ _ _ _ _ m1 m3).mono ?_
        rintro e w3 ⟨rfl, h3⟩
        have hv_ : Below w2.heap.size w2 w3 := Below.trans (b := _) (by repeat (first | assumption | exact Below.refl _ _ | refine Below.alloc ?_ (by simp; try omega) _ | refine Below.drew ?_ | refine below_drewN ?_ _)) (h3.mono (by simp; try omega))
        replace m1 := m1.below hv_
        replace m2 := m2.below hv_
        replace m4 := m4.below hv_
        replace HB := HB.trans (hv_.mono HB.size)
        clear hv_
        go_wp2_with fail
        refine (HR.out _ HB _ _ _ _ m4 m2).mono ?_
        rintro e w4 ⟨R5, c5, R6, c6, rfl, m5, m6, h4⟩
        have hv_ : Below w3.heap.size w3 w4 := Below.trans (b := _) (by repeat (first | assumption | exact Below.refl _ _ | refine Below.alloc ?_ (by simp; try omega) _ | refine Below.drew ?_ | refine below_drewN ?_ _)) (h4.mono (by simp; try omega))
        replace m1 := m1.below hv_
        replace HB := HB.trans (hv_.mono HB.size)
        clear hv_
        go_wp2_with fail
        refine (HT.out _ _ _ _ _ m1 m5).mono ?_
        rintro e w5 ⟨R7, c7, rfl, m7, h5⟩
        have hv_ : Below w4.heap.size w4 w5 := Below.trans (b := _) (by repeat (first | assumption | exact Below.refl _ _ | refine Below.alloc ?_ (by simp; try omega) _ | refine Below.drew ?_ | refine below_drewN ?_ _)) (h5.mono (by simp; try omega))
        replace m5 := m5.below hv_
        replace m6 := m6.below hv_
        replace HB := HB.trans (hv_.mono HB.size)
        clear hv_
        go_wp2_with fail
        refine (HP.out _ _ _ _ _ m7 m6).mono ?_
        rintro e w6 ⟨R8, c8, rfl, m8, h6⟩
        have hv_ : Below w5.heap.size w5 w6 := Below.trans (b := _) (by repeat (first | assumption | exact Below.refl _ _ | refine Below.alloc ?_ (by simp; try omega) _ | refine Below.drew ?_ | refine below_drewN ?_ _)) (h6.mono (by simp; try omega))
        replace m5 := m5.below hv_
        replace HB := HB.trans (hv_.mono HB.size)
        clear hv_
        go_wp2
        go_ret2
        exact ⟨_, _, _, _, rfl, m8, m5, HB⟩
theorem lowE_x (neg : Bool) {a b : Nat} (hab : Nat.gcd a b = 1) (fa : fits (a : Nat)) (fb : fits (b : Nat)) : lowE (sg neg a) b = ((sg neg a, b), 0) := by
  have hl := low_sg neg a b
  have h1 : low (sg neg a) b = (sg neg a, b) := by
    rw [hab, Nat.div_one, Nat.div_one] at hl
    exact Prod.ext hl.1 hl.2
  rw [lowE_yes (by rw [h1]; exact ⟨by rw [fits_sg]; exact (fits_nat a).1 fa, fb⟩), h1]
set_option maxRecDepth 100000 in
set_option maxHeartbeats 8000000 in
theorem QSimplest_any {na nb nc nd : Bool} {xs ys us vs : List Nat} {A B C D : Option Addr} {ca cb cc cd : Nat} {w : World} (ma : Mg w A ca xs) (mb : Mg w B cb ys) (mc : Mg w C cc us) (md : Mg w D cd vs) :
    Calls Tryz.prog 34 #[.agg #[.bool na, .slice A xs.length ca, .bool nb, .slice B ys.length cb], .agg #[.bool nc, .slice C us.length cc, .bool nd, .slice D vs.length cd]] w (RetFE w (opR simE na xs nb ys nc us nd vs)) := by
  have HX := hid fun (w1 : World) (h : Below w.heap.size w w1) => Qvalid_any (na := na) (nb := nb) (w := w1) (ma.below h) (mb.below h)
  have HY := hid fun (w1 : World) (h : Below w.heap.size w w1) => Qvalid_any (na := nc) (nb := nd) (w := w1) (mc.below h) (md.below h)
  have HC := hid fun (w1 : World) (h : Below w.heap.size w w1) => QCmp_any (na := na) (nb := nb) (nc := nc) (nd := nd) (w := w1) (ma.below h) (mb.below h) (mc.below h) (md.below h)
  cases v1 : fvB na xs nb ys
  · clear HC
    have hr_ : opR simE na xs nb ys nc us nd vs = ((0, 0), 1) := by unfold opR; rw [v1]; rfl
    rw [hr_]
    rw [v1] at HX
    clear hr_ v1 ma mb mc md HY
    generalize xs.length = ka at *
    generalize ys.length = la at *
    generalize us.length = kb at *
    generalize vs.length = lb at *
    go_enter Tryz.func34, Tryz.ntmps34
    go_wp2_with fail
    refine enterFFF (P := fun u => Calls _ _ _ u _) ?_
    intro u HB q0 q1 q2 q3 r0 r1 r2 r3 s0 s1 s2 s3 z1 z2 z3 hsz
    clear hsz
    have f_z1 := z1.fr
    have f_z2 := z2.fr
    have f_z3 := z3.fr
    have lt_q0 := cell_lt q0
    have lt_r0 := cell_lt r0
    have lt_s0 := cell_lt s0
    refine (HX.out _ HB).mono ?_
    rintro e w1 ⟨rfl, h1⟩
    have hv_ : Below u.heap.size u w1 := Below.trans (b := _) (by repeat (first | assumption | exact Below.refl _ _ | refine Below.alloc ?_ (by simp; try omega) _ | refine Below.drew ?_ | refine below_drewN ?_ _)) (h1.mono (by simp; try omega))
    replace q0 := keep_cell hv_ q0
    replace q1 := keep_cell hv_ q1
    replace q2 := keep_cell hv_ q2
    replace q3 := keep_cell hv_ q3
    replace r0 := keep_cell hv_ r0
    replace r1 := keep_cell hv_ r1
    replace r2 := keep_cell hv_ r2
    replace r3 := keep_cell hv_ r3
    replace s0 := keep_cell hv_ s0
    replace s1 := keep_cell hv_ s1
    replace s2 := keep_cell hv_ s2
    replace s3 := keep_cell hv_ s3
    have lt_q0 := cell_lt q0
    have lt_q1 := cell_lt q1
    have lt_q2 := cell_lt q2
    have lt_q3 := cell_lt q3
    have lt_r0 := cell_lt r0
    have lt_r1 := cell_lt r1
    have lt_r2 := cell_lt r2
    have lt_r3 := cell_lt r3
    have lt_s0 := cell_lt s0
    have lt_s1 := cell_lt s1
    have lt_s2 := cell_lt s2
    have lt_s3 := cell_lt s3
    replace z1 := z1.below hv_
    replace z2 := z2.below hv_
    replace z3 := z3.below hv_
    replace f_z1 := z1.fr
    replace f_z2 := z2.fr
    replace f_z3 := z3.fr
    replace HB := HB.trans (hv_.mono HB.size)
    clear hv_
    go_wp2
    refine bodyPost_ret (v := .tuple #[.agg #[.bool false, .slice none 0 0, .bool false, .slice none 0 0], .int .i64 1]) ?_ rfl ?_
    · simp [results, Tryz.results34, go_sem, s0, s1, s2, s3]
    · exact retFE_set 1 HB (by omega) s0 s1 s2 s3
  · rw [v1] at HX
    cases v2 : fvB nc us nd vs
    · clear HC
      have hr_ : opR simE na xs nb ys nc us nd vs = ((0, 0), 1) := by unfold opR; rw [v1, v2]; rfl
      rw [hr_]
      rw [v2] at HY
      clear hr_ v1 v2 ma mb mc md
      generalize xs.length = ka at *
      generalize ys.length = la at *
      generalize us.length = kb at *
      generalize vs.length = lb at *
      go_enter Tryz.func34, Tryz.ntmps34
      go_wp2_with fail
      refine enterFFF (P := fun u => Calls _ _ _ u _) ?_
      intro u HB q0 q1 q2 q3 r0 r1 r2 r3 s0 s1 s2 s3 z1 z2 z3 hsz
      clear hsz
      have f_z1 := z1.fr
      have f_z2 := z2.fr
      have f_z3 := z3.fr
      have lt_q0 := cell_lt q0
      have lt_r0 := cell_lt r0
      have lt_s0 := cell_lt s0
      refine (HX.out _ HB).mono ?_
      rintro e w1 ⟨rfl, h1⟩
      have hv_ : Below u.heap.size u w1 := Below.trans (b := _) (by repeat (first | assumption | exact Below.refl _ _ | refine Below.alloc ?_ (by simp; try omega) _ | refine Below.drew ?_ | refine below_drewN ?_ _)) (h1.mono (by simp; try omega))
      replace q0 := keep_cell hv_ q0
      replace q1 := keep_cell hv_ q1
      replace q2 := keep_cell hv_ q2
      replace q3 := keep_cell hv_ q3
      replace r0 := keep_cell hv_ r0
      replace r1 := keep_cell hv_ r1
      replace r2 := keep_cell hv_ r2
      replace r3 := keep_cell hv_ r3
      replace s0 := keep_cell hv_ s0
      replace s1 := keep_cell hv_ s1
      replace s2 := keep_cell hv_ s2
      replace s3 := keep_cell hv_ s3
      have lt_q0 := cell_lt q0
      have lt_q1 := cell_lt q1
      have lt_q2 := cell_lt q2
      have lt_q3 := cell_lt q3
      have lt_r0 := cell_lt r0
      have lt_r1 := cell_lt r1
      have lt_r2 := cell_lt r2
      have lt_r3 := cell_lt r3
      have lt_s0 := cell_lt s0
      have lt_s1 := cell_lt s1
      have lt_s2 := cell_lt s2
      have lt_s3 := cell_lt s3
      replace z1 := z1.below hv_
      replace z2 := z2.below hv_
      replace z3 := z3.below hv_
      replace f_z1 := z1.fr
      replace f_z2 := z2.fr
      replace f_z3 := z3.fr
      replace HB := HB.trans (hv_.mono HB.size)
      clear hv_
      go_wp2_with fail
      refine (HY.out _ HB).mono ?_
      rintro e w2 ⟨rfl, h2⟩
      have hv_ : Below w1.heap.size w1 w2 := Below.trans (b := _) (by repeat (first | assumption | exact Below.refl _ _ | refine Below.alloc ?_ (by simp; try omega) _ | refine Below.drew ?_ | refine below_drewN ?_ _)) (h2.mono (by simp; try omega))
      replace q0 := keep_cell hv_ q0
      replace q1 := keep_cell hv_ q1
      replace q2 := keep_cell hv_ q2
      replace q3 := keep_cell hv_ q3
      replace r0 := keep_cell hv_ r0
      replace r1 := keep_cell hv_ r1
      replace r2 := keep_cell hv_ r2
      replace r3 := keep_cell hv_ r3
      replace s0 := keep_cell hv_ s0
      replace s1 := keep_cell hv_ s1
      replace s2 := keep_cell hv_ s2
      replace s3 := keep_cell hv_ s3
      have lt_q0 := cell_lt q0
      have lt_q1 := cell_lt q1
      have lt_q2 := cell_lt q2
      have lt_q3 := cell_lt q3
      have lt_r0 := cell_lt r0
      have lt_r1 := cell_lt r1
      have lt_r2 := cell_lt r2
      have lt_r3 := cell_lt r3
      have lt_s0 := cell_lt s0
      have lt_s1 := cell_lt s1
      have lt_s2 := cell_lt s2
      have lt_s3 := cell_lt s3
      replace z1 := z1.below hv_
      replace z2 := z2.below hv_
      replace z3 := z3.below hv_
      replace f_z1 := z1.fr
      replace f_z2 := z2.fr
      replace f_z3 := z3.fr
      replace HB := HB.trans (hv_.mono HB.size)
      clear hv_
      go_wp2
      refine bodyPost_ret (v := .tuple #[.agg #[.bool false, .slice none 0 0, .bool false, .slice none 0 0], .int .i64 1]) ?_ rfl ?_
      · simp [results, Tryz.results34, go_sem, s0, s1, s2, s3]
      · exact retFE_set 1 HB (by omega) s0 s1 s2 s3
    · rw [v2] at HY
      have hc_ : cmpR na xs nb ys nc us nd vs = (cmpF (sg na (val xs), val ys) (sg nc (val us), val vs), 0) := by unfold cmpR; rw [v1, v2]; rfl
      rw [hc_] at HC
      clear hc_
      obtain ⟨rfl, p1, p2, p3, p4, p5, p6⟩ := fvB_ok ma.ok mb.ok v1
      obtain ⟨rfl, p7, p8, p9, p10, p11, p12⟩ := fvB_ok mc.ok md.ok v2
      have hr_ : opR simE na xs false ys nc us false vs = simE (sg na (val xs), val ys) (sg nc (val us), val vs) := by unfold opR; rw [v1, v2]; rfl
      rw [hr_]
      have IF : Hid (Fz (sg na (val xs), val ys) na xs.length xs ys.length ys) := ⟨p1, by rw [natAbs_sg]; exact p2, rfl, p3, rfl⟩
      have IG : Hid (Fz (sg nc (val us), val vs) nc us.length us vs.length vs) := ⟨p7, by rw [natAbs_sg]; exact p8, rfl, p9, rfl⟩
      generalize (sg na (val xs), val ys) = f at *
      generalize (sg nc (val us), val vs) = g at *
      have NF := hid p4
      have NG := hid p10
      clear hr_ v1 v2 p1 p2 p3 p4 p7 p8 p9 p10
      generalize xs.length = ka at *
      generalize ys.length = la at *
      generalize us.length = kb at *
      generalize vs.length = lb at *
      have ff1 : fits f.1 := by unfold fits; rw [IF.out.n.len]; exact p5
      have ff2 : fits (f.2 : Nat) := by rw [fits_nat, IF.out.d.len]; exact p6
      have fg1 : fits g.1 := by unfold fits; rw [IG.out.n.len]; exact p11
      have fg2 : fits (g.2 : Nat) := by rw [fits_nat, IG.out.d.len]; exact p12
      have ffa : fits (f.1.natAbs : Nat) := by rw [fits_nat, IF.out.n.len]; exact p5
      have fga : fits (g.1.natAbs : Nat) := by rw [fits_nat, IG.out.n.len]; exact p11
      have hfd := NF.out.1
      have hgd := NG.out.1
      have hna := hid IF.out.hb
      have hnc := hid IG.out.hb
      by_cases hz : 0 < cmpF f g
      · have hs : simE f g = ((0, 0), 3) := by unfold simE; rw [if_pos hz]
        rw [hs]
        generalize cmpF f g = z at *
        clear hs ff1 ff2 fg1 fg2 ffa fga hfd hgd hna hnc IF IG NF NG p5 p6 p11 p12 ma mb mc md
        go_enter Tryz.func34, Tryz.ntmps34
        go_wp2_with fail
        refine enterFFF (P := fun u => Calls _ _ _ u _) ?_
        intro u HB q0 q1 q2 q3 r0 r1 r2 r3 s0 s1 s2 s3 z1 z2 z3 hsz
        clear hsz
        have f_z1 := z1.fr
        have f_z2 := z2.fr
        have f_z3 := z3.fr
        have lt_q0 := cell_lt q0
        have lt_r0 := cell_lt r0
        have lt_s0 := cell_lt s0
        refine (HX.out _ HB).mono ?_
        rintro e w1 ⟨rfl, h1⟩
        have hv_ : Below u.heap.size u w1 := Below.trans (b := _) (by repeat (first | assumption | exact Below.refl _ _ | refine Below.alloc ?_ (by simp; try omega) _ | refine Below.drew ?_ | refine below_drewN ?_ _)) (h1.mono (by simp; try omega))
        replace q0 := keep_cell hv_ q0
        replace q1 := keep_cell hv_ q1
        replace q2 := keep_cell hv_ q2
        replace q3 := keep_cell hv_ q3
        replace r0 := keep_cell hv_ r0
        replace r1 := keep_cell hv_ r1
        replace r2 := keep_cell hv_ r2
        replace r3 := keep_cell hv_ r3
        replace s0 := keep_cell hv_ s0
        replace s1 := keep_cell hv_ s1
        replace s2 := keep_cell hv_ s2
        replace s3 := keep_cell hv_ s3
        have lt_q0 := cell_lt q0
        have lt_q1 := cell_lt q1
        have lt_q2 := cell_lt q2
        have lt_q3 := cell_lt q3
        have lt_r0 := cell_lt r0
        have lt_r1 := cell_lt r1
        have lt_r2 := cell_lt r2
        have lt_r3 := cell_lt r3
        have lt_s0 := cell_lt s0
        have lt_s1 := cell_lt s1
        have lt_s2 := cell_lt s2
        have lt_s3 := cell_lt s3
        replace z1 := z1.below hv_
        replace z2 := z2.below hv_
        replace z3 := z3.below hv_
        replace f_z1 := z1.fr
        replace f_z2 := z2.fr
        replace f_z3 := z3.fr
        replace HB := HB.trans (hv_.mono HB.size)
        clear hv_
        go_wp2_with fail
        refine (HY.out _ HB).mono ?_
        rintro e w2 ⟨rfl, h2⟩
        have hv_ : Below w1.heap.size w1 w2 := Below.trans (b := _) (by repeat (first | assumption | exact Below.refl _ _ | refine Below.alloc ?_ (by simp; try omega) _ | refine Below.drew ?_ | refine below_drewN ?_ _)) (h2.mono (by simp; try omega))
        replace q0 := keep_cell hv_ q0
        replace q1 := keep_cell hv_ q1
        replace q2 := keep_cell hv_ q2
        replace q3 := keep_cell hv_ q3
        replace r0 := keep_cell hv_ r0
        replace r1 := keep_cell hv_ r1
        replace r2 := keep_cell hv_ r2
        replace r3 := keep_cell hv_ r3
        replace s0 := keep_cell hv_ s0
        replace s1 := keep_cell hv_ s1
        replace s2 := keep_cell hv_ s2
        replace s3 := keep_cell hv_ s3
        have lt_q0 := cell_lt q0
        have lt_q1 := cell_lt q1
        have lt_q2 := cell_lt q2
        have lt_q3 := cell_lt q3
        have lt_r0 := cell_lt r0
        have lt_r1 := cell_lt r1
        have lt_r2 := cell_lt r2
        have lt_r3 := cell_lt r3
        have lt_s0 := cell_lt s0
        have lt_s1 := cell_lt s1
        have lt_s2 := cell_lt s2
        have lt_s3 := cell_lt s3
        replace z1 := z1.below hv_
        replace z2 := z2.below hv_
        replace z3 := z3.below hv_
        replace f_z1 := z1.fr
        replace f_z2 := z2.fr
        replace f_z3 := z3.fr
        replace HB := HB.trans (hv_.mono HB.size)
        clear hv_
        go_wp2_with fail
        refine (HC.out _ HB).mono ?_
        rintro e w3 ⟨rfl, h3⟩
        have hv_ : Below w2.heap.size w2 w3 := Below.trans (b := _) (by repeat (first | assumption | exact Below.refl _ _ | refine Below.alloc ?_ (by simp; try omega) _ | refine Below.drew ?_ | refine below_drewN ?_ _)) (h3.mono (by simp; try omega))
        replace q0 := keep_cell hv_ q0
        replace q1 := keep_cell hv_ q1
        replace q2 := keep_cell hv_ q2
        replace q3 := keep_cell hv_ q3
        replace r0 := keep_cell hv_ r0
        replace r1 := keep_cell hv_ r1
        replace r2 := keep_cell hv_ r2
        replace r3 := keep_cell hv_ r3
        replace s0 := keep_cell hv_ s0
        replace s1 := keep_cell hv_ s1
        replace s2 := keep_cell hv_ s2
        replace s3 := keep_cell hv_ s3
        have lt_q0 := cell_lt q0
        have lt_q1 := cell_lt q1
        have lt_q2 := cell_lt q2
        have lt_q3 := cell_lt q3
        have lt_r0 := cell_lt r0
        have lt_r1 := cell_lt r1
        have lt_r2 := cell_lt r2
        have lt_r3 := cell_lt r3
        have lt_s0 := cell_lt s0
        have lt_s1 := cell_lt s1
        have lt_s2 := cell_lt s2
        have lt_s3 := cell_lt s3
        replace z1 := z1.below hv_
        replace z2 := z2.below hv_
        replace z3 := z3.below hv_
        replace f_z1 := z1.fr
        replace f_z2 := z2.fr
        replace f_z3 := z3.fr
        replace HB := HB.trans (hv_.mono HB.size)
        clear hv_
        go_wp2
        refine bodyPost_ret (v := .tuple #[.agg #[.bool false, .slice none 0 0, .bool false, .slice none 0 0], .int .i64 3]) ?_ rfl ?_
        · simp [results, Tryz.results34, go_sem, s0, s1, s2, s3]
        · exact retFE_set 3 HB (by omega) s0 s1 s2 s3
      · by_cases hg0 : g.1 < 0
        · obtain ⟨hf0, hle⟩ := cmp_negs hz hg0 hfd hgd
          obtain rfl : nc = true := by rw [hnc.out]; simpa using hg0
          obtain rfl : na = true := by rw [hna.out]; simpa using hf0
          obtain ⟨_, hco, hco2, _, _⟩ := simpl_spec _ g.1.natAbs g.2 f.1.natAbs f.2 (Nat.le_refl _) hgd hfd hle
          have hle2 := simpl_le hgd hfd hle
          have hs : simE f g = ((sg true (simpl g.1.natAbs g.2 f.1.natAbs f.2).1, (simpl g.1.natAbs g.2 f.1.natAbs f.2).2), 0) := by unfold simE; rw [if_neg hz, if_pos hg0]; rfl
          obtain ⟨k1, L1, I1⟩ := lz (simpl g.1.natAbs g.2 f.1.natAbs f.2).1
          obtain ⟨k2, L2, I2⟩ := lz (simpl g.1.natAbs g.2 f.1.natAbs f.2).2
          have fx1 := fits_mono hle2.1 fga
          have fx2 := fits_mono hle2.2 fg2
          have HS := hid fun (w1 : World) (h : Below w.heap.size w w1) => Qsimplest_g _ g.1.natAbs g.2 f.1.natAbs f.2 (Nat.le_refl _) hgd hfd (by omega) hle fga fg2 ffa ff2 (w := w1) IG.out.n IG.out.d IF.out.n IF.out.d (mc.below h) (md.below h) (ma.below h) (mb.below h) I1.out I2.out
          rw [hs]
          generalize hX : simpl g.1.natAbs g.2 f.1.natAbs f.2 = X at *
          have hlo := lowE_x true hco2 fx1 fx2
          obtain ⟨bq, kq, Xq, lq, Yq, IQ⟩ := fz (sg true X.1, X.2)
          have HM := hid fun (w1 : World) (R Q : Option Addr) (c d : Nat) (m1 : Mg w1 R c L1) (m2 : Mg w1 Q d L2) => Qmade_g (w := w1) I1.out I2.out m1 m2 (by have := fitsL I1.out fx1; omega) (by have := fitsL I2.out fx2; omega) (by omega) IQ.out hlo
          generalize (sg true X.1, X.2) = p at *
          generalize cmpF f g = z at *
          clear hs ff1 ff2 fg1 fg2 ffa fga hfd hgd hna hnc IF IG NF NG p5 p6 p11 p12 ma mb mc md hf0 hg0 hle hle2 hco hco2 I1 I2 fx1 fx2 hX hlo
          go_enter Tryz.func34, Tryz.ntmps34
          go_wp2_with fail
          refine enterFFF (P := fun u => Calls _ _ _ u _) ?_
          intro u HB q0 q1 q2 q3 r0 r1 r2 r3 s0 s1 s2 s3 z1 z2 z3 hsz
          clear hsz
          have f_z1 := z1.fr
          have f_z2 := z2.fr
          have f_z3 := z3.fr
          have lt_q0 := cell_lt q0
          have lt_r0 := cell_lt r0
          have lt_s0 := cell_lt s0
          refine (HX.out _ HB).mono ?_
          rintro e w1 ⟨rfl, h1⟩
          have hv_ : Below u.heap.size u w1 := Below.trans (b := _) (by repeat (first | assumption | exact Below.refl _ _ | refine Below.alloc ?_ (by simp; try omega) _ | refine Below.drew ?_ | refine below_drewN ?_ _)) (h1.mono (by simp; try omega))
          replace q0 := keep_cell hv_ q0
          replace q1 := keep_cell hv_ q1
          replace q2 := keep_cell hv_ q2
          replace q3 := keep_cell hv_ q3
          replace r0 := keep_cell hv_ r0
          replace r1 := keep_cell hv_ r1
          replace r2 := keep_cell hv_ r2
          replace r3 := keep_cell hv_ r3
          replace s0 := keep_cell hv_ s0
          replace s1 := keep_cell hv_ s1
          replace s2 := keep_cell hv_ s2
          replace s3 := keep_cell hv_ s3
          have lt_q0 := cell_lt q0
          have lt_q1 := cell_lt q1
          have lt_q2 := cell_lt q2
          have lt_q3 := cell_lt q3
          have lt_r0 := cell_lt r0
          have lt_r1 := cell_lt r1
          have lt_r2 := cell_lt r2
          have lt_r3 := cell_lt r3
          have lt_s0 := cell_lt s0
          have lt_s1 := cell_lt s1
          have lt_s2 := cell_lt s2
          have lt_s3 := cell_lt s3
          replace z1 := z1.below hv_
          replace z2 := z2.below hv_
          replace z3 := z3.below hv_
          replace f_z1 := z1.fr
          replace f_z2 := z2.fr
          replace f_z3 := z3.fr
          replace HB := HB.trans (hv_.mono HB.size)
          clear hv_
          go_wp2_with fail
          refine (HY.out _ HB).mono ?_
          rintro e w2 ⟨rfl, h2⟩
          have hv_ : Below w1.heap.size w1 w2 := Below.trans (b := _) (by repeat (first | assumption | exact Below.refl _ _ | refine Below.alloc ?_ (by simp; try omega) _ | refine Below.drew ?_ | refine below_drewN ?_ _)) (h2.mono (by simp; try omega))
          replace q0 := keep_cell hv_ q0
          replace q1 := keep_cell hv_ q1
          replace q2 := keep_cell hv_ q2
          replace q3 := keep_cell hv_ q3
          replace r0 := keep_cell hv_ r0
          replace r1 := keep_cell hv_ r1
          replace r2 := keep_cell hv_ r2
          replace r3 := keep_cell hv_ r3
          replace s0 := keep_cell hv_ s0
          replace s1 := keep_cell hv_ s1
          replace s2 := keep_cell hv_ s2
          replace s3 := keep_cell hv_ s3
          have lt_q0 := cell_lt q0
          have lt_q1 := cell_lt q1
          have lt_q2 := cell_lt q2
          have lt_q3 := cell_lt q3
          have lt_r0 := cell_lt r0
          have lt_r1 := cell_lt r1
          have lt_r2 := cell_lt r2
          have lt_r3 := cell_lt r3
          have lt_s0 := cell_lt s0
          have lt_s1 := cell_lt s1
          have lt_s2 := cell_lt s2
          have lt_s3 := cell_lt s3
          replace z1 := z1.below hv_
          replace z2 := z2.below hv_
          replace z3 := z3.below hv_
          replace f_z1 := z1.fr
          replace f_z2 := z2.fr
          replace f_z3 := z3.fr
          replace HB := HB.trans (hv_.mono HB.size)
          clear hv_
          go_wp2_with fail
          refine (HC.out _ HB).mono ?_
          rintro e w3 ⟨rfl, h3⟩
          have hv_ : Below w2.heap.size w2 w3 := Below.trans (b := _) (by repeat (first | assumption | exact Below.refl _ _ | refine Below.alloc ?_ (by simp; try omega) _ | refine Below.drew ?_ | refine below_drewN ?_ _)) (h3.mono (by simp; try omega))
          replace q0 := keep_cell hv_ q0
          replace q1 := keep_cell hv_ q1
          replace q2 := keep_cell hv_ q2
          replace q3 := keep_cell hv_ q3
          replace r0 := keep_cell hv_ r0
          replace r1 := keep_cell hv_ r1
          replace r2 := keep_cell hv_ r2
          replace r3 := keep_cell hv_ r3
          replace s0 := keep_cell hv_ s0
          replace s1 := keep_cell hv_ s1
          replace s2 := keep_cell hv_ s2
          replace s3 := keep_cell hv_ s3
          have lt_q0 := cell_lt q0
          have lt_q1 := cell_lt q1
          have lt_q2 := cell_lt q2
          have lt_q3 := cell_lt q3
          have lt_r0 := cell_lt r0
          have lt_r1 := cell_lt r1
          have lt_r2 := cell_lt r2
          have lt_r3 := cell_lt r3
          have lt_s0 := cell_lt s0
          have lt_s1 := cell_lt s1
          have lt_s2 := cell_lt s2
          have lt_s3 := cell_lt s3
          replace z1 := z1.below hv_
          replace z2 := z2.below hv_
          replace z3 := z3.below hv_
          replace f_z1 := z1.fr
          replace f_z2 := z2.fr
          replace f_z3 := z3.fr
          replace HB := HB.trans (hv_.mono HB.size)
          clear hv_
          go_wp2_with fail
          refine (HS.out _ HB).mono ?_
          rintro e w4 ⟨R1, c1, R2, c2, rfl, m1, m2, h4⟩
          have hv_ : Below w3.heap.size w3 w4 := Below.trans (b := _) (by repeat (first | assumption | exact Below.refl _ _ | refine Below.alloc ?_ (by simp; try omega) _ | refine Below.drew ?_ | refine below_drewN ?_ _)) (h4.mono (by simp; try omega))
          replace q0 := keep_cell hv_ q0
          replace q1 := keep_cell hv_ q1
          replace q2 := keep_cell hv_ q2
          replace q3 := keep_cell hv_ q3
          replace r0 := keep_cell hv_ r0
          replace r1 := keep_cell hv_ r1
          replace r2 := keep_cell hv_ r2
          replace r3 := keep_cell hv_ r3
          replace s0 := keep_cell hv_ s0
          replace s1 := keep_cell hv_ s1
          replace s2 := keep_cell hv_ s2
          replace s3 := keep_cell hv_ s3
          have lt_q0 := cell_lt q0
          have lt_q1 := cell_lt q1
          have lt_q2 := cell_lt q2
          have lt_q3 := cell_lt q3
          have lt_r0 := cell_lt r0
          have lt_r1 := cell_lt r1
          have lt_r2 := cell_lt r2
          have lt_r3 := cell_lt r3
          have lt_s0 := cell_lt s0
          have lt_s1 := cell_lt s1
          have lt_s2 := cell_lt s2
          have lt_s3 := cell_lt s3
          replace z1 := z1.below hv_
          replace z2 := z2.below hv_
          replace z3 := z3.below hv_
          replace f_z1 := z1.fr
          replace f_z2 := z2.fr
          replace f_z3 := z3.fr
          replace HB := HB.trans (hv_.mono HB.size)
          clear hv_
          go_wp2_with fail
          refine (HM.out _ _ _ _ _ m1 m2).mono ?_
          rintro e w5 ⟨R3, c3, R4, c4, rfl, m3, m4, h5⟩
          have hv_ : Below w4.heap.size w4 w5 := Below.trans (b := _) (by repeat (first | assumption | exact Below.refl _ _ | refine Below.alloc ?_ (by simp; try omega) _ | refine Below.drew ?_ | refine below_drewN ?_ _)) (h5.mono (by simp; try omega))
          replace q0 := keep_cell hv_ q0
          replace q1 := keep_cell hv_ q1
          replace q2 := keep_cell hv_ q2
          replace q3 := keep_cell hv_ q3
          replace r0 := keep_cell hv_ r0
          replace r1 := keep_cell hv_ r1
          replace r2 := keep_cell hv_ r2
          replace r3 := keep_cell hv_ r3
          replace s0 := keep_cell hv_ s0
          replace s1 := keep_cell hv_ s1
          replace s2 := keep_cell hv_ s2
          replace s3 := keep_cell hv_ s3
          have lt_q0 := cell_lt q0
          have lt_q1 := cell_lt q1
          have lt_q2 := cell_lt q2
          have lt_q3 := cell_lt q3
          have lt_r0 := cell_lt r0
          have lt_r1 := cell_lt r1
          have lt_r2 := cell_lt r2
          have lt_r3 := cell_lt r3
          have lt_s0 := cell_lt s0
          have lt_s1 := cell_lt s1
          have lt_s2 := cell_lt s2
          have lt_s3 := cell_lt s3
          replace z1 := z1.below hv_
          replace z2 := z2.below hv_
          replace z3 := z3.below hv_
          replace f_z1 := z1.fr
          replace f_z2 := z2.fr
          replace f_z3 := z3.fr
          replace HB := HB.trans (hv_.mono HB.size)
          clear hv_
          go_wp2
          refine bodyPost_ret (v := .tuple #[.agg #[.bool bq, .slice R3 kq c3, .bool false, .slice R4 lq c4], .int .i64 0]) ?_ rfl ?_
          · simp [results, Tryz.results34, go_sem, s0, s1, s2, s3]
          · obtain ⟨j1_, j2_, j3_⟩ := fin_fr m3 m4 HB (by omega) s0 s1 s2 s3 (.bool bq) (.slice R3 kq c3) (.bool false) (.slice R4 lq c4)
            exact GF.r ⟨R3, c3, R4, c4, rfl, j1_, j2_, j3_⟩ IQ.out
        · obtain rfl : nc = false := by rw [hnc.out]; simpa using hg0
          by_cases hf0 : f.1 ≤ 0
          · have hs : simE f g = ((0, 1), 0) := by unfold simE; rw [if_neg hz, if_neg hg0, if_pos hf0]
            rw [hs]
            obtain ⟨bq, kq, Xq, lq, Yq, IQ⟩ := fz (0, 1)
            have hlo : lowE (sg false 0) 1 = ((0, 1), 0) := lowE_x false (by decide) (by unfold fits; simp [limbs_zero]) (valid_int 1 (by omega) (by omega))
            have HM := hid fun (w1 : World) => Qmade_g (w := w1.alloc (.cells #[.int .u32 1] 47)) (⟨limbs_zero.symm, rfl⟩ : Lz 0 0 []) lz1 (mg_nil' _) (mg_one w1) (by omega) (by omega) (by omega) IQ.out hlo
            have hor : Hid (na = true ∨ ka = 0) := by
              rcases (show f.1 < 0 ∨ f.1 = 0 by omega) with h | h
              · left; rw [hna.out]; simpa using h
              · right; exact IF.out.num.zero.2 h
            generalize cmpF f g = z at *
            clear hs ff1 ff2 fg1 fg2 ffa fga hfd hgd hna hnc IF IG NF NG p5 p6 p11 p12 ma mb mc md hf0 hg0 hlo
            cases na
            · rcases hor.out with hn | hn
              · exact absurd hn (by simp)
              · subst hn
                clear hor
                go_enter Tryz.func34, Tryz.ntmps34
                go_wp2_with fail
                refine enterFFF (P := fun u => Calls _ _ _ u _) ?_
                intro u HB q0 q1 q2 q3 r0 r1 r2 r3 s0 s1 s2 s3 z1 z2 z3 hsz
                clear hsz
                have f_z1 := z1.fr
                have f_z2 := z2.fr
                have f_z3 := z3.fr
                have lt_q0 := cell_lt q0
                have lt_r0 := cell_lt r0
                have lt_s0 := cell_lt s0
                refine (HX.out _ HB).mono ?_
                rintro e w1 ⟨rfl, h1⟩
                have hv_ : Below u.heap.size u w1 := Below.trans (b := _) (by repeat (first | assumption | exact Below.refl _ _ | refine Below.alloc ?_ (by simp; try omega) _ | refine Below.drew ?_ | refine below_drewN ?_ _)) (h1.mono (by simp; try omega))
                replace q0 := keep_cell hv_ q0
                replace q1 := keep_cell hv_ q1
                replace q2 := keep_cell hv_ q2
                replace q3 := keep_cell hv_ q3
                replace r0 := keep_cell hv_ r0
                replace r1 := keep_cell hv_ r1
                replace r2 := keep_cell hv_ r2
                replace r3 := keep_cell hv_ r3
                replace s0 := keep_cell hv_ s0
                replace s1 := keep_cell hv_ s1
                replace s2 := keep_cell hv_ s2
                replace s3 := keep_cell hv_ s3
                have lt_q0 := cell_lt q0
                have lt_q1 := cell_lt q1
                have lt_q2 := cell_lt q2
                have lt_q3 := cell_lt q3
                have lt_r0 := cell_lt r0
                have lt_r1 := cell_lt r1
                have lt_r2 := cell_lt r2
                have lt_r3 := cell_lt r3
                have lt_s0 := cell_lt s0
                have lt_s1 := cell_lt s1
                have lt_s2 := cell_lt s2
                have lt_s3 := cell_lt s3
                replace z1 := z1.below hv_
                replace z2 := z2.below hv_
                replace z3 := z3.below hv_
                replace f_z1 := z1.fr
                replace f_z2 := z2.fr
                replace f_z3 := z3.fr
                replace HB := HB.trans (hv_.mono HB.size)
                clear hv_
                go_wp2_with fail
                refine (HY.out _ HB).mono ?_
                rintro e w2 ⟨rfl, h2⟩
                have hv_ : Below w1.heap.size w1 w2 := Below.trans (b := _) (by repeat (first | assumption | exact Below.refl _ _ | refine Below.alloc ?_ (by simp; try omega) _ | refine Below.drew ?_ | refine below_drewN ?_ _)) (h2.mono (by simp; try omega))
                replace q0 := keep_cell hv_ q0
                replace q1 := keep_cell hv_ q1
                replace q2 := keep_cell hv_ q2
                replace q3 := keep_cell hv_ q3
                replace r0 := keep_cell hv_ r0
                replace r1 := keep_cell hv_ r1
                replace r2 := keep_cell hv_ r2
                replace r3 := keep_cell hv_ r3
                replace s0 := keep_cell hv_ s0
                replace s1 := keep_cell hv_ s1
                replace s2 := keep_cell hv_ s2
                replace s3 := keep_cell hv_ s3
                have lt_q0 := cell_lt q0
                have lt_q1 := cell_lt q1
                have lt_q2 := cell_lt q2
                have lt_q3 := cell_lt q3
                have lt_r0 := cell_lt r0
                have lt_r1 := cell_lt r1
                have lt_r2 := cell_lt r2
                have lt_r3 := cell_lt r3
                have lt_s0 := cell_lt s0
                have lt_s1 := cell_lt s1
                have lt_s2 := cell_lt s2
                have lt_s3 := cell_lt s3
                replace z1 := z1.below hv_
                replace z2 := z2.below hv_
                replace z3 := z3.below hv_
                replace f_z1 := z1.fr
                replace f_z2 := z2.fr
                replace f_z3 := z3.fr
                replace HB := HB.trans (hv_.mono HB.size)
                clear hv_
                go_wp2_with fail
                refine (HC.out _ HB).mono ?_
                rintro e w3 ⟨rfl, h3⟩
                have hv_ : Below w2.heap.size w2 w3 := Below.trans (b := _) (by repeat (first | assumption | exact Below.refl _ _ | refine Below.alloc ?_ (by simp; try omega) _ | refine Below.drew ?_ | refine below_drewN ?_ _)) (h3.mono (by simp; try omega))
                replace q0 := keep_cell hv_ q0
                replace q1 := keep_cell hv_ q1
                replace q2 := keep_cell hv_ q2
                replace q3 := keep_cell hv_ q3
                replace r0 := keep_cell hv_ r0
                replace r1 := keep_cell hv_ r1
                replace r2 := keep_cell hv_ r2
                replace r3 := keep_cell hv_ r3
                replace s0 := keep_cell hv_ s0
                replace s1 := keep_cell hv_ s1
                replace s2 := keep_cell hv_ s2
                replace s3 := keep_cell hv_ s3
                have lt_q0 := cell_lt q0
                have lt_q1 := cell_lt q1
                have lt_q2 := cell_lt q2
                have lt_q3 := cell_lt q3
                have lt_r0 := cell_lt r0
                have lt_r1 := cell_lt r1
                have lt_r2 := cell_lt r2
                have lt_r3 := cell_lt r3
                have lt_s0 := cell_lt s0
                have lt_s1 := cell_lt s1
                have lt_s2 := cell_lt s2
                have lt_s3 := cell_lt s3
                replace z1 := z1.below hv_
                replace z2 := z2.below hv_
                replace z3 := z3.below hv_
                replace f_z1 := z1.fr
                replace f_z2 := z2.fr
                replace f_z3 := z3.fr
                replace HB := HB.trans (hv_.mono HB.size)
                clear hv_
                go_wp2_with fail
                refine (HM.out _).mono ?_
                rintro e w5 ⟨R3, c3, R4, c4, rfl, m3, m4, h5⟩
                have h5 : Below w3.heap.size w3 w5 := ((Below.refl _ _).alloc (Nat.le_refl _) _).trans (h5.mono (by simp))
                have hv_ : Below w3.heap.size w3 w5 := Below.trans (b := _) (by repeat (first | assumption | exact Below.refl _ _ | refine Below.alloc ?_ (by simp; try omega) _ | refine Below.drew ?_ | refine below_drewN ?_ _)) (h5.mono (by simp; try omega))
                replace q0 := keep_cell hv_ q0
                replace q1 := keep_cell hv_ q1
                replace q2 := keep_cell hv_ q2
                replace q3 := keep_cell hv_ q3
                replace r0 := keep_cell hv_ r0
                replace r1 := keep_cell hv_ r1
                replace r2 := keep_cell hv_ r2
                replace r3 := keep_cell hv_ r3
                replace s0 := keep_cell hv_ s0
                replace s1 := keep_cell hv_ s1
                replace s2 := keep_cell hv_ s2
                replace s3 := keep_cell hv_ s3
                have lt_q0 := cell_lt q0
                have lt_q1 := cell_lt q1
                have lt_q2 := cell_lt q2
                have lt_q3 := cell_lt q3
                have lt_r0 := cell_lt r0
                have lt_r1 := cell_lt r1
                have lt_r2 := cell_lt r2
                have lt_r3 := cell_lt r3
                have lt_s0 := cell_lt s0
                have lt_s1 := cell_lt s1
                have lt_s2 := cell_lt s2
                have lt_s3 := cell_lt s3
                replace z1 := z1.below hv_
                replace z2 := z2.below hv_
                replace z3 := z3.below hv_
                replace f_z1 := z1.fr
                replace f_z2 := z2.fr
                replace f_z3 := z3.fr
                replace HB := HB.trans (hv_.mono HB.size)
                clear hv_
                go_wp2
                refine bodyPost_ret (v := .tuple #[.agg #[.bool bq, .slice R3 kq c3, .bool false, .slice R4 lq c4], .int .i64 0]) ?_ rfl ?_
                · simp [results, Tryz.results34, go_sem, s0, s1, s2, s3]
                · obtain ⟨j1_, j2_, j3_⟩ := fin_fr m3 m4 HB (by omega) s0 s1 s2 s3 (.bool bq) (.slice R3 kq c3) (.bool false) (.slice R4 lq c4)
                  exact GF.r ⟨R3, c3, R4, c4, rfl, j1_, j2_, j3_⟩ IQ.out
            · clear hor
              go_enter Tryz.func34, Tryz.ntmps34
              go_wp2_with fail
              refine enterFFF (P := fun u => Calls _ _ _ u _) ?_
              intro u HB q0 q1 q2 q3 r0 r1 r2 r3 s0 s1 s2 s3 z1 z2 z3 hsz
              clear hsz
              have f_z1 := z1.fr
              have f_z2 := z2.fr
              have f_z3 := z3.fr
              have lt_q0 := cell_lt q0
              have lt_r0 := cell_lt r0
              have lt_s0 := cell_lt s0
              refine (HX.out _ HB).mono ?_
              rintro e w1 ⟨rfl, h1⟩
              have hv_ : Below u.heap.size u w1 := Below.trans (b := _) (by repeat (first | assumption | exact Below.refl _ _ | refine Below.alloc ?_ (by simp; try omega) _ | refine Below.drew ?_ | refine below_drewN ?_ _)) (h1.mono (by simp; try omega))
              replace q0 := keep_cell hv_ q0
              replace q1 := keep_cell hv_ q1
              replace q2 := keep_cell hv_ q2
              replace q3 := keep_cell hv_ q3
              replace r0 := keep_cell hv_ r0
              replace r1 := keep_cell hv_ r1
              replace r2 := keep_cell hv_ r2
              replace r3 := keep_cell hv_ r3
              replace s0 := keep_cell hv_ s0
              replace s1 := keep_cell hv_ s1
              replace s2 := keep_cell hv_ s2
              replace s3 := keep_cell hv_ s3
              have lt_q0 := cell_lt q0
              have lt_q1 := cell_lt q1
              have lt_q2 := cell_lt q2
              have lt_q3 := cell_lt q3
              have lt_r0 := cell_lt r0
              have lt_r1 := cell_lt r1
              have lt_r2 := cell_lt r2
              have lt_r3 := cell_lt r3
              have lt_s0 := cell_lt s0
              have lt_s1 := cell_lt s1
              have lt_s2 := cell_lt s2
              have lt_s3 := cell_lt s3
              replace z1 := z1.below hv_
              replace z2 := z2.below hv_
              replace z3 := z3.below hv_
              replace f_z1 := z1.fr
              replace f_z2 := z2.fr
              replace f_z3 := z3.fr
              replace HB := HB.trans (hv_.mono HB.size)
              clear hv_
              go_wp2_with fail
              refine (HY.out _ HB).mono ?_
              rintro e w2 ⟨rfl, h2⟩
              have hv_ : Below w1.heap.size w1 w2 := Below.trans (b := _) (by repeat (first | assumption | exact Below.refl _ _ | refine Below.alloc ?_ (by simp; try omega) _ | refine Below.drew ?_ | refine below_drewN ?_ _)) (h2.mono (by simp; try omega))
              replace q0 := keep_cell hv_ q0
              replace q1 := keep_cell hv_ q1
              replace q2 := keep_cell hv_ q2
              replace q3 := keep_cell hv_ q3
              replace r0 := keep_cell hv_ r0
              replace r1 := keep_cell hv_ r1
              replace r2 := keep_cell hv_ r2
              replace r3 := keep_cell hv_ r3
              replace s0 := keep_cell hv_ s0
              replace s1 := keep_cell hv_ s1
              replace s2 := keep_cell hv_ s2
              replace s3 := keep_cell hv_ s3
              have lt_q0 := cell_lt q0
              have lt_q1 := cell_lt q1
              have lt_q2 := cell_lt q2
              have lt_q3 := cell_lt q3
              have lt_r0 := cell_lt r0
              have lt_r1 := cell_lt r1
              have lt_r2 := cell_lt r2
              have lt_r3 := cell_lt r3
              have lt_s0 := cell_lt s0
              have lt_s1 := cell_lt s1
              have lt_s2 := cell_lt s2
              have lt_s3 := cell_lt s3
              replace z1 := z1.below hv_
              replace z2 := z2.below hv_
              replace z3 := z3.below hv_
              replace f_z1 := z1.fr
              replace f_z2 := z2.fr
              replace f_z3 := z3.fr
              replace HB := HB.trans (hv_.mono HB.size)
              clear hv_
              go_wp2_with fail
              refine (HC.out _ HB).mono ?_
              rintro e w3 ⟨rfl, h3⟩
              have hv_ : Below w2.heap.size w2 w3 := Below.trans (b := _) (by repeat (first | assumption | exact Below.refl _ _ | refine Below.alloc ?_ (by simp; try omega) _ | refine Below.drew ?_ | refine below_drewN ?_ _)) (h3.mono (by simp; try omega))
              replace q0 := keep_cell hv_ q0
              replace q1 := keep_cell hv_ q1
              replace q2 := keep_cell hv_ q2
              replace q3 := keep_cell hv_ q3
              replace r0 := keep_cell hv_ r0
              replace r1 := keep_cell hv_ r1
              replace r2 := keep_cell hv_ r2
              replace r3 := keep_cell hv_ r3
              replace s0 := keep_cell hv_ s0
              replace s1 := keep_cell hv_ s1
              replace s2 := keep_cell hv_ s2
              replace s3 := keep_cell hv_ s3
              have lt_q0 := cell_lt q0
              have lt_q1 := cell_lt q1
              have lt_q2 := cell_lt q2
              have lt_q3 := cell_lt q3
              have lt_r0 := cell_lt r0
              have lt_r1 := cell_lt r1
              have lt_r2 := cell_lt r2
              have lt_r3 := cell_lt r3
              have lt_s0 := cell_lt s0
              have lt_s1 := cell_lt s1
              have lt_s2 := cell_lt s2
              have lt_s3 := cell_lt s3
              replace z1 := z1.below hv_
              replace z2 := z2.below hv_
              replace z3 := z3.below hv_
              replace f_z1 := z1.fr
              replace f_z2 := z2.fr
              replace f_z3 := z3.fr
              replace HB := HB.trans (hv_.mono HB.size)
              clear hv_
              go_wp2_with fail
              refine (HM.out _).mono ?_
              rintro e w5 ⟨R3, c3, R4, c4, rfl, m3, m4, h5⟩
              have h5 : Below w3.heap.size w3 w5 := ((Below.refl _ _).alloc (Nat.le_refl _) _).trans (h5.mono (by simp))
              have hv_ : Below w3.heap.size w3 w5 := Below.trans (b := _) (by repeat (first | assumption | exact Below.refl _ _ | refine Below.alloc ?_ (by simp; try omega) _ | refine Below.drew ?_ | refine below_drewN ?_ _)) (h5.mono (by simp; try omega))
              replace q0 := keep_cell hv_ q0
              replace q1 := keep_cell hv_ q1
              replace q2 := keep_cell hv_ q2
              replace q3 := keep_cell hv_ q3
              replace r0 := keep_cell hv_ r0
              replace r1 := keep_cell hv_ r1
              replace r2 := keep_cell hv_ r2
              replace r3 := keep_cell hv_ r3
              replace s0 := keep_cell hv_ s0
              replace s1 := keep_cell hv_ s1
              replace s2 := keep_cell hv_ s2
              replace s3 := keep_cell hv_ s3
              have lt_q0 := cell_lt q0
              have lt_q1 := cell_lt q1
              have lt_q2 := cell_lt q2
              have lt_q3 := cell_lt q3
              have lt_r0 := cell_lt r0
              have lt_r1 := cell_lt r1
              have lt_r2 := cell_lt r2
              have lt_r3 := cell_lt r3
              have lt_s0 := cell_lt s0
              have lt_s1 := cell_lt s1
              have lt_s2 := cell_lt s2
              have lt_s3 := cell_lt s3
              replace z1 := z1.below hv_
              replace z2 := z2.below hv_
              replace z3 := z3.below hv_
              replace f_z1 := z1.fr
              replace f_z2 := z2.fr
              replace f_z3 := z3.fr
              replace HB := HB.trans (hv_.mono HB.size)
              clear hv_
              go_wp2
              refine bodyPost_ret (v := .tuple #[.agg #[.bool bq, .slice R3 kq c3, .bool false, .slice R4 lq c4], .int .i64 0]) ?_ rfl ?_
              · simp [results, Tryz.results34, go_sem, s0, s1, s2, s3]
              · obtain ⟨j1_, j2_, j3_⟩ := fin_fr m3 m4 HB (by omega) s0 s1 s2 s3 (.bool bq) (.slice R3 kq c3) (.bool false) (.slice R4 lq c4)
                exact GF.r ⟨R3, c3, R4, c4, rfl, j1_, j2_, j3_⟩ IQ.out
          · obtain rfl : na = false := by rw [hna.out]; simp; omega
            have hle := cmp_poss hz (by omega) (by omega)
            have hka : ((ka : Int) == 0) = false := by rw [beq_eq_false_iff_ne]; have : ka ≠ 0 := fun h => (by have := IF.out.num.zero.1 h; omega); omega
            obtain ⟨_, hco, hco2, _, _⟩ := simpl_spec _ f.1.natAbs f.2 g.1.natAbs g.2 (Nat.le_refl _) hfd hgd hle
            have hle2 := simpl_le hfd hgd hle
            have hs : simE f g = ((sg false (simpl f.1.natAbs f.2 g.1.natAbs g.2).1, (simpl f.1.natAbs f.2 g.1.natAbs g.2).2), 0) := by unfold simE; rw [if_neg hz, if_neg hg0, if_neg hf0]; rfl
            obtain ⟨k1, L1, I1⟩ := lz (simpl f.1.natAbs f.2 g.1.natAbs g.2).1
            obtain ⟨k2, L2, I2⟩ := lz (simpl f.1.natAbs f.2 g.1.natAbs g.2).2
            have fx1 := fits_mono hle2.1 ffa
            have fx2 := fits_mono hle2.2 ff2
            have HS := hid fun (w1 : World) (h : Below w.heap.size w w1) => Qsimplest_g _ f.1.natAbs f.2 g.1.natAbs g.2 (Nat.le_refl _) hfd hgd (by omega) hle ffa ff2 fga fg2 (w := w1) IF.out.n IF.out.d IG.out.n IG.out.d (ma.below h) (mb.below h) (mc.below h) (md.below h) I1.out I2.out
            rw [hs]
            generalize hX : simpl f.1.natAbs f.2 g.1.natAbs g.2 = X at *
            have hlo := lowE_x false hco2 fx1 fx2
            obtain ⟨bq, kq, Xq, lq, Yq, IQ⟩ := fz (sg false X.1, X.2)
            have HM := hid fun (w1 : World) (R Q : Option Addr) (c d : Nat) (m1 : Mg w1 R c L1) (m2 : Mg w1 Q d L2) => Qmade_g (w := w1) I1.out I2.out m1 m2 (by have := fitsL I1.out fx1; omega) (by have := fitsL I2.out fx2; omega) (by omega) IQ.out hlo
            generalize (sg false X.1, X.2) = p at *
            generalize cmpF f g = z at *
            clear hs ff1 ff2 fg1 fg2 ffa fga hfd hgd hna hnc IF IG NF NG p5 p6 p11 p12 ma mb mc md hf0 hg0 hle hle2 hco hco2 I1 I2 fx1 fx2 hX hlo
            go_enter Tryz.func34, Tryz.ntmps34
            go_wp2_with fail
            refine enterFFF (P := fun u => Calls _ _ _ u _) ?_
            intro u HB q0 q1 q2 q3 r0 r1 r2 r3 s0 s1 s2 s3 z1 z2 z3 hsz
            clear hsz
            have f_z1 := z1.fr
            have f_z2 := z2.fr
            have f_z3 := z3.fr
            have lt_q0 := cell_lt q0
            have lt_r0 := cell_lt r0
            have lt_s0 := cell_lt s0
            refine (HX.out _ HB).mono ?_
            rintro e w1 ⟨rfl, h1⟩
            have hv_ : Below u.heap.size u w1 := Below.trans (b := _) (by repeat (first | assumption | exact Below.refl _ _ | refine Below.alloc ?_ (by simp; try omega) _ | refine Below.drew ?_ | refine below_drewN ?_ _)) (h1.mono (by simp; try omega))
            replace q0 := keep_cell hv_ q0
            replace q1 := keep_cell hv_ q1
            replace q2 := keep_cell hv_ q2
            replace q3 := keep_cell hv_ q3
            replace r0 := keep_cell hv_ r0
            replace r1 := keep_cell hv_ r1
            replace r2 := keep_cell hv_ r2
            replace r3 := keep_cell hv_ r3
            replace s0 := keep_cell hv_ s0
            replace s1 := keep_cell hv_ s1
            replace s2 := keep_cell hv_ s2
            replace s3 := keep_cell hv_ s3
            have lt_q0 := cell_lt q0
            have lt_q1 := cell_lt q1
            have lt_q2 := cell_lt q2
            have lt_q3 := cell_lt q3
            have lt_r0 := cell_lt r0
            have lt_r1 := cell_lt r1
            have lt_r2 := cell_lt r2
            have lt_r3 := cell_lt r3
            have lt_s0 := cell_lt s0
            have lt_s1 := cell_lt s1
            have lt_s2 := cell_lt s2
            have lt_s3 := cell_lt s3
            replace z1 := z1.below hv_
            replace z2 := z2.below hv_
            replace z3 := z3.below hv_
            replace f_z1 := z1.fr
            replace f_z2 := z2.fr
            replace f_z3 := z3.fr
            replace HB := HB.trans (hv_.mono HB.size)
            clear hv_
            go_wp2_with fail
            refine (HY.out _ HB).mono ?_
            rintro e w2 ⟨rfl, h2⟩
            have hv_ : Below w1.heap.size w1 w2 := Below.trans (b := _) (by repeat (first | assumption | exact Below.refl _ _ | refine Below.alloc ?_ (by simp; try omega) _ | refine Below.drew ?_ | refine below_drewN ?_ _)) (h2.mono (by simp; try omega))
            replace q0 := keep_cell hv_ q0
            replace q1 := keep_cell hv_ q1
            replace q2 := keep_cell hv_ q2
            replace q3 := keep_cell hv_ q3
            replace r0 := keep_cell hv_ r0
            replace r1 := keep_cell hv_ r1
            replace r2 := keep_cell hv_ r2
            replace r3 := keep_cell hv_ r3
            replace s0 := keep_cell hv_ s0
            replace s1 := keep_cell hv_ s1
            replace s2 := keep_cell hv_ s2
            replace s3 := keep_cell hv_ s3
            have lt_q0 := cell_lt q0
            have lt_q1 := cell_lt q1
            have lt_q2 := cell_lt q2
            have lt_q3 := cell_lt q3
            have lt_r0 := cell_lt r0
            have lt_r1 := cell_lt r1
            have lt_r2 := cell_lt r2
            have lt_r3 := cell_lt r3
            have lt_s0 := cell_lt s0
            have lt_s1 := cell_lt s1
            have lt_s2 := cell_lt s2
            have lt_s3 := cell_lt s3
            replace z1 := z1.below hv_
            replace z2 := z2.below hv_
            replace z3 := z3.below hv_
            replace f_z1 := z1.fr
            replace f_z2 := z2.fr
            replace f_z3 := z3.fr
            replace HB := HB.trans (hv_.mono HB.size)
            clear hv_
            go_wp2_with fail
            refine (HC.out _ HB).mono ?_
            rintro e w3 ⟨rfl, h3⟩
            have hv_ : Below w2.heap.size w2 w3 := Below.trans (b := _) (by repeat (first | assumption | exact Below.refl _ _ | refine Below.alloc ?_ (by simp; try omega) _ | refine Below.drew ?_ | refine below_drewN ?_ _)) (h3.mono (by simp; try omega))
            replace q0 := keep_cell hv_ q0
            replace q1 := keep_cell hv_ q1
            replace q2 := keep_cell hv_ q2
            replace q3 := keep_cell hv_ q3
            replace r0 := keep_cell hv_ r0
            replace r1 := keep_cell hv_ r1
            replace r2 := keep_cell hv_ r2
            replace r3 := keep_cell hv_ r3
            replace s0 := keep_cell hv_ s0
            replace s1 := keep_cell hv_ s1
            replace s2 := keep_cell hv_ s2
            replace s3 := keep_cell hv_ s3
            have lt_q0 := cell_lt q0
            have lt_q1 := cell_lt q1
            have lt_q2 := cell_lt q2
            have lt_q3 := cell_lt q3
            have lt_r0 := cell_lt r0
            have lt_r1 := cell_lt r1
            have lt_r2 := cell_lt r2
            have lt_r3 := cell_lt r3
            have lt_s0 := cell_lt s0
            have lt_s1 := cell_lt s1
            have lt_s2 := cell_lt s2
            have lt_s3 := cell_lt s3
            replace z1 := z1.below hv_
            replace z2 := z2.below hv_
            replace z3 := z3.below hv_
            replace f_z1 := z1.fr
            replace f_z2 := z2.fr
            replace f_z3 := z3.fr
            replace HB := HB.trans (hv_.mono HB.size)
            clear hv_
            go_wp2_with fail
            refine (HS.out _ HB).mono ?_
            rintro e w4 ⟨R1, c1, R2, c2, rfl, m1, m2, h4⟩
            have hv_ : Below w3.heap.size w3 w4 := Below.trans (b := _) (by repeat (first | assumption | exact Below.refl _ _ | refine Below.alloc ?_ (by simp; try omega) _ | refine Below.drew ?_ | refine below_drewN ?_ _)) (h4.mono (by simp; try omega))
            replace q0 := keep_cell hv_ q0
            replace q1 := keep_cell hv_ q1
            replace q2 := keep_cell hv_ q2
            replace q3 := keep_cell hv_ q3
            replace r0 := keep_cell hv_ r0
            replace r1 := keep_cell hv_ r1
            replace r2 := keep_cell hv_ r2
            replace r3 := keep_cell hv_ r3
            replace s0 := keep_cell hv_ s0
            replace s1 := keep_cell hv_ s1
            replace s2 := keep_cell hv_ s2
            replace s3 := keep_cell hv_ s3
            have lt_q0 := cell_lt q0
            have lt_q1 := cell_lt q1
            have lt_q2 := cell_lt q2
            have lt_q3 := cell_lt q3
            have lt_r0 := cell_lt r0
            have lt_r1 := cell_lt r1
            have lt_r2 := cell_lt r2
            have lt_r3 := cell_lt r3
            have lt_s0 := cell_lt s0
            have lt_s1 := cell_lt s1
            have lt_s2 := cell_lt s2
            have lt_s3 := cell_lt s3
            replace z1 := z1.below hv_
            replace z2 := z2.below hv_
            replace z3 := z3.below hv_
            replace f_z1 := z1.fr
            replace f_z2 := z2.fr
            replace f_z3 := z3.fr
            replace HB := HB.trans (hv_.mono HB.size)
            clear hv_
            go_wp2_with fail
            refine (HM.out _ _ _ _ _ m1 m2).mono ?_
            rintro e w5 ⟨R3, c3, R4, c4, rfl, m3, m4, h5⟩
            have hv_ : Below w4.heap.size w4 w5 := Below.trans (b := _) (by repeat (first | assumption | exact Below.refl _ _ | refine Below.alloc ?_ (by simp; try omega) _ | refine Below.drew ?_ | refine below_drewN ?_ _)) (h5.mono (by simp; try omega))
            replace q0 := keep_cell hv_ q0
            replace q1 := keep_cell hv_ q1
            replace q2 := keep_cell hv_ q2
            replace q3 := keep_cell hv_ q3
            replace r0 := keep_cell hv_ r0
            replace r1 := keep_cell hv_ r1
            replace r2 := keep_cell hv_ r2
            replace r3 := keep_cell hv_ r3
            replace s0 := keep_cell hv_ s0
            replace s1 := keep_cell hv_ s1
            replace s2 := keep_cell hv_ s2
            replace s3 := keep_cell hv_ s3
            have lt_q0 := cell_lt q0
            have lt_q1 := cell_lt q1
            have lt_q2 := cell_lt q2
            have lt_q3 := cell_lt q3
            have lt_r0 := cell_lt r0
            have lt_r1 := cell_lt r1
            have lt_r2 := cell_lt r2
            have lt_r3 := cell_lt r3
            have lt_s0 := cell_lt s0
            have lt_s1 := cell_lt s1
            have lt_s2 := cell_lt s2
            have lt_s3 := cell_lt s3
            replace z1 := z1.below hv_
            replace z2 := z2.below hv_
            replace z3 := z3.below hv_
            replace f_z1 := z1.fr
            replace f_z2 := z2.fr
            replace f_z3 := z3.fr
            replace HB := HB.trans (hv_.mono HB.size)
            clear hv_
            go_wp2
            refine bodyPost_ret (v := .tuple #[.agg #[.bool bq, .slice R3 kq c3, .bool false, .slice R4 lq c4], .int .i64 0]) ?_ rfl ?_
            · simp [results, Tryz.results34, go_sem, s0, s1, s2, s3]
            · obtain ⟨j1_, j2_, j3_⟩ := fin_fr m3 m4 HB (by omega) s0 s1 s2 s3 (.bool bq) (.slice R3 kq c3) (.bool false) (.slice R4 lq c4)
              exact GF.r ⟨R3, c3, R4, c4, rfl, j1_, j2_, j3_⟩ IQ.out
end Go.Proofs.YtfhbigfbeppinaaGreatDoor
