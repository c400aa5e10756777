/- The reference: walks of Sub, GCD. Conditions: none. -/
import Derived.Test.YtdkgbkbbbldliaaGreatZYM
import Derived.Test.YtdkgbkbbbldliaaGreatZYE
import Derived.Test.YtdkgbkbbbldliaaGreatZNtA
import Derived.Test.YtdkgbkbbbldliaaGreatZYA
import Derived.Shelf.Strings.Cut
import Derived.Test.YtdkgbkbbbldliaaGreatZYI
set_option linter.unusedVariables false
set_option linter.unusedSimpArgs false
namespace Go.Proofs.YtdkgbkbbbldliaaGreat
open Go.RowKit Big
theorem fits_neg' {z : Int} (h : fits z) : fits (-z) := by unfold fits at *; rwa [Int.natAbs_neg]
set_option maxHeartbeats 1000000 in
theorem RSub_ok (x y : Int) (A B : Option Addr) (c d : Nat) (w : World) (ha : Mg w A c (limbs x.natAbs)) (hb : Mg w B d (limbs y.natAbs)) (fx : fits x) (fy : fits y) :
  Calls Tryz.prog 117 #[.agg #[.bool (decide ((x) < 0)), .slice A (limbs (Int.natAbs (x))).length c], .agg #[.bool (decide ((y) < 0)), .slice B (limbs (Int.natAbs (y))).length d]] w (RetF w (x - y)) := by
 rw [Int.sub_eq_add_neg]
 have fz := fits_neg' fy
 obtain ⟨z, hz⟩ : ∃ z, -y = z := ⟨_, rfl⟩
 rw [hz] at fz ⊢
 have HY := hid fun (w1 : World) (h : Below w.heap.size w w1) => Qu (hb.below h) fy
 have HM := hid fun (w1 : World) (h : Below w.heap.size w w1) => by have h2 := RNeg_ok y B d w1 (hb.below h) fy; rw [hz] at h2; exact h2
 have HS := hid fun (w1 : World) (A1 : Option Addr) (c1 : Nat) (h : Below w.heap.size w w1) (h' : Mg w1 A1 c1 (limbs z.natAbs)) => RAdd_ok x z A A1 c c1 w1 (ha.below h) h' fx fz
 clear ha hb fx fy fz hz
 generalize hbx : decide (x < 0) = bx at *
 generalize hby : decide (y < 0) = by_ at *
 generalize hlx : (limbs x.natAbs).length = lx at *
 generalize hly : (limbs y.natAbs).length = ly at *
 clear hbx hby hlx hly
 go_enter Tryz.func117, Tryz.ntmps117
 go_wp2_with fail
 refine (HY.out _ BL).mono ?_
 rintro e w2 ⟨rfl, h12⟩
 obtain ⟨q1, q2, q3, q4, q5, q6, q7⟩ := Kr h12
 have b2 : Below w.heap.size w w2 := Below.trans (b := _) BL (h12.mono (by simp; omega))
 go_wp2_with fail
 have b2d := b2.drew
 have h12d := h12.drew
 go_region_held3 (fun w' => w'.cell? ⟨w.heap.size, 0, none⟩ = some (.bool bx) ∧ w'.cell? ⟨w.heap.size, 1, none⟩ = some (.slice A lx c) ∧ w'.cell? ⟨w.heap.size + 1, 0, none⟩ = some (.bool by_) ∧ w'.cell? ⟨w.heap.size + 1, 1, none⟩ = some (.slice B ly d)) (first | exact ⟨(q1 0).trans rfl, (q1 1).trans rfl, (q3 0).trans rfl, (q3 1).trans rfl⟩ | exact ⟨(u1 0).trans rfl, (u1 1).trans rfl, (u3 0).trans rfl, (u3 1).trans rfl⟩ | exact ⟨(r1 0).trans rfl, (r1 1).trans rfl, (r3 0).trans rfl, (r3 1).trans rfl⟩ | (refine ⟨?_, ?_, ?_, ?_⟩ <;> (repeat rw [Qc (by omega)]) <;> first | exact (r1 0).trans rfl | exact (r1 1).trans rfl | exact (r3 0).trans rfl | exact (r3 1).trans rfl)) (first | (go_at_call 146; refine (HM.out _ b2d).mono ?_; rintro e w3' ⟨R', cc', rfl, hr', h3'⟩; have h13' := h12d.trans (h3'.mono h12d.size); obtain ⟨u1, u2, u3, u4, u5, u6, u7⟩ := Kr h13') | (go_at_call 102; refine (HS.out _ _ _ (b2d.trans (h3'.mono b2d.size)) hr').mono ?_; rintro e w3 ⟨R, cc, rfl, hr, h3''⟩; have h3 := h3'.trans (h3''.mono h3'.size); have h13 := h12d.trans (h3.mono h12d.size); obtain ⟨r1, r2, r3, r4, r5, r6, r7⟩ := Kr h13))
 have b3 := b2d.trans (h3.mono b2d.size)
 have k0 := r5 0
 have k1 := r5 1
 simp at k0 k1
 go_wp2
 refine bodyPost_ret (v := .tuple #[.agg #[.bool (decide (((fitE (x + z)).1) < 0)), .slice R (limbs (Int.natAbs ((fitE (x + z)).1))).length cc], .int .i64 (fitE (x + z)).2]) ?_ rfl ?_
 ·simp [results, Tryz.results117, go_sem, k0, k1]
 ·exact Xa hr b3 (by omega) k0 k1 _ _
theorem two_pow_B (k : Nat) : (4294967296 : Nat) ^ k = 2 ^ (32 * k) := by rw [show (4294967296 : Nat) = 2 ^ 32 by decide, ← Nat.pow_mul]
theorem twos_le {g t G K : Nat} (hg : 0 < g) (h : g * 2 ^ t = G) (hG : (limbs G).length ≤ K) : t < 32 * K := by
 have h1 := (K1 G K).1 hG
 rw [two_pow_B, ← h] at h1
 have h2 : 2 ^ t ≤ g * 2 ^ t := Nat.le_mul_of_pos_left _ hg
 exact (Nat.pow_lt_pow_iff_right (by decide)).1 (Nat.lt_of_le_of_lt h2 h1)
theorem limb0 {a : Nat} (h : a ≠ 0) (hl : 0 < (limbs a).length) : (limbs a)[0] % 2 = a % 2 := by
 have : (limbs a)[0] = a % 4294967296 := by simp only [Jk h, List.getElem_cons_zero]
 omega
theorem gA {a b t G : Nat} (h : Nat.gcd a b * 2 ^ t = G) (ha : a % 2 = 0) (hb : b % 2 = 0) : Nat.gcd (a / 2) (b / 2) * 2 ^ (t + 1) = G := by
 have e := gcd_both (a / 2) (b / 2)
 rw [show 2 * (a / 2) = a by omega, show 2 * (b / 2) = b by omega] at e
 rw [← h, e, Nat.pow_succ, Nat.mul_comm 2 (Nat.gcd _ _), Nat.mul_assoc, Nat.mul_comm 2]
theorem gB {a b t G : Nat} (h : Nat.gcd a b * 2 ^ t = G) (ha : a % 2 = 0) (hb : b % 2 = 1) : Nat.gcd (a / 2) b * 2 ^ t = G := by
 have e := Dc (a := a / 2) hb
 rw [show 2 * (a / 2) = a by omega] at e
 rw [← h, e]
theorem gC {a b t G : Nat} (h : Nat.gcd a b * 2 ^ t = G) (ha : a % 2 = 1) (hb : b % 2 = 0) : Nat.gcd a (b / 2) * 2 ^ t = G := by
 have e := gcd_right (b := b / 2) ha
 rw [show 2 * (b / 2) = b by omega] at e
 rw [← h, e]
theorem dbl (H i : Nat) : H * 2 ^ i + H * 2 ^ i = H * 2 ^ (i + 1) := by rw [Nat.pow_succ, ← Nat.mul_assoc]; omega
set_option maxHeartbeats 2000000 in
theorem RGCD_ok (x y : Int) (A B : Option Addr) (c d : Nat) (w : World) (ha : Mg w A c (limbs x.natAbs)) (hb : Mg w B d (limbs y.natAbs)) (fx : fits x) (fy : fits y) :
  Calls Tryz.prog 118 #[.agg #[.bool (decide ((x) < 0)), .slice A (limbs (Int.natAbs (x))).length c], .agg #[.bool (decide ((y) < 0)), .slice B (limbs (Int.natAbs (y))).length d]] w (X6 w (Nat.gcd x.natAbs y.natAbs : Nat) 0) := by
 have HX := hid fun (w1 : World) (h : Below w.heap.size w w1) => Qu (ha.below h) fx
 have HY := hid fun (w1 : World) (h : Below w.heap.size w w1) => Qu (hb.below h) fy
 have HG := hid (show (limbs (Nat.gcd x.natAbs y.natAbs)).length ≤ 512 by
  rcases Nat.eq_zero_or_pos x.natAbs with h | h
  ·rw [h, Nat.gcd_zero_left]; exact fy
  ·exact Nat.le_trans (Kv (Nat.le_of_dvd h (Nat.gcd_dvd_left _ _))) fx)
 have HH2 := hid fun (w1 : World) (R : Option Addr) (cc a : Nat) (h : Mg w1 R cc (limbs a)) (hl : (limbs a).length ≤ 512) => Rhalf_n R cc a w1 h (by omega)
 have HM := hid fun (w1 : World) (R Q : Option Addr) (cc dd a b : Nat) (h : Mg w1 R cc (limbs a)) (h' : Mg w1 Q dd (limbs b)) (hl : (limbs a).length ≤ 512) (hl' : (limbs b).length ≤ 512) (hle : b ≤ a) => V3 R Q cc dd a b w1 h h' (by omega) (by omega) hle
 have HO := hid fun (w1 : World) (R Q : Option Addr) (cc dd a b : Nat) (h : Mg w1 R cc (limbs a)) (h' : Mg w1 Q dd (limbs b)) (hl : (limbs a).length ≤ 512) (hl' : (limbs b).length ≤ 512) => Rorder_n R Q cc dd a b w1 h h' (by omega) (by omega)
 have HP := hid fun (w1 : World) (R Q : Option Addr) (cc dd a b : Nat) (h : Mg w1 R cc (limbs a)) (h' : Mg w1 Q dd (limbs b)) (hl : (limbs a).length ≤ 512) (hl' : (limbs b).length ≤ 512) => Rplus_n R Q cc dd a b w1 h h' (by omega) (by omega)
 have HS := hid fun (w1 : World) (A1 : Option Addr) (c1 n : Nat) (h : Mg w1 A1 c1 (limbs n)) (hl : (limbs n).length ≤ 512) => by have h2 := Zg A1 c1 n w1 h (by omega) false; rw [show sg false n = ((n : Nat) : Int) by simp [sg]] at h2; exact h2
 have mX := fun (w1 : World) (h : Below w.heap.size w w1) => ha.below h
 have mY := fun (w1 : World) (h : Below w.heap.size w w1) => hb.below h
 have MX := hid mX
 have MY := hid mY
 clear mX mY
 have lX : (limbs x.natAbs).length ≤ 512 := fx
 have lY : (limbs y.natAbs).length ≤ 512 := fy
 clear ha hb fx fy
 generalize hbx : decide (x < 0) = bx at *
 generalize hby : decide (y < 0) = by_ at *
 generalize x.natAbs = n at *
 generalize y.natAbs = m at *
 clear hbx hby
 obtain ⟨G, hG⟩ : ∃ G, Nat.gcd n m = G := ⟨_, rfl⟩
 rw [hG] at HG ⊢
 have hG := hid hG
 go_enter Tryz.func118, Tryz.ntmps118
 go_wp2_with fail
 refine (HX.out _ BL).mono ?_
 rintro e w1 ⟨rfl, h1⟩
 obtain ⟨p1, p2, p3, p4, p5, p6, p7⟩ := Kr h1
 have b1 : Below w.heap.size w w1 := Below.trans (b := _) BL (h1.mono (by simp; omega))
 go_wp2_with fail
 refine (HY.out _ b1).mono ?_
 rintro e w2 ⟨rfl, h2⟩
 have h12 := h1.trans (h2.mono h1.size)
 obtain ⟨q1, q2, q3, q4, q5, q6, q7⟩ := Kr h12
 have b2 := b1.trans (h2.mono b1.size)
 clear p1 p2 p3 p4 p5 p6 p7
 go_wp2_with fail
 go_loopg [6, 7, 8] (n + m) (fun g s6 s7 s8 wr => ∃ (a b t : Nat) (R Q : Option Addr) (cc dd : Nat), s6 = .slice R (limbs a).length cc ∧ s7 = .slice Q (limbs b).length dd ∧ s8 = .int .i64 t ∧ Mg wr R cc (limbs a) ∧ Mg wr Q dd (limbs b) ∧ (limbs a).length ≤ 512 ∧ (limbs b).length ≤ 512 ∧ t ≤ 16384 ∧ Below w2.heap.size w2 wr ∧ Hid (g = a + b) ∧ Hid (Nat.gcd a b * 2 ^ t = G))
 case atStart => exact ⟨n, m, 0, A, B, c, d, rfl, rfl, rfl, MX.out _ b2, MY.out _ b2, lX, lY, by omega, Below.refl _ _, rfl, by unfold Hid; rw [hG.out]; simp⟩
 case round =>
  clear lX lY MX MY HX HY
  obtain ⟨a, b, t, R, Q, cc, dd, rfl, rfl, rfl, hr, hq, la, lb_, ht, hbl, hg, hgc⟩ := hrel
  have hsz := hbl.size
  by_cases ha0 : a = 0
  ·have hab : Nat.gcd a b = a + b := by rw [ha0]; simp
   have e0 : ((limbs a).length : Int) = 0 := by rw [ha0]; simp [Ko]
   clear HH2 HM HO ha0
   have hz0 := hbl.size
   obtain ⟨H, hHe⟩ : ∃ H, a + b = H := ⟨_, rfl⟩
   have hH : Hid (H * 2 ^ t = G) := by unfold Hid; rw [← hHe, ← hab]; exact hgc.out
   have HP1 := HP.out _ _ _ _ _ _ _ hr hq la lb_
   rw [hHe] at HP1
   have HP1 := hid HP1
   clear hgc hab hg hr hq hHe
   go_wp2_with fail
   refine (HP1.out).mono ?_
   rintro e w3 ⟨R3, c3, rfl, hr3, h3⟩
   have hbl3 := hbl.trans (h3.mono hbl.size)
   clear HP1
   have hHl := hid fun (i : Nat) (hi : i ≤ t) => (show (limbs (H * 2 ^ i)).length ≤ 512 from Nat.le_trans (Kv (by rw [← hH.out]; exact Nat.mul_le_mul_left _ (Nat.pow_le_pow_right (by omega) hi))) HG.out)
   have e0 := hid (show H * 2 ^ 0 = H by simp)
   go_wp2_with fail
   go_loopw [9, 10] (fun s9 s10 wq => ∃ (i : Nat) (R : Option Addr) (cc : Nat), s9 = .slice R (limbs (H * 2 ^ i)).length cc ∧ s10 = .int .i64 i ∧ i ≤ t ∧ Mg wq R cc (limbs (H * 2 ^ i)) ∧ Below w2.heap.size w2 wq) (fun _ s10 _ => t - (intOf s10).toNat)
   case atStart => exact ⟨0, R3, c3, by rw [e0.out], rfl, by omega, by rw [e0.out]; exact hr3, hbl3⟩
   case round =>
    clear hr3 h3 hbl3 hbl hsz hz0
    obtain ⟨i, R5, c5, rfl, rfl, hi, hr5, hbl5⟩ := hrel
    by_cases hit : i < t
    ·have hl5 := hHl.out i hi
     have HPi := hid (HP.out _ _ _ _ _ _ _ hr5 hr5 hl5 hl5)
     rw [dbl] at HPi
     go_wp2_with fail
     refine (HPi.out).mono ?_
     rintro e w6 ⟨R6, c6, rfl, hr6, h6⟩
     go_wp2_with fail
     go_roundw
     case rel => exact ⟨i + 1, R6, c6, rfl, by go_num, by omega, hr6, hbl5.trans (h6.mono hbl5.size)⟩
     case measure => simp [intOf]; omega
    ·obtain rfl : i = t := by omega
     have hl5 := hHl.out i hi
     rw [hH.out] at hr5 hl5 ⊢
     go_wp2_with fail
     refine (HS.out _ _ _ _ hr5 hl5).mono ?_
     rintro e w3 ⟨R, cc, rfl, hr, h36⟩
     have h3 := hbl5.trans (h36.mono hbl5.size)
     have h13 := h12.trans (h3.mono h12.size)
     obtain ⟨r1, r2, r3, r4, r5, r6, r7⟩ := Kr h13
     have b3 := b2.trans (h3.mono b2.size)
     have k0 := r5 0
     have k1 := r5 1
     simp at k0 k1
     go_wp2
     refine bodyPost_ret (v := .tuple #[.agg #[.bool (decide ((((G : Nat) : Int)) < 0)), .slice R (limbs (Int.natAbs (((G : Nat) : Int)))).length cc], .int .i64 0]) ?_ rfl ?_
     ·simp [results, Tryz.results118, go_sem, k0, k1]
     ·exact Xa hr b3 (by omega) k0 k1 _ _
  ·have hla : 0 < (limbs a).length := by rw [Jk ha0]; simp
   by_cases hb0 : b = 0
   ·have hab : Nat.gcd a b = a + b := by rw [hb0]; simp
    have e0 : ((limbs b).length : Int) = 0 := by rw [hb0]; simp [Ko]
    clear HH2 HM HO ha0 hb0
    have hz0 := hbl.size
    obtain ⟨H, hHe⟩ : ∃ H, a + b = H := ⟨_, rfl⟩
    have hH : Hid (H * 2 ^ t = G) := by unfold Hid; rw [← hHe, ← hab]; exact hgc.out
    have HP1 := HP.out _ _ _ _ _ _ _ hr hq la lb_
    rw [hHe] at HP1
    have HP1 := hid HP1
    clear hgc hab hg hr hq hHe
    go_wp2_with fail
    refine (HP1.out).mono ?_
    rintro e w3 ⟨R3, c3, rfl, hr3, h3⟩
    have hbl3 := hbl.trans (h3.mono hbl.size)
    clear HP1
    have hHl := hid fun (i : Nat) (hi : i ≤ t) => (show (limbs (H * 2 ^ i)).length ≤ 512 from Nat.le_trans (Kv (by rw [← hH.out]; exact Nat.mul_le_mul_left _ (Nat.pow_le_pow_right (by omega) hi))) HG.out)
    have e0 := hid (show H * 2 ^ 0 = H by simp)
    go_wp2_with fail
    go_loopw [9, 10] (fun s9 s10 wq => ∃ (i : Nat) (R : Option Addr) (cc : Nat), s9 = .slice R (limbs (H * 2 ^ i)).length cc ∧ s10 = .int .i64 i ∧ i ≤ t ∧ Mg wq R cc (limbs (H * 2 ^ i)) ∧ Below w2.heap.size w2 wq) (fun _ s10 _ => t - (intOf s10).toNat)
    case atStart => exact ⟨0, R3, c3, by rw [e0.out], rfl, by omega, by rw [e0.out]; exact hr3, hbl3⟩
    case round =>
     clear hr3 h3 hbl3 hbl hsz hz0
     obtain ⟨i, R5, c5, rfl, rfl, hi, hr5, hbl5⟩ := hrel
     by_cases hit : i < t
     ·have hl5 := hHl.out i hi
      have HPi := hid (HP.out _ _ _ _ _ _ _ hr5 hr5 hl5 hl5)
      rw [dbl] at HPi
      go_wp2_with fail
      refine (HPi.out).mono ?_
      rintro e w6 ⟨R6, c6, rfl, hr6, h6⟩
      go_wp2_with fail
      go_roundw
      case rel => exact ⟨i + 1, R6, c6, rfl, by go_num, by omega, hr6, hbl5.trans (h6.mono hbl5.size)⟩
      case measure => simp [intOf]; omega
     ·obtain rfl : i = t := by omega
      have hl5 := hHl.out i hi
      rw [hH.out] at hr5 hl5 ⊢
      go_wp2_with fail
      refine (HS.out _ _ _ _ hr5 hl5).mono ?_
      rintro e w3 ⟨R, cc, rfl, hr, h36⟩
      have h3 := hbl5.trans (h36.mono hbl5.size)
      have h13 := h12.trans (h3.mono h12.size)
      obtain ⟨r1, r2, r3, r4, r5, r6, r7⟩ := Kr h13
      have b3 := b2.trans (h3.mono b2.size)
      have k0 := r5 0
      have k1 := r5 1
      simp at k0 k1
      go_wp2
      refine bodyPost_ret (v := .tuple #[.agg #[.bool (decide ((((G : Nat) : Int)) < 0)), .slice R (limbs (Int.natAbs (((G : Nat) : Int)))).length cc], .int .i64 0]) ?_ rfl ?_
      ·simp [results, Tryz.results118, go_sem, k0, k1]
      ·exact Xa hr b3 (by omega) k0 k1 _ _
   ·have hlb : 0 < (limbs b).length := by rw [Jk hb0]; simp
    have hsx := hr
    have hsy := hq
    obtain ⟨ba, oa, rfl, hba, hca⟩ := hr.rd.at_ hla
    obtain ⟨bb, ob, rfl, hbb, hcb⟩ := hq.rd.at_ hlb
    have c1 : wr.cell? ⟨ba, oa, none⟩ = some (lim (limbs a)[0]) := hca 0 hla
    have c2 : wr.cell? ⟨bb, ob, none⟩ = some (lim (limbs b)[0]) := hcb 0 hlb
    have pa := limb0 ha0 hla
    have pb := limb0 hb0 hlb
    unfold lim at c1 c2
    clear hca hcb
    generalize (limbs a)[0] = p at *
    generalize (limbs b)[0] = q at *
    have hgp : 0 < Nat.gcd a b := Nat.gcd_pos_of_pos_left _ (by omega)
    rcases Nat.mod_two_eq_zero_or_one a with hpa | hpa
    ·have ta : ((p : Int) % 2 == 0) = true := by rw [beq_iff_eq]; omega
     rcases Nat.mod_two_eq_zero_or_one b with hpb | hpb
     ·have tb : ((q : Int) % 2 == 0) = true := by rw [beq_iff_eq]; omega
      have HN := hid (gA hgc.out hpa hpb)
      have ht1 := twos_le (Nat.gcd_pos_of_pos_left _ (by omega)) HN.out HG.out
      have hgg := hid (show a / 2 + b / 2 < a + b by omega)
      have l3 := Nat.le_trans (Kv (Nat.div_le_self a 2)) la
      have l4 := Nat.le_trans (Kv (Nat.div_le_self b 2)) lb_
      have HC1 := hid (HH2.out _ _ _ _ hr la)
      have HC2 := hid fun w1 h => HH2.out w1 _ _ _ (hq.below h) lb_
      clear hgc HH2 HM HO HP HS hgp
      generalize a / 2 = a2 at *
      generalize b / 2 = b2_ at *
      go_wp2_with fail
      refine (HC1.out).mono ?_
      rintro e w3 ⟨R3, c3, rfl, hr3, h3⟩
      go_wp2_with fail
      refine (HC2.out _ h3).mono ?_
      rintro e w4 ⟨R4, c4, rfl, hr4, h4⟩
      go_wp2_with fail
      go_roundg (a2 + b2_)
      case rel => exact ⟨a2, b2_, t + 1, R3, R4, c3, c4, rfl, rfl, by first | rfl | go_num, hr3.below h4, hr4, l3, l4, by omega, hbl.trans ((h3.trans (h4.mono h3.size)).mono hsz), rfl, HN⟩
      case measure => rw [hg.out]; exact hgg.out
     ·have tb : ((q : Int) % 2 == 0) = false := by rw [beq_eq_false_iff_ne]; omega
      have HN := hid (gB hgc.out hpa hpb)
      have hgg := hid (show a / 2 + b < a + b by omega)
      have l3 := Nat.le_trans (Kv (Nat.div_le_self a 2)) la
      have HC1 := hid (HH2.out _ _ _ _ hr la)
      clear hgc HH2 HM HO HP HS hgp
      generalize a / 2 = a2 at *
      go_wp2_with fail
      refine (HC1.out).mono ?_
      rintro e w3 ⟨R3, c3, rfl, hr3, h3⟩
      go_wp2_with fail
      go_roundg (a2 + b)
      case rel => exact ⟨a2, b, t, R3, _, c3, dd, rfl, rfl, by first | rfl | go_num, hr3, hq.below h3, l3, lb_, ht, hbl.trans (h3.mono hsz), rfl, HN⟩
      case measure => rw [hg.out]; exact hgg.out
    ·have ta : ((p : Int) % 2 == 0) = false := by rw [beq_eq_false_iff_ne]; omega
     rcases Nat.mod_two_eq_zero_or_one b with hpb | hpb
     ·have tb : ((q : Int) % 2 == 0) = true := by rw [beq_iff_eq]; omega
      have HN := hid (gC hgc.out hpa hpb)
      have hgg := hid (show a + b / 2 < a + b by omega)
      have l3 := Nat.le_trans (Kv (Nat.div_le_self b 2)) lb_
      have HC1 := hid (HH2.out _ _ _ _ hq lb_)
      clear hgc HH2 HM HO HP HS hgp
      generalize b / 2 = b2_ at *
      go_wp2_with fail
      refine (HC1.out).mono ?_
      rintro e w3 ⟨R3, c3, rfl, hr3, h3⟩
      go_wp2_with fail
      go_roundg (a + b2_)
      case rel => exact ⟨a, b2_, t, _, R3, cc, c3, rfl, rfl, by first | rfl | go_num, hr.below h3, hr3, la, l3, ht, hbl.trans (h3.mono hsz), rfl, HN⟩
      case measure => rw [hg.out]; exact hgg.out
     ·have tb : ((q : Int) % 2 == 0) = false := by rw [beq_eq_false_iff_ne]; omega
      have HO1 := hid (HO.out _ _ _ _ _ _ _ hr hq la lb_)
      by_cases hle : b ≤ a
      ·have HN := hid (show Nat.gcd (a - b) b * 2 ^ t = G by rw [gcd_sub1 hle]; exact hgc.out)
       have hgg := hid (show a - b + b < a + b by omega)
       have l3 := Nat.le_trans (Kv (Nat.sub_le a b)) la
       have HC1 := hid fun w1 h => HM.out w1 _ _ _ _ _ _ (hr.below h) (hq.below h) la lb_ hle
       have ho : 0 ≤ ord a b := by unfold ord; rw [if_neg (by omega)]; split <;> omega
       clear hgc HH2 HM HO HP HS hgp
       generalize ord a b = ov at *
       generalize a - b = a2 at *
       go_wp2_with fail
       refine (HO1.out).mono ?_
       rintro e w3 ⟨rfl, h3⟩
       go_wp2_with fail
       refine (HC1.out _ h3).mono ?_
       rintro e w4 ⟨R4, c4, rfl, hr4, h4⟩
       go_wp2_with fail
       go_roundg (a2 + b)
       case rel => exact ⟨a2, b, t, R4, _, c4, dd, rfl, rfl, by first | rfl | go_num, hr4, hq.below (h3.trans (h4.mono h3.size)), l3, lb_, ht, hbl.trans ((h3.trans (h4.mono h3.size)).mono hsz), rfl, HN⟩
       case measure => rw [hg.out]; exact hgg.out
      ·have HN := hid (show Nat.gcd a (b - a) * 2 ^ t = G by rw [gcd_sub2 (by omega)]; exact hgc.out)
       have hgg := hid (show a + (b - a) < a + b by omega)
       have l3 := Nat.le_trans (Kv (Nat.sub_le b a)) lb_
       have HC1 := hid fun w1 h => HM.out w1 _ _ _ _ _ _ (hq.below h) (hr.below h) lb_ la (by omega)
       have ho : ord a b = -1 := Xo (by omega)
       rw [ho] at HO1
       clear hgc HH2 HM HO HP HS hgp
       generalize b - a = b2_ at *
       go_wp2_with fail
       refine (HO1.out).mono ?_
       rintro e w3 ⟨rfl, h3⟩
       go_wp2_with fail
       refine (HC1.out _ h3).mono ?_
       rintro e w4 ⟨R4, c4, rfl, hr4, h4⟩
       go_wp2_with fail
       go_roundg (a + b2_)
       case rel => exact ⟨a, b2_, t, _, R4, cc, c4, rfl, rfl, by first | rfl | go_num, hr.below (h3.trans (h4.mono h3.size)), hr4, la, l3, ht, hbl.trans ((h3.trans (h4.mono h3.size)).mono hsz), rfl, HN⟩
       case measure => rw [hg.out]; exact hgg.out
set_option maxRecDepth 100000 in
set_option maxHeartbeats 1000000 in
theorem RDivMod_ok (x y : Int) (A B : Option Addr) (c d : Nat) (w : World) (ha : Mg w A c (limbs x.natAbs)) (hb : Mg w B d (limbs y.natAbs)) (fx : fits x) (fy : fits y) (hy : y ≠ 0) :
  Calls Tryz.prog 103 #[.agg #[.bool (decide ((x) < 0)), .slice A (limbs (Int.natAbs (x))).length c], .agg #[.bool (decide ((y) < 0)), .slice B (limbs (Int.natAbs (y))).length d]] w (RetDM w (dmQ x y) (dmR x y) 0) := by
 have hm : y.natAbs ≠ 0 := by omega
 have lx5 : (limbs x.natAbs).length ≤ 512 := fx
 have ly5 : (limbs y.natAbs).length ≤ 512 := fy
 have HX := hid fun (w1 : World) (h : Below w.heap.size w w1) => Qu (ha.below h) fx
 have HY := hid fun (w1 : World) (h : Below w.heap.size w w1) => Qu (hb.below h) fy
 have HM := hid fun (w1 : World) (h : Below w.heap.size w w1) => Rdivide_n A B c d x.natAbs y.natAbs w1 (ha.below h) (hb.below h) (by omega) (by omega) hm
 have hly0 : 0 < (limbs y.natAbs).length := by rw [Jk hm]; simp
 have hlt := Nat.mod_lt x.natAbs (Nat.pos_of_ne_zero hm)
 have hql : (limbs (x.natAbs / y.natAbs)).length ≤ 512 := Nat.le_trans (Kv (Nat.div_le_self _ _)) lx5
 have hrl : (limbs (x.natAbs % y.natAbs)).length ≤ 512 := Nat.le_trans (Kv (Nat.le_of_lt hlt)) ly5
 have hq1 : (limbs (x.natAbs / y.natAbs + 1)).length ≤ 513 := Nat.le_trans (by have := Xj (n := x.natAbs / y.natAbs) (m := 1) (p := 1) (by omega) (by omega); rwa [Nat.mul_one] at this) (show _ + 1 ≤ 513 by omega)
 by_cases hP : dmP x y
 ·have eq : dmQ x y = sg true (x.natAbs / y.natAbs + 1) := by unfold dmQ; rw [if_pos hP]
  have er : dmR x y = sg (decide (y < 0)) (y.natAbs - x.natAbs % y.natAbs) := by unfold dmR; rw [if_pos hP]
  rw [eq, er]
  obtain ⟨hs, hr0⟩ := hP
  have hr1 : 0 < (limbs (x.natAbs % y.natAbs)).length := by rw [Jk hr0]; simp
  have hsl : (limbs (y.natAbs - x.natAbs % y.natAbs)).length ≤ 512 := Nat.le_trans (Kv (Nat.sub_le _ _)) ly5
  have HSu := hid fun (w1 : World) (h : Below w.heap.size w w1) (A1 : Option Addr) (c1 : Nat) (h1 : Mg w1 A1 c1 (limbs (x.natAbs % y.natAbs))) => V3 B A1 d c1 y.natAbs (x.natAbs % y.natAbs) w1 (hb.below h) h1 (by omega) (by omega) (by omega)
  have HAd := hid fun (w1 : World) (A1 A2 : Option Addr) (c1 c2 : Nat) (h1 : Mg w1 A1 c1 (limbs (x.natAbs / y.natAbs))) (h2 : Mg w1 A2 c2 [1]) => (show Calls Tryz.prog 131 #[.slice A1 (limbs (x.natAbs / y.natAbs)).length c1, .slice A2 1 c2] w1 (RetN w1 (x.natAbs / y.natAbs + 1)) by
   have h3 := Rplus_n A1 A2 c1 c2 (x.natAbs / y.natAbs) 1 w1 h1 (by rw [Q5]; exact h2) (by omega) (by rw [Q5]; decide)
   rw [Q5] at h3
   exact h3)
  have H1 := hid fun (w1 : World) (A1 : Option Addr) (c1 : Nat) (h : Mg w1 A1 c1 (limbs (x.natAbs / y.natAbs + 1))) => Zg A1 c1 _ w1 h (by omega) true
  have H2 := hid fun (w1 : World) (A1 : Option Addr) (c1 : Nat) (h : Mg w1 A1 c1 (limbs (y.natAbs - x.natAbs % y.natAbs))) => Zg A1 c1 _ w1 h (by omega) (decide (y < 0))
  generalize x.natAbs / y.natAbs = Qn at *
  generalize x.natAbs % y.natAbs = Rn at *
  generalize y.natAbs - Rn = Sn at *
  have hse : (decide (x < 0) == decide (y < 0)) = false := by simp [hs]
  have hrz : (((limbs Rn).length : Int) == 0) = false := by rw [beq_eq_false_iff_ne]; omega
  clear eq er hlt hql ha hb fx fy hm hy hs hr0 hrl hq1 hsl lx5 ly5
  generalize hbx : decide (x < 0) = bx at *
  generalize hby : decide (y < 0) = by_ at *
  generalize hlx : (limbs x.natAbs).length = lx at *
  generalize hly : (limbs y.natAbs).length = ly at *
  clear hlx hbx hby hly
  go_enter Tryz.func103, Tryz.ntmps103
  go_wp2_with fail
  refine (HX.out _ BL).mono ?_
  rintro e w1 ⟨rfl, h1⟩
  obtain ⟨p1, p2, p3, p4, p5, p6, p7, p8, p9⟩ := K3 h1
  have b1 : Below w.heap.size w w1 := Below.trans (b := _) BL (h1.mono (by simp; omega))
  go_wp2_with fail
  refine (HY.out _ b1).mono ?_
  rintro e w2 ⟨rfl, h2⟩
  have h12 := h1.trans (h2.mono h1.size)
  obtain ⟨q1, q2, q3, q4, q5, q6, q7, q8, q9⟩ := K3 h12
  have b2 := b1.trans (h2.mono b1.size)
  clear p1 p2 p3 p4 p5 p6 p7 p8 p9
  go_wp2_with fail
  refine (HM.out _ b2).mono ?_
  rintro e w3 ⟨Aq, cq, Ar, cr, rfl, hq, hr, h3⟩
  have h13 := h12.trans (h3.mono h12.size)
  obtain ⟨v1, v2, v3, v4, v5, v6, v7, v8, v9⟩ := K3 h13
  have b3 := b2.trans (h3.mono b2.size)
  have c30 : w3.cell? ⟨w.heap.size + 1, 0, none⟩ = some (.bool by_) := (v3 0).trans rfl
  have c31 : w3.cell? ⟨w.heap.size + 1, 1, none⟩ = some (.slice B ly d) := (v3 1).trans rfl
  clear q1 q2 q3 q4 q5 q6 q7 q8 q9
  go_wp2_with fail
  go_region_held3 (fun w' => w'.cell? ⟨w.heap.size + 1, 0, none⟩ = some (.bool by_) ∧ w'.cell? ⟨w.heap.size + 1, 1, none⟩ = some (.slice B ly d)) (first | ((try dsimp only); repeat' (first | with_reducible assumption | apply And.intro | (with_reducible refine Kk ?_) | (with_reducible refine Kn ?_) | (with_reducible refine Kh (by first | omega | (simp only [World.size_alloc, World.size_setCell, World.size_drew]; done) | (simp only [World.size_alloc, World.size_setCell, World.size_drew]; omega)) ?_) | (with_reducible refine Ka (W := w3) ?_ ?_) | fail))) (first | (go_at_call 88; (with_reducible refine (H2.out _ _ _ hr6).mono ?_); rintro e w7 ⟨R7, c7, rfl, hr7, h7⟩; have h37 := Kb h36 h7; have c70 := Ka h37 c30; have h1f := h13.trans (h37.mono h13.size); obtain ⟨r1, r2, r3, r4, r5, r6, r7, r8, r9⟩ := K3 h1f; have c71 := Ka h37 c31) | (go_at_call 133; (with_reducible refine (HSu.out _ (b3.trans (h35.mono b3.size)) _ _ (hr.below h35)).mono ?_); rintro e w6 ⟨R6, c6, rfl, hr6, h6⟩; have h36 := Kb h35 h6; have c60 := Ka h36 c30; have c61 := Ka h36 c31) | (go_at_call 88; (with_reducible refine (H1.out _ _ _ hr4).mono ?_); rintro e w5 ⟨R5, c5, rfl, hr5, h5⟩; have h35 := Kb h34 h5; have c50 := Ka h35 c30; have c51 := Ka h35 c31) | (go_at_call 131; (with_reducible refine (HAd.out _ _ _ _ _ (hq.below BG) ((mg_one w3).below ((Below.refl _ _).drew))).mono ?_); rintro e w4 ⟨R4, c4, rfl, hr4, h4⟩; have h34 : Below w3.heap.size w3 w4 := Kb BG h4; have c40 := Ka h34 c30; have c41 := Ka h34 c31))
  all_goals
   have bf := b3.trans ((h37).mono b3.size)
   have k0 := r5 0
   have k1 := r5 1
   have k2 := r7 0
   have k3 := r7 1
   simp at k0 k1 k2 k3
   go_wp2
   refine bodyPost_ret (v := .tuple #[.agg #[.bool (decide ((sg true (Qn + 1)) < 0)), .slice R5 (limbs (Int.natAbs (sg true (Qn + 1)))).length c5], .agg #[.bool (decide ((sg by_ Sn) < 0)), .slice R7 (limbs (Int.natAbs (sg by_ Sn))).length c7], .int .i64 0]) ?_ rfl ?_
   ·simp [results, Tryz.results103, go_sem, k0, k1, k2, k3]
   ·exact Gp ((hr5.below h6).below h7) (hr7) bf (by omega) (by omega) (by omega) k0 k1 k2 k3 _ _ _ _
 ·have eq : dmQ x y = sg (decide (x < 0) != decide (y < 0)) (x.natAbs / y.natAbs) := by unfold dmQ; rw [if_neg hP]
  have er : dmR x y = sg (decide (y < 0)) (x.natAbs % y.natAbs) := by unfold dmR; rw [if_neg hP]
  rw [eq, er]
  have hPP : decide (x < 0) = decide (y < 0) ∨ (decide (x < 0) ≠ decide (y < 0) ∧ x.natAbs % y.natAbs = 0) := by
   unfold dmP at hP
   by_cases h1 : decide (x < 0) = decide (y < 0)
   ·exact .inl h1
   ·exact .inr ⟨h1, by
     rcases Nat.eq_zero_or_pos (x.natAbs % y.natAbs) with h | h
     ·exact h
     ·exact absurd ⟨h1, by omega⟩ hP⟩
  generalize x.natAbs / y.natAbs = Qn at *
  generalize x.natAbs % y.natAbs = Rn at *
  have H1 := hid fun (w1 : World) (A1 : Option Addr) (c1 : Nat) (h : Mg w1 A1 c1 (limbs Qn)) => Zg A1 c1 Qn w1 h (by omega) (decide (x < 0) != decide (y < 0))
  have H2 := hid fun (w1 : World) (A1 : Option Addr) (c1 : Nat) (h : Mg w1 A1 c1 (limbs Rn)) => Zg A1 c1 Rn w1 h (by omega) (decide (y < 0))
  clear eq er hP hlt hql ha hb fx fy hm hy hrl hq1 lx5 ly5
  rcases hPP with hs | ⟨hs, hr0⟩
  ·have hsb : (decide (x < 0) != decide (y < 0)) = false := by rw [hs]; simp
   have hse : (decide (x < 0) == decide (y < 0)) = true := by rw [hs]; simp
   rw [hsb] at H1 ⊢
   clear hs
   generalize hbx : decide (x < 0) = bx at *
   generalize hby : decide (y < 0) = by_ at *
   generalize hlx : (limbs x.natAbs).length = lx at *
   generalize hly : (limbs y.natAbs).length = ly at *
   clear hlx hbx hby hly
   go_enter Tryz.func103, Tryz.ntmps103
   go_wp2_with fail
   refine (HX.out _ BL).mono ?_
   rintro e w1 ⟨rfl, h1⟩
   obtain ⟨p1, p2, p3, p4, p5, p6, p7, p8, p9⟩ := K3 h1
   have b1 : Below w.heap.size w w1 := Below.trans (b := _) BL (h1.mono (by simp; omega))
   go_wp2_with fail
   refine (HY.out _ b1).mono ?_
   rintro e w2 ⟨rfl, h2⟩
   have h12 := h1.trans (h2.mono h1.size)
   obtain ⟨q1, q2, q3, q4, q5, q6, q7, q8, q9⟩ := K3 h12
   have b2 := b1.trans (h2.mono b1.size)
   clear p1 p2 p3 p4 p5 p6 p7 p8 p9
   go_wp2_with fail
   refine (HM.out _ b2).mono ?_
   rintro e w3 ⟨Aq, cq, Ar, cr, rfl, hq, hr, h3⟩
   have h13 := h12.trans (h3.mono h12.size)
   obtain ⟨v1, v2, v3, v4, v5, v6, v7, v8, v9⟩ := K3 h13
   have b3 := b2.trans (h3.mono b2.size)
   have c30 : w3.cell? ⟨w.heap.size + 1, 0, none⟩ = some (.bool by_) := (v3 0).trans rfl
   have c31 : w3.cell? ⟨w.heap.size + 1, 1, none⟩ = some (.slice B ly d) := (v3 1).trans rfl
   clear q1 q2 q3 q4 q5 q6 q7 q8 q9
   go_wp2_with fail
   go_region_held3 (fun w' => w'.cell? ⟨w.heap.size + 1, 0, none⟩ = some (.bool by_)) (first | ((try dsimp only); repeat' (first | with_reducible assumption | apply And.intro | (with_reducible refine Kk ?_) | (with_reducible refine Kn ?_) | (with_reducible refine Kh (by first | omega | (simp only [World.size_alloc, World.size_setCell, World.size_drew]; done) | (simp only [World.size_alloc, World.size_setCell, World.size_drew]; omega)) ?_) | (with_reducible refine Ka (W := w3) ?_ ?_) | fail))) (first | (go_at_call 88; (with_reducible refine (H2.out _ _ _ (hr.below h35)).mono ?_); rintro e w7 ⟨R7, c7, rfl, hr7, h7⟩; have h37 := Kb h35 h7; have c70 := Ka h37 c30; have h1f := h13.trans (h37.mono h13.size); obtain ⟨r1, r2, r3, r4, r5, r6, r7, r8, r9⟩ := K3 h1f; skip) | (go_at_call 88; (with_reducible refine (H1.out _ _ _ (hq.below BG)).mono ?_); rintro e w5 ⟨R5, c5, rfl, hr5, h5⟩; have h35 : Below w3.heap.size w3 w5 := Kb BG h5; have c50 := Ka h35 c30))
   all_goals
    have bf := b3.trans ((h37).mono b3.size)
    have k0 := r5 0
    have k1 := r5 1
    have k2 := r7 0
    have k3 := r7 1
    simp at k0 k1 k2 k3
    go_wp2
    refine bodyPost_ret (v := .tuple #[.agg #[.bool (decide ((sg false Qn) < 0)), .slice R5 (limbs (Int.natAbs (sg false Qn))).length c5], .agg #[.bool (decide ((sg by_ Rn) < 0)), .slice R7 (limbs (Int.natAbs (sg by_ Rn))).length c7], .int .i64 0]) ?_ rfl ?_
    ·simp [results, Tryz.results103, go_sem, k0, k1, k2, k3]
    ·exact Gp (hr5.below h7) (hr7) bf (by omega) (by omega) (by omega) k0 k1 k2 k3 _ _ _ _
  ·have hsb : (decide (x < 0) != decide (y < 0)) = true := by simp [hs]
   have hse : (decide (x < 0) == decide (y < 0)) = false := by simp [hs]
   rw [hsb] at H1 ⊢
   subst hr0
   have hrz : ((limbs 0).length : Int) = 0 := by simp [Ko]
   rw [Yo]
   clear hs H2
   generalize hbx : decide (x < 0) = bx at *
   generalize hby : decide (y < 0) = by_ at *
   generalize hlx : (limbs x.natAbs).length = lx at *
   generalize hly : (limbs y.natAbs).length = ly at *
   clear hlx hbx hby hly
   go_enter Tryz.func103, Tryz.ntmps103
   go_wp2_with fail
   refine (HX.out _ BL).mono ?_
   rintro e w1 ⟨rfl, h1⟩
   obtain ⟨p1, p2, p3, p4, p5, p6, p7, p8, p9⟩ := K3 h1
   have b1 : Below w.heap.size w w1 := Below.trans (b := _) BL (h1.mono (by simp; omega))
   go_wp2_with fail
   refine (HY.out _ b1).mono ?_
   rintro e w2 ⟨rfl, h2⟩
   have h12 := h1.trans (h2.mono h1.size)
   obtain ⟨q1, q2, q3, q4, q5, q6, q7, q8, q9⟩ := K3 h12
   have b2 := b1.trans (h2.mono b1.size)
   clear p1 p2 p3 p4 p5 p6 p7 p8 p9
   go_wp2_with fail
   refine (HM.out _ b2).mono ?_
   rintro e w3 ⟨Aq, cq, Ar, cr, rfl, hq, hr, h3⟩
   have h13 := h12.trans (h3.mono h12.size)
   obtain ⟨v1, v2, v3, v4, v5, v6, v7, v8, v9⟩ := K3 h13
   have b3 := b2.trans (h3.mono b2.size)
   have c30 : w3.cell? ⟨w.heap.size + 1, 0, none⟩ = some (.bool by_) := (v3 0).trans rfl
   have c31 : w3.cell? ⟨w.heap.size + 1, 1, none⟩ = some (.slice B ly d) := (v3 1).trans rfl
   clear q1 q2 q3 q4 q5 q6 q7 q8 q9
   go_wp2_with fail
   refine (H1.out _ _ _ hq).mono ?_
   rintro e w5 ⟨R5, c5, rfl, hr5, h35⟩
   have c50 := Ka h35 c30
   have h1f := h13.trans (h35.mono h13.size)
   obtain ⟨r1, r2, r3, r4, r5, r6, r7, r8, r9⟩ := K3 h1f
   have bf := b3.trans (h35.mono b3.size)
   have k0 := r5 0
   have k1 := r5 1
   have k2 := r7 0
   have k3 := r7 1
   simp at k0 k1 k2 k3
   go_wp2
   refine bodyPost_ret (v := .tuple #[.agg #[.bool (decide ((sg true Qn) < 0)), .slice R5 (limbs (Int.natAbs (sg true Qn))).length c5], .agg #[.bool false, .slice none 0 0], .int .i64 0]) ?_ rfl ?_
   ·simp [results, Tryz.results103, go_sem, k0, k1, k2, k3]
   ·have hfin := Gp (r := 0) (B := none) (d := 0) hr5 (Yi w5) bf (show w.heap.size ≤ w.heap.size + 1 + 1 by omega) (show w.heap.size ≤ w.heap.size + 1 + 1 + 1 by omega) (by omega) k0 k1 k2 k3 (.bool (decide (sg true Qn < 0))) (.slice R5 (limbs (sg true Qn).natAbs).length c5) (.bool false) (.slice none 0 0) (err := 0)
    have e1 : (limbs (0 : Int).natAbs).length = 0 := by simp [Ko]
    rw [e1] at hfin
    exact hfin
theorem X6.g {w w' : World} {z err : Int} {b : Bool} {n : Nat} {L : List Nat} {e : Ending} (h : X6 w z err e w') (I : Iz z b n L) : GZE w b n L err e w' := by
 obtain ⟨rfl, rfl, rfl⟩ := I; exact h
theorem RetZ.g {w w' : World} {z : Int} {b : Bool} {n : Nat} {L : List Nat} {e : Ending} (h : RetZ w z e w') (I : Iz z b n L) : GZ w b n L e w' := by
 obtain ⟨rfl, rfl, rfl⟩ := I; exact h
theorem RetDM.g {w w' : World} {z r err : Int} {b b' : Bool} {n n' : Nat} {L L' : List Nat} {e : Ending} (h : RetDM w z r err e w') (I : Iz z b n L) (I' : Iz r b' n' L') : GDM w b n L b' n' L' err e w' := by
 obtain ⟨rfl, rfl, rfl⟩ := I; obtain ⟨rfl, rfl, rfl⟩ := I'; exact h
theorem mg_two (W : World) {m u : Nat} (hm : m < 4294967296) (hu : u < 4294967296) : Mg (W.alloc (.cells #[.int .u32 (m : Int), .int .u32 (u : Int)] 124)) (some ⟨W.heap.size, 0, none⟩) 2 [m, u] := by
 refine ⟨Nat.le_refl _, by omega, ?_, Rd.of_blk (heap_alloc_new _ _) ?_⟩
 ·intro x hx
  simp at hx
  omega
 ·intro j hj
  match j, hj with
  | 0, _ => simp [lim]
  | 1, _ => simp [lim]
set_option maxHeartbeats 1000000 in
theorem RFromInt_pos (k : Nat) (w : World) (hk : k ≤ 9223372036854775807) : Calls Tryz.prog 55 #[.int .i64 k] w (RetZ w k) := by
 obtain ⟨m, hm⟩ : ∃ m, k % 4294967296 = m := ⟨_, rfl⟩
 obtain ⟨u, hu⟩ : ∃ u, k / 4294967296 = u := ⟨_, rfl⟩
 have hm1 : (k : Int) % 4294967296 = (m : Int) := by omega
 have hu1 : (k : Int) / 4294967296 = (u : Int) := by omega
 have HS := hid fun (w1 : World) (g : Nat) (hg : g = w1.heap.size) => (show Calls Tryz.prog 88 #[.bool false, .slice (some ⟨g, 0, none⟩) 2 2] (w1.alloc (.cells #[.int .u32 (m : Int), .int .u32 (u : Int)] 124)) (RetZ (w1.alloc (.cells #[.int .u32 (m : Int), .int .u32 (u : Int)] 124)) (k : Int)) by
  subst hg
  have h := Zq false _ _ _ _ (mg_two w1 (m := m) (u := u) (by omega) (by omega)) (by simp)
  rw [show val [m, u] = k by simp only [val]; omega, show sg false k = (k : Int) by simp [sg]] at h
  exact h)
 have hm2 : m < 4294967296 := by omega
 have hu2 : u < 4294967296 := by omega
 have hkn : decide ((k : Int) < 0) = false := by simp
 clear hm hu
 go_enter Tryz.func55, Tryz.ntmps55
 go_wp2_with fail
 refine (HS.out _ _ (by simp)).mono ?_
 rintro e w2 ⟨R, cc, rfl, hr, h2⟩
 obtain ⟨p1, p2, p3, p4, p5⟩ := Jl h2
 have b2 : Below w.heap.size w w2 := Kb BG h2
 have k0 := p1 0
 have k1 := p1 1
 simp at k0 k1
 go_wp2
 refine bodyPost_ret (v := .agg #[.bool (decide (((k : Int)) < 0)), .slice R (limbs (Int.natAbs ((k : Int)))).length cc]) ?_ rfl ?_
 ·simp [results, Tryz.results55, go_sem, k0, k1] <;> omega
 ·exact fin_z hr b2 (by omega) k0 k1 _ _
set_option maxHeartbeats 1000000 in
theorem RFromInt_neg (k : Nat) (w : World) (h0 : 1 ≤ k) (hk : k ≤ 9223372036854775808) : Calls Tryz.prog 55 #[.int .i64 (-(k : Int))] w (RetZ w (-(k : Int))) := by
 obtain ⟨m, hm⟩ : ∃ m, k % 4294967296 = m := ⟨_, rfl⟩
 obtain ⟨u, hu⟩ : ∃ u, k / 4294967296 = u := ⟨_, rfl⟩
 have hm1 : (k : Int) % 4294967296 = (m : Int) := by omega
 have hu1 : (k : Int) / 4294967296 = (u : Int) := by omega
 have HS := hid fun (w1 : World) (g : Nat) (hg : g = w1.heap.size) => (show Calls Tryz.prog 88 #[.bool true, .slice (some ⟨g, 0, none⟩) 2 2] (w1.alloc (.cells #[.int .u32 (m : Int), .int .u32 (u : Int)] 124)) (RetZ (w1.alloc (.cells #[.int .u32 (m : Int), .int .u32 (u : Int)] 124)) (-(k : Int))) by
  subst hg
  have h := Zq true _ _ _ _ (mg_two w1 (m := m) (u := u) (by omega) (by omega)) (by simp)
  rw [show val [m, u] = k by simp only [val]; omega, show sg true k = -(k : Int) by simp [sg]] at h
  exact h)
 have hm2 : m < 4294967296 := by omega
 have hu2 : u < 4294967296 := by omega
 obtain ⟨z, hz⟩ : ∃ z, -(k : Int) = z := ⟨_, rfl⟩
 have hz1 : z < 0 := by omega
 have hz2 : -9223372036854775808 ≤ z := by omega
 have hz3 : -(z + 1) + 1 = (k : Int) := by omega
 rw [hz] at HS ⊢
 clear hm hu hz
 go_enter Tryz.func55, Tryz.ntmps55
 go_wp2_with fail
 refine (HS.out _ _ (by simp)).mono ?_
 rintro e w2 ⟨R, cc, rfl, hr, h2⟩
 obtain ⟨p1, p2, p3, p4, p5⟩ := Jl h2
 have b2 : Below w.heap.size w w2 := Kb BG h2
 have k0 := p1 0
 have k1 := p1 1
 simp at k0 k1
 go_wp2
 refine bodyPost_ret (v := .agg #[.bool (decide ((z) < 0)), .slice R (limbs (Int.natAbs (z))).length cc]) ?_ rfl ?_
 ·simp [results, Tryz.results55, go_sem, k0, k1] <;> omega
 ·exact fin_z hr b2 (by omega) k0 k1 _ _
theorem Ys (n : Int) (w : World) (h1 : -9223372036854775808 ≤ n) (h2 : n ≤ 9223372036854775807) : Calls Tryz.prog 55 #[.int .i64 n] w (RetZ w n) := by
 by_cases hn : n < 0
 ·have h1 := RFromInt_neg n.natAbs w (by omega) (by omega)
  have e : -((n.natAbs : Nat) : Int) = n := by omega
  rw [e] at h1
  exact h1
 ·have h1 := RFromInt_pos n.natAbs w (by omega)
  have e : ((n.natAbs : Nat) : Int) = n := by omega
  rw [e] at h1
  exact h1
set_option maxHeartbeats 1000000 in
theorem RToInt_ok (x : Int) (A : Option Addr) (c : Nat) (w : World) (ha : Mg w A c (limbs x.natAbs)) (fx : fits x) :
  Calls Tryz.prog 104 #[.agg #[.bool (decide ((x) < 0)), .slice A (limbs (Int.natAbs (x))).length c]] w (RetIE w (toI x).1 (toI x).2) := by
 have HX := hid fun (w1 : World) (h1 : Below w.heap.size w w1) => Qu (ha.below h1) fx
 have H0 := hid fun (w1 : World) (h1 : Below w.heap.size w w1) => (show Calls Tryz.prog 135 #[.slice A (limbs x.natAbs).length c, .int .i64 0] w1 fun e w' => e = .returned (.int .u64 ((lb (limbs x.natAbs) 0 : Nat) : Int)) ∧ w' = w1 from (Qr A c _ w1 (ha.below h1) 0 (by omega)).mono fun e w' ⟨h, h'⟩ => ⟨h, h'.symm⟩)
 have H1 := hid fun (w1 : World) (h1 : Below w.heap.size w w1) => (show Calls Tryz.prog 135 #[.slice A (limbs x.natAbs).length c, .int .i64 1] w1 fun e w' => e = .returned (.int .u64 ((lb (limbs x.natAbs) 1 : Nat) : Int)) ∧ w' = w1 from (Qr A c _ w1 (ha.below h1) 1 (by omega)).mono fun e w' ⟨h, h'⟩ => ⟨h, h'.symm⟩)
 have l0 := Vc (Xd x.natAbs) 0
 have l1 := Vc (Xd x.natAbs) 1
 have hfx : (limbs x.natAbs).length ≤ 512 := fx
 have hv : (limbs x.natAbs).length ≤ 2 → lb (limbs x.natAbs) 0 + 4294967296 * lb (limbs x.natAbs) 1 = x.natAbs := fun h => by
  have h1 := Jx (limbs x.natAbs) 0
  have h2 := Jx (limbs x.natAbs) 1
  rw [Xn _ (by omega : (limbs x.natAbs).length ≤ 1 + 1)] at h2
  rw [h2, List.drop_zero, Kl] at h1
  omega
 have hl2 := len2 (n := x.natAbs)
 clear ha fx
 generalize lb (limbs x.natAbs) 0 = a at *
 generalize lb (limbs x.natAbs) 1 = b at *
 generalize (limbs x.natAbs).length = lx at *
 by_cases hl : lx ≤ 2
 ·have hv := hv hl
  have hn18 := hl2.1 hl
  have hv1 : (a : Int) + 4294967296 * (b : Int) = ((x.natAbs : Nat) : Int) := by omega
  by_cases hn : x < 0
  ·have ex : decide (x < 0) = true := by simpa using hn
   rw [ex] at HX ⊢
   obtain ⟨n, hn1⟩ : ∃ n : Nat, x.natAbs = n := ⟨_, rfl⟩
   have hn2 : 0 < n := by omega
   rw [hn1] at hv1 hn18
   by_cases hb : n ≤ 9223372036854775808
   ·rw [Dn (x := x) (by omega)]
    have hxn := hid (show x = -((n : Int) - 1) - 1 by omega)
    clear hv hl2 hn1 ex hn
    go_enter Tryz.func104, Tryz.ntmps104
    go_wp2_with fail
    refine (HX.out _ BL).mono ?_
    rintro e w1 ⟨rfl, h1⟩
    obtain ⟨p1, p2, p3⟩ := Ks h1
    have b1 : Below w.heap.size w w1 := Below.trans (b := _) BL (h1.mono (by simp))
    have k0 := p1 0
    have k1 := p1 1
    simp at k0 k1
    go_wp2_with fail
    go_quiet (first | (go_at_call 135; with_reducible refine Calls.quiet_of_same (H0.out _ (Ki b1 _))) | (go_at_call 135; with_reducible refine Calls.quiet_of_same (H1.out _ (Ki b1 _))))
    go_wp2_with fail
    go_ret2
    exact ⟨by rw [hxn.out] <;> rfl, Ki b1 _⟩
   ·rw [Gn (x := x) (by omega)]
    clear hv hl2 hn1 ex hn
    have hb2 : (9223372036854775808 : Int) < (n : Int) := by omega
    go_enter Tryz.func104, Tryz.ntmps104
    go_wp2_with fail
    refine (HX.out _ BL).mono ?_
    rintro e w1 ⟨rfl, h1⟩
    obtain ⟨p1, p2, p3⟩ := Ks h1
    have b1 : Below w.heap.size w w1 := Below.trans (b := _) BL (h1.mono (by simp))
    have k0 := p1 0
    have k1 := p1 1
    simp at k0 k1
    go_wp2_with fail
    go_quiet (first | (go_at_call 135; with_reducible refine Calls.quiet_of_same (H0.out _ (Ki b1 _))) | (go_at_call 135; with_reducible refine Calls.quiet_of_same (H1.out _ (Ki b1 _))))
    go_wp2_with fail
    go_ret2
    exact ⟨rfl, Ki b1 _⟩
  ·have ex : decide (x < 0) = false := by simpa using hn
   rw [ex] at HX ⊢
   obtain ⟨n, hn1⟩ : ∃ n : Nat, x.natAbs = n := ⟨_, rfl⟩
   rw [hn1] at hv1 hn18
   by_cases hb : n < 9223372036854775808
   ·rw [Dn (x := x) (by omega)]
    have hxn := hid (show x = (n : Int) by omega)
    clear hv hl2 hn1 ex hn
    have hb2 : ¬ (9223372036854775807 : Int) < (n : Int) := by omega
    go_enter Tryz.func104, Tryz.ntmps104
    go_wp2_with fail
    refine (HX.out _ BL).mono ?_
    rintro e w1 ⟨rfl, h1⟩
    obtain ⟨p1, p2, p3⟩ := Ks h1
    have b1 : Below w.heap.size w w1 := Below.trans (b := _) BL (h1.mono (by simp))
    have k0 := p1 0
    have k1 := p1 1
    simp at k0 k1
    go_wp2_with fail
    go_quiet (first | (go_at_call 135; with_reducible refine Calls.quiet_of_same (H0.out _ (Ki b1 _))) | (go_at_call 135; with_reducible refine Calls.quiet_of_same (H1.out _ (Ki b1 _))))
    go_wp2_with fail
    go_ret2
    exact ⟨by rw [hxn.out] <;> rfl, Ki b1 _⟩
   ·rw [Gn (x := x) (by omega)]
    clear hv hl2 hn1 ex hn
    have hb2 : (9223372036854775807 : Int) < (n : Int) := by omega
    go_enter Tryz.func104, Tryz.ntmps104
    go_wp2_with fail
    refine (HX.out _ BL).mono ?_
    rintro e w1 ⟨rfl, h1⟩
    obtain ⟨p1, p2, p3⟩ := Ks h1
    have b1 : Below w.heap.size w w1 := Below.trans (b := _) BL (h1.mono (by simp))
    have k0 := p1 0
    have k1 := p1 1
    simp at k0 k1
    go_wp2_with fail
    go_quiet (first | (go_at_call 135; with_reducible refine Calls.quiet_of_same (H0.out _ (Ki b1 _))) | (go_at_call 135; with_reducible refine Calls.quiet_of_same (H1.out _ (Ki b1 _))))
    go_wp2_with fail
    go_ret2
    exact ⟨rfl, Ki b1 _⟩
 ·have hn18 := mt hl2.2 hl
  rw [Gn (x := x) (by omega)]
  have hb2 : (2 : Int) < (lx : Int) := by omega
  clear hv hl2 hn18
  generalize decide (x < 0) = bx at *
  go_enter Tryz.func104, Tryz.ntmps104
  go_wp2_with fail
  refine (HX.out _ BL).mono ?_
  rintro e w1 ⟨rfl, h1⟩
  obtain ⟨p1, p2, p3⟩ := Ks h1
  have b1 : Below w.heap.size w w1 := Below.trans (b := _) BL (h1.mono (by simp))
  have k0 := p1 0
  have k1 := p1 1
  simp at k0 k1
  go_wp2_with fail
  go_quiet (first | (go_at_call 135; with_reducible refine Calls.quiet_of_same (H0.out _ (Ki b1 _))) | (go_at_call 135; with_reducible refine Calls.quiet_of_same (H1.out _ (Ki b1 _))))
  go_wp2_with fail
  go_ret2
  exact ⟨rfl, Ki b1 _⟩
section
variable {x y z r err : Int} {b b' b2 b3 : Bool} {n n' n2 n3 : Nat} {xs ys zs rs : List Nat} {A B : Option Addr} {c d : Nat} {w : World}
variable (hx : Iz x b n xs) (hy : Iz y b' n' ys)
include hx hy
section
variable (hz : Iz z b2 n2 zs) (he : fitE r = (z, err)) (ha : Mg w A c xs) (hb : Mg w B d ys) (fx : fits x) (fy : fits y)
include hz he ha hb fx fy
theorem RAdd_g (h : x + y = r) : Calls Tryz.prog 102 #[.agg #[.bool b, .slice A n c], .agg #[.bool b', .slice B n' d]] w (GZE w b2 n2 zs err) := by
 obtain ⟨rfl, rfl, rfl⟩ := hx; obtain ⟨rfl, rfl, rfl⟩ := hy; obtain ⟨rfl, rfl, rfl⟩ := hz; subst h
 have := RAdd_ok x y A B c d w ha hb fx fy; unfold RetF at this; rw [he] at this; exact this
theorem RSub_g (h : x - y = r) : Calls Tryz.prog 117 #[.agg #[.bool b, .slice A n c], .agg #[.bool b', .slice B n' d]] w (GZE w b2 n2 zs err) := by
 obtain ⟨rfl, rfl, rfl⟩ := hx; obtain ⟨rfl, rfl, rfl⟩ := hy; obtain ⟨rfl, rfl, rfl⟩ := hz; subst h
 have := RSub_ok x y A B c d w ha hb fx fy; unfold RetF at this; rw [he] at this; exact this
theorem RMul_g (h : x * y = r) : Calls Tryz.prog 101 #[.agg #[.bool b, .slice A n c], .agg #[.bool b', .slice B n' d]] w (GZE w b2 n2 zs err) := by
 obtain ⟨rfl, rfl, rfl⟩ := hx; obtain ⟨rfl, rfl, rfl⟩ := hy; obtain ⟨rfl, rfl, rfl⟩ := hz; subst h
 have := RMul_ok x y A B c d w ha hb fx fy; unfold RetF at this; rw [he] at this; exact this
end
theorem RGCD_g (hz : Iz z b2 n2 zs) (ha : Mg w A c xs) (hb : Mg w B d ys) (fx : fits x) (fy : fits y) (h : ((Nat.gcd x.natAbs y.natAbs : Nat) : Int) = z) : Calls Tryz.prog 118 #[.agg #[.bool b, .slice A n c], .agg #[.bool b', .slice B n' d]] w (GZE w b2 n2 zs 0) := by
 obtain ⟨rfl, rfl, rfl⟩ := hx; obtain ⟨rfl, rfl, rfl⟩ := hy; obtain ⟨rfl, rfl, rfl⟩ := hz; subst h
 exact RGCD_ok x y A B c d w ha hb fx fy
theorem RDivMod_g (hz : Iz z b2 n2 zs) (hr : Iz r b3 n3 rs) (ha : Mg w A c xs) (hb : Mg w B d ys) (fx : fits x) (fy : fits y) (h0 : y ≠ 0) (h : dmQ x y = z) (h2 : dmR x y = r) : Calls Tryz.prog 103 #[.agg #[.bool b, .slice A n c], .agg #[.bool b', .slice B n' d]] w (GDM w b2 n2 zs b3 n3 rs 0) := by
 obtain ⟨rfl, rfl, rfl⟩ := hx; obtain ⟨rfl, rfl, rfl⟩ := hy; obtain ⟨rfl, rfl, rfl⟩ := hz; obtain ⟨rfl, rfl, rfl⟩ := hr; subst h; subst h2
 exact RDivMod_ok x y A B c d w ha hb fx fy h0
end
theorem Xi {z : Int} {b2 : Bool} {n2 : Nat} {zs : List Nat} {w : World} (hz : Iz z b2 n2 zs) (h1 : -9223372036854775808 ≤ z) (h2 : z ≤ 9223372036854775807) : Calls Tryz.prog 55 #[.int .i64 z] w (GZ w b2 n2 zs) := by
 obtain ⟨rfl, rfl, rfl⟩ := hz
 exact Ys z w h1 h2
end Go.Proofs.YtdkgbkbbbldliaaGreat
/- Plain facts on texts and digits: they restore the number. Conditions: none. -/
namespace Go.Proofs.YtdkgbkbbbldliaaGreat
open Go.RowKit Big Go.Lib
end Go.Proofs.YtdkgbkbbbldliaaGreat
/- The reference: walks of short, longer. Conditions: none. -/
namespace Go.Proofs.YtdkgbkbbbldliaaGreat
open Go.RowKit Big
theorem Mg.far {w : World} {A : Option Addr} {c : Nat} {xs : List Nat} (h : Mg w A c xs) (hl : 0 < xs.length) : ∀ p, A = some p → p.block < w.heap.size := by
 intro p hp
 obtain ⟨b, o, e, hB, _⟩ := h.rd hl
 rw [e] at hp
 injection hp with hp
 subst hp
 exact hB
end Go.Proofs.YtdkgbkbbbldliaaGreat
/- Texts of fractions: what Format and Parse answer. Conditions: none. -/
namespace Go.Proofs.YtdkgbkbbbldliaaGreat
open Go.RowKit Big Go.Lib
theorem newE_nf {f : Int × Nat} (h : Nf f) (f1 : fits f.1) (f2 : fits (f.2 : Nat)) : newE f.1 (f.2 : Nat) = (f, 0) := by
 unfold newE
 have h0 := h.1
 rw [if_neg (by omega)]
 have e1 : (decide (f.1 < 0) != decide ((f.2 : Int) < 0)) = decide (f.1 < 0) := by
  rw [decide_eq_false (by omega : ¬ (f.2 : Int) < 0)]; simp
 rw [e1, Int.natAbs_natCast, Qa]
 have hl := low_self (n := f.1) (d := f.2) h
 rw [V4 (by rw [hl]; exact ⟨f1, f2⟩), hl]
end Go.Proofs.YtdkgbkbbbldliaaGreat
/- Valid fractions and what the functions answer at them; the examples' numbers. Conditions: none. -/
namespace Go.Proofs.YtdkgbkbbbldliaaGreat
open Go.RowKit Big
/-- in lowest terms, both numbers of at most 512 limbs -/
structure Vf (f : Int × Nat) : Prop where
 nf : Nf f
 f1 : fits f.1
 f2 : fits (f.2 : Nat)
theorem Fz.valid {f : Int × Nat} {b : Bool} {k l : Nat} {xs ys : List Nat} (h : Fz f b k xs l ys) (v : Vf f) : fvB b xs false ys = true := by
 obtain ⟨rfl, rfl, rfl, rfl, rfl⟩ := h
 unfold fvB
 have v1 := Xu v.f1
 have v2 := Xu (z := (f.2 : Int)) v.f2
 rw [Int.natAbs_natCast, show decide ((f.2 : Int) < 0) = false by simp] at v2
 have h0 := v.nf.1
 have h1 : limbs f.2 ≠ [] := fun h => by have := Jp.1 h; omega
 rw [v1, v2, Kl, Kl, decide_eq_true h1, decide_eq_true v.nf.2]
 rfl
theorem Fz.pair {f : Int × Nat} {b : Bool} {k l : Nat} {xs ys : List Nat} (h : Fz f b k xs l ys) : (sg b (val xs), val ys) = f := by
 obtain ⟨rfl, rfl, rfl, rfl, rfl⟩ := h
 rw [Kl, Kl, Qa]
theorem Vf.of_low {n : Int} {d : Nat} {p : Int × Nat} (hd : 0 < d) (h : lowE n d = (p, 0)) : Vf p := by
 unfold lowE at h
 split at h
 ·rename_i hf
  rw [Prod.mk.injEq] at h
  rw [← h.1]
  exact ⟨low_nf hd, hf.1, hf.2⟩
 ·simp at h
theorem Vf.of_new {x y : Int} {p : Int × Nat} (h : newE x y = (p, 0)) : Vf p := by
 unfold newE at h
 split at h
 ·simp at h
 ·exact Vf.of_low (by omega) h
theorem fits_w (z : Int) (h : z.natAbs < 4294967296) : fits z := by
 have := (K1 z.natAbs 1).2 (by simpa using h)
 unfold fits; omega
end Go.Proofs.YtdkgbkbbbldliaaGreat
