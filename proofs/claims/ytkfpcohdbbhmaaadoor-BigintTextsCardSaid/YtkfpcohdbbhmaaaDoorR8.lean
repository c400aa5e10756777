/- The reference: walks of Sub, GCD. Conditions: none. -/
import Derived.Test.YtkfpcohdbbhmaaaDoorR7
namespace Go.Proofs.YtkfpcohdbbhmaaaDoor
set_option linter.unusedVariables false
set_option linter.unusedSimpArgs false
open Go.RowKit Big

theorem fits_neg' {z : Int} (h : fits z) : fits (-z) := by unfold fits at *; rwa [Int.natAbs_neg]

set_option maxHeartbeats 1000000 in
theorem RSub_ok (x y : Int) (A B : Option Addr) (c d : Nat) (w : World) (ha : Mg w A c (limbs x.natAbs)) (hb : Mg w B d (limbs y.natAbs)) (fx : fits x) (fy : fits y) :
    Calls Tryd.prog 46 #[.agg #[.bool (decide ((x) < 0)), .slice A (limbs (Int.natAbs (x))).length c], .agg #[.bool (decide ((y) < 0)), .slice B (limbs (Int.natAbs (y))).length d]] w (RetF w (x - y)) := by
  rw [Int.sub_eq_add_neg]
  have fz := fits_neg' fy
  obtain ⟨z, hz⟩ : ∃ z, -y = z := ⟨_, rfl⟩
  rw [hz] at fz ⊢
  have HY := hid fun (w1 : World) (h : Below w.heap.size w w1) => RValid_t (hb.below h) fy
  have HM := hid fun (w1 : World) (h : Below w.heap.size w w1) => by have h2 := RNeg_ok y B d w1 (hb.below h) fy; rw [hz] at h2; exact h2
  have HS := hid fun (w1 : World) (A1 : Option Addr) (c1 : Nat) (h : Below w.heap.size w w1) (h' : Mg w1 A1 c1 (limbs z.natAbs)) => RAdd_ok x z A A1 c c1 w1 (ha.below h) h' fx fz
  clear ha hb fx fy fz hz
  generalize hbx : decide (x < 0) = bx at *
  generalize hby : decide (y < 0) = by_ at *
  generalize hlx : (limbs x.natAbs).length = lx at *
  generalize hly : (limbs y.natAbs).length = ly at *
  clear hbx hby hlx hly
  go_enter Tryd.func46, Tryd.ntmps46
  go_wp2_with fail
  refine (HY.out _ (by repeat (first | assumption | exact Below.refl _ _ | refine Below.alloc ?_ (by simp; try omega) _ | refine Below.drew ?_ | refine below_drewN ?_ _))).mono ?_
  rintro e w2 ⟨rfl, h12⟩
  obtain ⟨q1, q2, q3, q4, q5, q6, q7⟩ := box3_keep h12
  have b2 : Below w.heap.size w w2 := Below.trans (b := _) (by repeat (first | assumption | exact Below.refl _ _ | refine Below.alloc ?_ (by simp; try omega) _ | refine Below.drew ?_ | refine below_drewN ?_ _)) (h12.mono (by simp; omega))
  go_wp2_with fail
  have b2d := b2.drew
  have h12d := h12.drew
  go_region_held3 (fun w' => w'.cell? ⟨w.heap.size, 0, none⟩ = some (.bool bx) ∧ w'.cell? ⟨w.heap.size, 1, none⟩ = some (.slice A lx c) ∧ w'.cell? ⟨w.heap.size + 1, 0, none⟩ = some (.bool by_) ∧ w'.cell? ⟨w.heap.size + 1, 1, none⟩ = some (.slice B ly d)) (first | exact ⟨(q1 0).trans rfl, (q1 1).trans rfl, (q3 0).trans rfl, (q3 1).trans rfl⟩ | exact ⟨(u1 0).trans rfl, (u1 1).trans rfl, (u3 0).trans rfl, (u3 1).trans rfl⟩ | exact ⟨(r1 0).trans rfl, (r1 1).trans rfl, (r3 0).trans rfl, (r3 1).trans rfl⟩ | (refine ⟨?_, ?_, ?_, ?_⟩ <;> (repeat rw [cell_far (by omega)]) <;> first | exact (r1 0).trans rfl | exact (r1 1).trans rfl | exact (r3 0).trans rfl | exact (r3 1).trans rfl)) (first | (go_at_call 47; refine (HM.out _ b2d).mono ?_; rintro e w3' ⟨R', cc', rfl, hr', h3'⟩; have h13' := h12d.trans (h3'.mono h12d.size); obtain ⟨u1, u2, u3, u4, u5, u6, u7⟩ := box3_keep h13') | (go_at_call 45; refine (HS.out _ _ _ (b2d.trans (h3'.mono b2d.size)) hr').mono ?_; rintro e w3 ⟨R, cc, rfl, hr, h3''⟩; have h3 := h3'.trans (h3''.mono h3'.size); have h13 := h12d.trans (h3.mono h12d.size); obtain ⟨r1, r2, r3, r4, r5, r6, r7⟩ := box3_keep h13))
  have b3 := b2d.trans (h3.mono b2d.size)
  have k0 := r5 0
  have k1 := r5 1
  simp at k0 k1
  go_wp2
  refine bodyPost_ret (v := .tuple #[.agg #[.bool (decide (((fitE (x + z)).1) < 0)), .slice R (limbs (Int.natAbs ((fitE (x + z)).1))).length cc], .int .i64 (fitE (x + z)).2]) ?_ rfl ?_
  · simp [results, Tryd.results46, go_sem, k0, k1]
  · exact fin_ze hr b3 (by omega) k0 k1 _ _

set_option maxHeartbeats 1000000 in
theorem RSub_bad2 (na nb : Bool) (xs ys : List Nat) (A B : Option Addr) (c d : Nat) (w : World) (hb : Mg w B d ys) (h : validB nb ys = false) :
    Calls Tryd.prog 46 #[.agg #[.bool na, .slice A xs.length c], .agg #[.bool nb, .slice B ys.length d]] w (RetZE w 0 1) := by
  have HX := hid fun (w1 : World) (h1 : Below w.heap.size w w1) => RValid_f (hb.below h1) h
  clear hb h
  generalize xs.length = lx at *
  generalize ys.length = ly at *
  go_enter Tryd.func46, Tryd.ntmps46
  go_wp2_with fail
  refine (HX.out _ (by repeat (first | assumption | exact Below.refl _ _ | refine Below.alloc ?_ (by simp; try omega) _ | refine Below.drew ?_ | refine below_drewN ?_ _))).mono ?_
  rintro e w1 ⟨rfl, h1⟩
  obtain ⟨p1, p2, p3, p4, p5, p6, p7⟩ := box3_keep h1
  have b1 : Below w.heap.size w w1 := Below.trans (b := _) (by repeat (first | assumption | exact Below.refl _ _ | refine Below.alloc ?_ (by simp; try omega) _ | refine Below.drew ?_ | refine below_drewN ?_ _)) (h1.mono (by simp; omega))
  have k0 := p5 0
  have k1 := p5 1
  simp at k0 k1
  go_wp2
  refine bodyPost_ret (v := .tuple #[.agg #[.bool false, .slice none 0 0], .int .i64 1]) ?_ rfl ?_
  · simp [results, Tryd.results46, go_sem, k0, k1]
  · exact retZE_zero 1 (below_set (below_set b1 (by omega) _ _) (by omega) _ _)

set_option maxHeartbeats 1000000 in
theorem RSub_bad1 (na : Bool) (y : Int) (xs : List Nat) (A B : Option Addr) (c d : Nat) (w : World) (ha : Mg w A c xs) (hb : Mg w B d (limbs y.natAbs)) (fy : fits y) (h : validB na xs = false) :
    Calls Tryd.prog 46 #[.agg #[.bool na, .slice A xs.length c], .agg #[.bool (decide ((y) < 0)), .slice B (limbs (Int.natAbs (y))).length d]] w (RetZE w 0 1) := by
  obtain ⟨z, hz⟩ : ∃ z, -y = z := ⟨_, rfl⟩
  have HY := hid fun (w1 : World) (h : Below w.heap.size w w1) => RValid_t (hb.below h) fy
  have HM := hid fun (w1 : World) (h : Below w.heap.size w w1) => by have h2 := RNeg_ok y B d w1 (hb.below h) fy; rw [hz] at h2; exact h2
  have HS := hid fun (w1 : World) (A1 : Option Addr) (c1 : Nat) (h' : Below w.heap.size w w1) => RAdd_bad1 na (decide (z < 0)) xs (limbs z.natAbs) A A1 c c1 w1 (ha.below h') h
  clear ha hb fy h hz
  generalize na = bx at *
  generalize hby : decide (y < 0) = by_ at *
  generalize hlx : xs.length = lx at *
  generalize hly : (limbs y.natAbs).length = ly at *
  clear hby hlx hly
  go_enter Tryd.func46, Tryd.ntmps46
  go_wp2_with fail
  refine (HY.out _ (by repeat (first | assumption | exact Below.refl _ _ | refine Below.alloc ?_ (by simp; try omega) _ | refine Below.drew ?_ | refine below_drewN ?_ _))).mono ?_
  rintro e w2 ⟨rfl, h12⟩
  obtain ⟨q1, q2, q3, q4, q5, q6, q7⟩ := box3_keep h12
  have b2 : Below w.heap.size w w2 := Below.trans (b := _) (by repeat (first | assumption | exact Below.refl _ _ | refine Below.alloc ?_ (by simp; try omega) _ | refine Below.drew ?_ | refine below_drewN ?_ _)) (h12.mono (by simp; omega))
  go_wp2_with fail
  have b2d := b2.drew
  have h12d := h12.drew
  go_region_held3 (fun w' => w'.cell? ⟨w.heap.size, 0, none⟩ = some (.bool bx) ∧ w'.cell? ⟨w.heap.size, 1, none⟩ = some (.slice A lx c) ∧ w'.cell? ⟨w.heap.size + 1, 0, none⟩ = some (.bool by_) ∧ w'.cell? ⟨w.heap.size + 1, 1, none⟩ = some (.slice B ly d)) (first | exact ⟨(q1 0).trans rfl, (q1 1).trans rfl, (q3 0).trans rfl, (q3 1).trans rfl⟩ | exact ⟨(u1 0).trans rfl, (u1 1).trans rfl, (u3 0).trans rfl, (u3 1).trans rfl⟩ | exact ⟨(r1 0).trans rfl, (r1 1).trans rfl, (r3 0).trans rfl, (r3 1).trans rfl⟩ | (refine ⟨?_, ?_, ?_, ?_⟩ <;> (repeat rw [cell_far (by omega)]) <;> first | exact (r1 0).trans rfl | exact (r1 1).trans rfl | exact (r3 0).trans rfl | exact (r3 1).trans rfl)) (first | (go_at_call 47; refine (HM.out _ b2d).mono ?_; rintro e w3' ⟨R', cc', rfl, hr', h3'⟩; have h13' := h12d.trans (h3'.mono h12d.size); obtain ⟨u1, u2, u3, u4, u5, u6, u7⟩ := box3_keep h13') | (go_at_call 45; refine (HS.out _ _ _ (b2d.trans (h3'.mono b2d.size))).mono ?_; rintro e w3 ⟨R, cc, rfl, hr, h3''⟩; have h3 := h3'.trans (h3''.mono h3'.size); have h13 := h12d.trans (h3.mono h12d.size); obtain ⟨r1, r2, r3, r4, r5, r6, r7⟩ := box3_keep h13))
  have b3 := b2d.trans (h3.mono b2d.size)
  have k0 := r5 0
  have k1 := r5 1
  simp at k0 k1
  go_wp2
  refine bodyPost_ret (v := .tuple #[.agg #[.bool (decide (((((0 : Int), (1 : Int))).1) < 0)), .slice R (limbs (Int.natAbs ((((0 : Int), (1 : Int))).1))).length cc], .int .i64 (((0 : Int), (1 : Int))).2]) ?_ rfl ?_
  · simp [results, Tryd.results46, go_sem, k0, k1]
  · exact fin_ze hr b3 (by omega) k0 k1 _ _

theorem two_pow_B (k : Nat) : (4294967296 : Nat) ^ k = 2 ^ (32 * k) := by rw [show (4294967296 : Nat) = 2 ^ 32 by decide, ← Nat.pow_mul]
theorem twos_le {g t G K : Nat} (hg : 0 < g) (h : g * 2 ^ t = G) (hG : (limbs G).length ≤ K) : t < 32 * K := by
  have h1 := (limbs_len_iff G K).1 hG
  rw [two_pow_B, ← h] at h1
  have h2 : 2 ^ t ≤ g * 2 ^ t := Nat.le_mul_of_pos_left _ hg
  exact (Nat.pow_lt_pow_iff_right (by decide)).1 (Nat.lt_of_le_of_lt h2 h1)
theorem limb0 {a : Nat} (h : a ≠ 0) (hl : 0 < (limbs a).length) : (limbs a)[0] % 2 = a % 2 := by
  have : (limbs a)[0] = a % 4294967296 := by simp only [limbs_pos h, List.getElem_cons_zero]
  omega


theorem gA {a b t G : Nat} (h : Nat.gcd a b * 2 ^ t = G) (ha : a % 2 = 0) (hb : b % 2 = 0) : Nat.gcd (a / 2) (b / 2) * 2 ^ (t + 1) = G := by
  have e := gcd_both (a / 2) (b / 2)
  rw [show 2 * (a / 2) = a by omega, show 2 * (b / 2) = b by omega] at e
  rw [← h, e, Nat.pow_succ, Nat.mul_comm 2 (Nat.gcd _ _), Nat.mul_assoc, Nat.mul_comm 2]
theorem gB {a b t G : Nat} (h : Nat.gcd a b * 2 ^ t = G) (ha : a % 2 = 0) (hb : b % 2 = 1) : Nat.gcd (a / 2) b * 2 ^ t = G := by
  have e := gcd_left (a := a / 2) hb
  rw [show 2 * (a / 2) = a by omega] at e
  rw [← h, e]
theorem gC {a b t G : Nat} (h : Nat.gcd a b * 2 ^ t = G) (ha : a % 2 = 1) (hb : b % 2 = 0) : Nat.gcd a (b / 2) * 2 ^ t = G := by
  have e := gcd_right (b := b / 2) ha
  rw [show 2 * (b / 2) = b by omega] at e
  rw [← h, e]
theorem dbl (H i : Nat) : H * 2 ^ i + H * 2 ^ i = H * 2 ^ (i + 1) := by rw [Nat.pow_succ, ← Nat.mul_assoc]; omega

set_option maxHeartbeats 2000000 in
theorem RGCD_ok (x y : Int) (A B : Option Addr) (c d : Nat) (w : World) (ha : Mg w A c (limbs x.natAbs)) (hb : Mg w B d (limbs y.natAbs)) (fx : fits x) (fy : fits y) :
    Calls Tryd.prog 18 #[.agg #[.bool (decide ((x) < 0)), .slice A (limbs (Int.natAbs (x))).length c], .agg #[.bool (decide ((y) < 0)), .slice B (limbs (Int.natAbs (y))).length d]] w (RetZE w (Nat.gcd x.natAbs y.natAbs : Nat) 0) := by
  have HX := hid fun (w1 : World) (h : Below w.heap.size w w1) => RValid_t (ha.below h) fx
  have HY := hid fun (w1 : World) (h : Below w.heap.size w w1) => RValid_t (hb.below h) fy
  have HG := hid (show (limbs (Nat.gcd x.natAbs y.natAbs)).length ≤ 512 by
    rcases Nat.eq_zero_or_pos x.natAbs with h | h
    · rw [h, Nat.gcd_zero_left]; exact fy
    · exact Nat.le_trans (limbs_mono (Nat.le_of_dvd h (Nat.gcd_dvd_left _ _))) fx)
  have HH2 := hid fun (w1 : World) (R : Option Addr) (cc a : Nat) (h : Mg w1 R cc (limbs a)) (hl : (limbs a).length ≤ 512) => Rhalf_n R cc a w1 h (by omega)
  have HM := hid fun (w1 : World) (R Q : Option Addr) (cc dd a b : Nat) (h : Mg w1 R cc (limbs a)) (h' : Mg w1 Q dd (limbs b)) (hl : (limbs a).length ≤ 512) (hl' : (limbs b).length ≤ 512) (hle : b ≤ a) => Rminus_n R Q cc dd a b w1 h h' (by omega) (by omega) hle
  have HO := hid fun (w1 : World) (R Q : Option Addr) (cc dd a b : Nat) (h : Mg w1 R cc (limbs a)) (h' : Mg w1 Q dd (limbs b)) (hl : (limbs a).length ≤ 512) (hl' : (limbs b).length ≤ 512) => Rorder_n R Q cc dd a b w1 h h' (by omega) (by omega)
  have HP := hid fun (w1 : World) (R Q : Option Addr) (cc dd a b : Nat) (h : Mg w1 R cc (limbs a)) (h' : Mg w1 Q dd (limbs b)) (hl : (limbs a).length ≤ 512) (hl' : (limbs b).length ≤ 512) => Rplus_n R Q cc dd a b w1 h h' (by omega) (by omega)
  have HS := hid fun (w1 : World) (A1 : Option Addr) (c1 n : Nat) (h : Mg w1 A1 c1 (limbs n)) (hl : (limbs n).length ≤ 512) => by have h2 := Rsigned_n A1 c1 n w1 h (by omega) false; rw [show sg false n = ((n : Nat) : Int) by simp [sg]] at h2; exact h2
  have mX := fun (w1 : World) (h : Below w.heap.size w w1) => ha.below h
  have mY := fun (w1 : World) (h : Below w.heap.size w w1) => hb.below h
  have MX := hid mX
  have MY := hid mY
  clear mX mY
  have lX : (limbs x.natAbs).length ≤ 512 := fx
  have lY : (limbs y.natAbs).length ≤ 512 := fy
  clear ha hb fx fy
  generalize hbx : decide (x < 0) = bx at *
  generalize hby : decide (y < 0) = by_ at *
  generalize x.natAbs = n at *
  generalize y.natAbs = m at *
  clear hbx hby
  obtain ⟨G, hG⟩ : ∃ G, Nat.gcd n m = G := ⟨_, rfl⟩
  rw [hG] at HG ⊢
  have hG := hid hG
  go_enter Tryd.func18, Tryd.ntmps18
  go_wp2_with fail
  refine (HX.out _ (by repeat (first | assumption | exact Below.refl _ _ | refine Below.alloc ?_ (by simp; try omega) _ | refine Below.drew ?_ | refine below_drewN ?_ _))).mono ?_
  rintro e w1 ⟨rfl, h1⟩
  obtain ⟨p1, p2, p3, p4, p5, p6, p7⟩ := box3_keep h1
  have b1 : Below w.heap.size w w1 := Below.trans (b := _) (by repeat (first | assumption | exact Below.refl _ _ | refine Below.alloc ?_ (by simp; try omega) _ | refine Below.drew ?_ | refine below_drewN ?_ _)) (h1.mono (by simp; omega))
  go_wp2_with fail
  refine (HY.out _ b1).mono ?_
  rintro e w2 ⟨rfl, h2⟩
  have h12 := h1.trans (h2.mono h1.size)
  obtain ⟨q1, q2, q3, q4, q5, q6, q7⟩ := box3_keep h12
  have b2 := b1.trans (h2.mono b1.size)
  clear p1 p2 p3 p4 p5 p6 p7
  go_wp2_with fail
  go_loopg [6, 7, 8] (n + m) (fun g s6 s7 s8 wr => ∃ (a b t : Nat) (R Q : Option Addr) (cc dd : Nat), s6 = .slice R (limbs a).length cc ∧ s7 = .slice Q (limbs b).length dd ∧ s8 = .int .i64 t ∧ Mg wr R cc (limbs a) ∧ Mg wr Q dd (limbs b) ∧ (limbs a).length ≤ 512 ∧ (limbs b).length ≤ 512 ∧ t ≤ 16384 ∧ Below w2.heap.size w2 wr ∧ Hid (g = a + b) ∧ Hid (Nat.gcd a b * 2 ^ t = G))
  case atStart => exact ⟨n, m, 0, A, B, c, d, rfl, rfl, rfl, MX.out _ b2, MY.out _ b2, lX, lY, by omega, Below.refl _ _, rfl, by unfold Hid; rw [hG.out]; simp⟩
  case round =>
    clear lX lY MX MY HX HY
    obtain ⟨a, b, t, R, Q, cc, dd, rfl, rfl, rfl, hr, hq, la, lb_, ht, hbl, hg, hgc⟩ := hrel
    have hsz := hbl.size
    by_cases ha0 : a = 0
    · have hab : Nat.gcd a b = a + b := by rw [ha0]; simp
      have e0 : ((limbs a).length : Int) = 0 := by rw [ha0]; simp [limbs_zero]
      clear HH2 HM HO ha0
      have hz0 := hbl.size
      obtain ⟨H, hHe⟩ : ∃ H, a + b = H := ⟨_, rfl⟩
      have hH : Hid (H * 2 ^ t = G) := by unfold Hid; rw [← hHe, ← hab]; exact hgc.out
      have HP1 := HP.out _ _ _ _ _ _ _ hr hq la lb_
      rw [hHe] at HP1
      have HP1 := hid HP1
      clear hgc hab hg hr hq hHe
      go_wp2_with fail
      refine (HP1.out).mono ?_
      rintro e w3 ⟨R3, c3, rfl, hr3, h3⟩
      have hbl3 := hbl.trans (h3.mono hbl.size)
      clear HP1
      have hHl := hid fun (i : Nat) (hi : i ≤ t) => (show (limbs (H * 2 ^ i)).length ≤ 512 from Nat.le_trans (limbs_mono (by rw [← hH.out]; exact Nat.mul_le_mul_left _ (Nat.pow_le_pow_right (by omega) hi))) HG.out)
      have e0 := hid (show H * 2 ^ 0 = H by simp)
      go_wp2_with fail
      go_loopw [9, 10] (fun s9 s10 wq => ∃ (i : Nat) (R : Option Addr) (cc : Nat), s9 = .slice R (limbs (H * 2 ^ i)).length cc ∧ s10 = .int .i64 i ∧ i ≤ t ∧ Mg wq R cc (limbs (H * 2 ^ i)) ∧ Below w2.heap.size w2 wq) (fun _ s10 _ => t - (intOf s10).toNat)
      case atStart => exact ⟨0, R3, c3, by rw [e0.out], rfl, by omega, by rw [e0.out]; exact hr3, hbl3⟩
      case round =>
        clear hr3 h3 hbl3 hbl hsz hz0
        obtain ⟨i, R5, c5, rfl, rfl, hi, hr5, hbl5⟩ := hrel
        by_cases hit : i < t
        · have hl5 := hHl.out i hi
          have HPi := hid (HP.out _ _ _ _ _ _ _ hr5 hr5 hl5 hl5)
          rw [dbl] at HPi
          go_wp2_with fail
          refine (HPi.out).mono ?_
          rintro e w6 ⟨R6, c6, rfl, hr6, h6⟩
          go_wp2_with fail
          go_roundw
          case rel => exact ⟨i + 1, R6, c6, rfl, by go_num, by omega, hr6, hbl5.trans (h6.mono hbl5.size)⟩
          case measure => simp [intOf]; omega
        · obtain rfl : i = t := by omega
          have hl5 := hHl.out i hi
          rw [hH.out] at hr5 hl5 ⊢
          go_wp2_with fail
          refine (HS.out _ _ _ _ hr5 hl5).mono ?_
          rintro e w3 ⟨R, cc, rfl, hr, h36⟩
          have h3 := hbl5.trans (h36.mono hbl5.size)
          have h13 := h12.trans (h3.mono h12.size)
          obtain ⟨r1, r2, r3, r4, r5, r6, r7⟩ := box3_keep h13
          have b3 := b2.trans (h3.mono b2.size)
          have k0 := r5 0
          have k1 := r5 1
          simp at k0 k1
          go_wp2
          refine bodyPost_ret (v := .tuple #[.agg #[.bool (decide ((((G : Nat) : Int)) < 0)), .slice R (limbs (Int.natAbs (((G : Nat) : Int)))).length cc], .int .i64 0]) ?_ rfl ?_
          · simp [results, Tryd.results18, go_sem, k0, k1]
          · exact fin_ze hr b3 (by omega) k0 k1 _ _
    · have hla : 0 < (limbs a).length := by rw [limbs_pos ha0]; simp
      by_cases hb0 : b = 0
      · have hab : Nat.gcd a b = a + b := by rw [hb0]; simp
        have e0 : ((limbs b).length : Int) = 0 := by rw [hb0]; simp [limbs_zero]
        clear HH2 HM HO ha0 hb0
        have hz0 := hbl.size
        obtain ⟨H, hHe⟩ : ∃ H, a + b = H := ⟨_, rfl⟩
        have hH : Hid (H * 2 ^ t = G) := by unfold Hid; rw [← hHe, ← hab]; exact hgc.out
        have HP1 := HP.out _ _ _ _ _ _ _ hr hq la lb_
        rw [hHe] at HP1
        have HP1 := hid HP1
        clear hgc hab hg hr hq hHe
        go_wp2_with fail
        refine (HP1.out).mono ?_
        rintro e w3 ⟨R3, c3, rfl, hr3, h3⟩
        have hbl3 := hbl.trans (h3.mono hbl.size)
        clear HP1
        have hHl := hid fun (i : Nat) (hi : i ≤ t) => (show (limbs (H * 2 ^ i)).length ≤ 512 from Nat.le_trans (limbs_mono (by rw [← hH.out]; exact Nat.mul_le_mul_left _ (Nat.pow_le_pow_right (by omega) hi))) HG.out)
        have e0 := hid (show H * 2 ^ 0 = H by simp)
        go_wp2_with fail
        go_loopw [9, 10] (fun s9 s10 wq => ∃ (i : Nat) (R : Option Addr) (cc : Nat), s9 = .slice R (limbs (H * 2 ^ i)).length cc ∧ s10 = .int .i64 i ∧ i ≤ t ∧ Mg wq R cc (limbs (H * 2 ^ i)) ∧ Below w2.heap.size w2 wq) (fun _ s10 _ => t - (intOf s10).toNat)
        case atStart => exact ⟨0, R3, c3, by rw [e0.out], rfl, by omega, by rw [e0.out]; exact hr3, hbl3⟩
        case round =>
          clear hr3 h3 hbl3 hbl hsz hz0
          obtain ⟨i, R5, c5, rfl, rfl, hi, hr5, hbl5⟩ := hrel
          by_cases hit : i < t
          · have hl5 := hHl.out i hi
            have HPi := hid (HP.out _ _ _ _ _ _ _ hr5 hr5 hl5 hl5)
            rw [dbl] at HPi
            go_wp2_with fail
            refine (HPi.out).mono ?_
            rintro e w6 ⟨R6, c6, rfl, hr6, h6⟩
            go_wp2_with fail
            go_roundw
            case rel => exact ⟨i + 1, R6, c6, rfl, by go_num, by omega, hr6, hbl5.trans (h6.mono hbl5.size)⟩
            case measure => simp [intOf]; omega
          · obtain rfl : i = t := by omega
            have hl5 := hHl.out i hi
            rw [hH.out] at hr5 hl5 ⊢
            go_wp2_with fail
            refine (HS.out _ _ _ _ hr5 hl5).mono ?_
            rintro e w3 ⟨R, cc, rfl, hr, h36⟩
            have h3 := hbl5.trans (h36.mono hbl5.size)
            have h13 := h12.trans (h3.mono h12.size)
            obtain ⟨r1, r2, r3, r4, r5, r6, r7⟩ := box3_keep h13
            have b3 := b2.trans (h3.mono b2.size)
            have k0 := r5 0
            have k1 := r5 1
            simp at k0 k1
            go_wp2
            refine bodyPost_ret (v := .tuple #[.agg #[.bool (decide ((((G : Nat) : Int)) < 0)), .slice R (limbs (Int.natAbs (((G : Nat) : Int)))).length cc], .int .i64 0]) ?_ rfl ?_
            · simp [results, Tryd.results18, go_sem, k0, k1]
            · exact fin_ze hr b3 (by omega) k0 k1 _ _
      · have hlb : 0 < (limbs b).length := by rw [limbs_pos hb0]; simp
        have hsx := hr
        have hsy := hq
        obtain ⟨ba, oa, rfl, hba, hca⟩ := hr.rd.at_ hla
        obtain ⟨bb, ob, rfl, hbb, hcb⟩ := hq.rd.at_ hlb
        have c1 : wr.cell? ⟨ba, oa, none⟩ = some (lim (limbs a)[0]) := hca 0 hla
        have c2 : wr.cell? ⟨bb, ob, none⟩ = some (lim (limbs b)[0]) := hcb 0 hlb
        have pa := limb0 ha0 hla
        have pb := limb0 hb0 hlb
        unfold lim at c1 c2
        clear hca hcb
        generalize (limbs a)[0] = p at *
        generalize (limbs b)[0] = q at *
        have hgp : 0 < Nat.gcd a b := Nat.gcd_pos_of_pos_left _ (by omega)
        rcases Nat.mod_two_eq_zero_or_one a with hpa | hpa
        · have ta : ((p : Int) % 2 == 0) = true := by rw [beq_iff_eq]; omega
          rcases Nat.mod_two_eq_zero_or_one b with hpb | hpb
          · have tb : ((q : Int) % 2 == 0) = true := by rw [beq_iff_eq]; omega
            have HN := hid (gA hgc.out hpa hpb)
            have ht1 := twos_le (Nat.gcd_pos_of_pos_left _ (by omega)) HN.out HG.out
            have hgg := hid (show a / 2 + b / 2 < a + b by omega)
            have l3 := Nat.le_trans (limbs_mono (Nat.div_le_self a 2)) la
            have l4 := Nat.le_trans (limbs_mono (Nat.div_le_self b 2)) lb_
            have HC1 := hid (HH2.out _ _ _ _ hr la)
            have HC2 := hid fun w1 h => HH2.out w1 _ _ _ (hq.below h) lb_
            clear hgc HH2 HM HO HP HS hgp
            generalize a / 2 = a2 at *
            generalize b / 2 = b2_ at *
            go_wp2_with fail
            refine (HC1.out).mono ?_
            rintro e w3 ⟨R3, c3, rfl, hr3, h3⟩
            go_wp2_with fail
            refine (HC2.out _ h3).mono ?_
            rintro e w4 ⟨R4, c4, rfl, hr4, h4⟩
            go_wp2_with fail
            go_roundg (a2 + b2_)
            case rel => exact ⟨a2, b2_, t + 1, R3, R4, c3, c4, rfl, rfl, by first | rfl | go_num, hr3.below h4, hr4, l3, l4, by omega, hbl.trans ((h3.trans (h4.mono h3.size)).mono hsz), rfl, HN⟩
            case measure => rw [hg.out]; exact hgg.out
          · have tb : ((q : Int) % 2 == 0) = false := by rw [beq_eq_false_iff_ne]; omega
            have HN := hid (gB hgc.out hpa hpb)
            have hgg := hid (show a / 2 + b < a + b by omega)
            have l3 := Nat.le_trans (limbs_mono (Nat.div_le_self a 2)) la
            have HC1 := hid (HH2.out _ _ _ _ hr la)
            clear hgc HH2 HM HO HP HS hgp
            generalize a / 2 = a2 at *
            go_wp2_with fail
            refine (HC1.out).mono ?_
            rintro e w3 ⟨R3, c3, rfl, hr3, h3⟩
            go_wp2_with fail
            go_roundg (a2 + b)
            case rel => exact ⟨a2, b, t, R3, _, c3, dd, rfl, rfl, by first | rfl | go_num, hr3, hq.below h3, l3, lb_, ht, hbl.trans (h3.mono hsz), rfl, HN⟩
            case measure => rw [hg.out]; exact hgg.out
        · have ta : ((p : Int) % 2 == 0) = false := by rw [beq_eq_false_iff_ne]; omega
          rcases Nat.mod_two_eq_zero_or_one b with hpb | hpb
          · have tb : ((q : Int) % 2 == 0) = true := by rw [beq_iff_eq]; omega
            have HN := hid (gC hgc.out hpa hpb)
            have hgg := hid (show a + b / 2 < a + b by omega)
            have l3 := Nat.le_trans (limbs_mono (Nat.div_le_self b 2)) lb_
            have HC1 := hid (HH2.out _ _ _ _ hq lb_)
            clear hgc HH2 HM HO HP HS hgp
            generalize b / 2 = b2_ at *
            go_wp2_with fail
            refine (HC1.out).mono ?_
            rintro e w3 ⟨R3, c3, rfl, hr3, h3⟩
            go_wp2_with fail
            go_roundg (a + b2_)
            case rel => exact ⟨a, b2_, t, _, R3, cc, c3, rfl, rfl, by first | rfl | go_num, hr.below h3, hr3, la, l3, ht, hbl.trans (h3.mono hsz), rfl, HN⟩
            case measure => rw [hg.out]; exact hgg.out
          · have tb : ((q : Int) % 2 == 0) = false := by rw [beq_eq_false_iff_ne]; omega
            have HO1 := hid (HO.out _ _ _ _ _ _ _ hr hq la lb_)
            by_cases hle : b ≤ a
            · have HN := hid (show Nat.gcd (a - b) b * 2 ^ t = G by rw [gcd_sub1 hle]; exact hgc.out)
              have hgg := hid (show a - b + b < a + b by omega)
              have l3 := Nat.le_trans (limbs_mono (Nat.sub_le a b)) la
              have HC1 := hid fun w1 h => HM.out w1 _ _ _ _ _ _ (hr.below h) (hq.below h) la lb_ hle
              have ho : 0 ≤ ord a b := by unfold ord; rw [if_neg (by omega)]; split <;> omega
              clear hgc HH2 HM HO HP HS hgp
              generalize ord a b = ov at *
              generalize a - b = a2 at *
              go_wp2_with fail
              refine (HO1.out).mono ?_
              rintro e w3 ⟨rfl, h3⟩
              go_wp2_with fail
              refine (HC1.out _ h3).mono ?_
              rintro e w4 ⟨R4, c4, rfl, hr4, h4⟩
              go_wp2_with fail
              go_roundg (a2 + b)
              case rel => exact ⟨a2, b, t, R4, _, c4, dd, rfl, rfl, by first | rfl | go_num, hr4, hq.below (h3.trans (h4.mono h3.size)), l3, lb_, ht, hbl.trans ((h3.trans (h4.mono h3.size)).mono hsz), rfl, HN⟩
              case measure => rw [hg.out]; exact hgg.out
            · have HN := hid (show Nat.gcd a (b - a) * 2 ^ t = G by rw [gcd_sub2 (by omega)]; exact hgc.out)
              have hgg := hid (show a + (b - a) < a + b by omega)
              have l3 := Nat.le_trans (limbs_mono (Nat.sub_le b a)) lb_
              have HC1 := hid fun w1 h => HM.out w1 _ _ _ _ _ _ (hq.below h) (hr.below h) lb_ la (by omega)
              have ho : ord a b = -1 := ord_lt (by omega)
              rw [ho] at HO1
              clear hgc HH2 HM HO HP HS hgp
              generalize b - a = b2_ at *
              go_wp2_with fail
              refine (HO1.out).mono ?_
              rintro e w3 ⟨rfl, h3⟩
              go_wp2_with fail
              refine (HC1.out _ h3).mono ?_
              rintro e w4 ⟨R4, c4, rfl, hr4, h4⟩
              go_wp2_with fail
              go_roundg (a + b2_)
              case rel => exact ⟨a, b2_, t, _, R4, cc, c4, rfl, rfl, by first | rfl | go_num, hr.below (h3.trans (h4.mono h3.size)), hr4, la, l3, ht, hbl.trans ((h3.trans (h4.mono h3.size)).mono hsz), rfl, HN⟩
              case measure => rw [hg.out]; exact hgg.out

set_option maxHeartbeats 1000000 in
theorem RGCD_bad1 (na nb : Bool) (xs ys : List Nat) (A B : Option Addr) (c d : Nat) (w : World) (ha : Mg w A c xs) (h : validB na xs = false) :
    Calls Tryd.prog 18 #[.agg #[.bool na, .slice A xs.length c], .agg #[.bool nb, .slice B ys.length d]] w (RetZE w 0 1) := by
  have HX := hid fun (w1 : World) (h1 : Below w.heap.size w w1) => RValid_f (ha.below h1) h
  clear ha h
  generalize xs.length = lx at *
  generalize ys.length = ly at *
  go_enter Tryd.func18, Tryd.ntmps18
  go_wp2_with fail
  refine (HX.out _ (by repeat (first | assumption | exact Below.refl _ _ | refine Below.alloc ?_ (by simp; try omega) _ | refine Below.drew ?_ | refine below_drewN ?_ _))).mono ?_
  rintro e w1 ⟨rfl, h1⟩
  obtain ⟨p1, p2, p3, p4, p5, p6, p7⟩ := box3_keep h1
  have b1 : Below w.heap.size w w1 := Below.trans (b := _) (by repeat (first | assumption | exact Below.refl _ _ | refine Below.alloc ?_ (by simp; try omega) _ | refine Below.drew ?_ | refine below_drewN ?_ _)) (h1.mono (by simp; omega))
  have k0 := p5 0
  have k1 := p5 1
  simp at k0 k1
  go_wp2
  refine bodyPost_ret (v := .tuple #[.agg #[.bool false, .slice none 0 0], .int .i64 1]) ?_ rfl ?_
  · simp [results, Tryd.results18, go_sem, k0, k1]
  · exact retZE_zero 1 (below_set (below_set b1 (by omega) _ _) (by omega) _ _)

set_option maxHeartbeats 1000000 in
theorem RGCD_bad2 (x : Int) (nb : Bool) (ys : List Nat) (A B : Option Addr) (c d : Nat) (w : World) (ha : Mg w A c (limbs x.natAbs)) (hb : Mg w B d ys) (fx : fits x) (h : validB nb ys = false) :
    Calls Tryd.prog 18 #[.agg #[.bool (decide ((x) < 0)), .slice A (limbs (Int.natAbs (x))).length c], .agg #[.bool nb, .slice B ys.length d]] w (RetZE w 0 1) := by
  have HX := hid fun (w1 : World) (h : Below w.heap.size w w1) => RValid_t (ha.below h) fx
  have HY := hid fun (w1 : World) (h1 : Below w.heap.size w w1) => RValid_f (hb.below h1) h
  clear ha hb fx h
  generalize decide (x < 0) = bx at *
  generalize (limbs x.natAbs).length = lx at *
  generalize ys.length = ly at *
  go_enter Tryd.func18, Tryd.ntmps18
  go_wp2_with fail
  refine (HX.out _ (by repeat (first | assumption | exact Below.refl _ _ | refine Below.alloc ?_ (by simp; try omega) _ | refine Below.drew ?_ | refine below_drewN ?_ _))).mono ?_
  rintro e w1 ⟨rfl, h1⟩
  obtain ⟨p1, p2, p3, p4, p5, p6, p7⟩ := box3_keep h1
  have b1 : Below w.heap.size w w1 := Below.trans (b := _) (by repeat (first | assumption | exact Below.refl _ _ | refine Below.alloc ?_ (by simp; try omega) _ | refine Below.drew ?_ | refine below_drewN ?_ _)) (h1.mono (by simp; omega))
  go_wp2_with fail
  refine (HY.out _ b1).mono ?_
  rintro e w2 ⟨rfl, h2⟩
  have h12 := h1.trans (h2.mono h1.size)
  obtain ⟨q1, q2, q3, q4, q5, q6, q7⟩ := box3_keep h12
  have b2 := b1.trans (h2.mono b1.size)
  have k0 := q5 0
  have k1 := q5 1
  simp at k0 k1
  go_wp2
  refine bodyPost_ret (v := .tuple #[.agg #[.bool false, .slice none 0 0], .int .i64 1]) ?_ rfl ?_
  · simp [results, Tryd.results18, go_sem, k0, k1]
  · exact retZE_zero 1 (below_set (below_set b2 (by omega) _ _) (by omega) _ _)

end Go.Proofs.YtkfpcohdbbhmaaaDoor
