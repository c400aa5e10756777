/- The reference: walks of Neg, Cmp, Mul, Add. Conditions: none. -/
import Derived.Test.YtkfpcohdbbhmaaaDoorRfB
namespace Go.Proofs.YtkfpcohdbbhmaaaDoor
set_option linter.unusedVariables false
set_option linter.unusedSimpArgs false
open Go.RowKit Big

section
variable (A B : Option Addr) (c d n m : Nat) (w : World) (ha : Mg w A c (limbs n)) (hb : Mg w B d (limbs m)) (hs : (limbs n).length ≤ 1048576) (ht : (limbs m).length ≤ 1048576)
include ha hs
theorem Rsigned_n (neg : Bool) : Calls Tryd.prog 56 #[.bool neg, .slice A (limbs n).length c] w (RetZ w (sg neg n)) := by
  have _h := hs
  have := Rsigned_any neg A c _ w ha (by omega); rwa [val_limbs] at this
theorem Rlimit_n (neg : Bool) : Calls Tryd.prog 75 #[.bool neg, .slice A (limbs n).length c] w (RetF w (sg neg n)) := by
  have _h := hs
  have := Rlimit_any neg A c _ w ha (by omega); rwa [val_limbs] at this
theorem Rhalf_n : Calls Tryd.prog 60 #[.slice A (limbs n).length c] w (RetN w (n / 2)) := by
  have _h := hs
  have := Rhalf_fr A c _ w ha (by omega); rw [val_limbs] at this; exact this.mono fun _ _ h => h.any
include hb ht
theorem Rorder_n : Calls Tryd.prog 61 #[.slice A (limbs n).length c, .slice B (limbs m).length d] w (RetI w (ord n m)) := by
  have _h := hs
  have _h := ht
  have := Rorder_any A B c d _ _ w ha hb (by omega) (by omega); rw [val_limbs, val_limbs] at this; exact this.mono fun e w' ⟨h1, h2⟩ => ⟨h1, by rw [h2]; exact Below.refl _ _⟩
theorem Rplus_n : Calls Tryd.prog 57 #[.slice A (limbs n).length c, .slice B (limbs m).length d] w (RetN w (n + m)) := by
  have := Rplus_fr A B c d _ _ w ha hb hs ht; rw [val_limbs, val_limbs] at this; exact this.mono fun _ _ h => h.any
theorem Rtimes_n : Calls Tryd.prog 76 #[.slice A (limbs n).length c, .slice B (limbs m).length d] w (RetN w (n * m)) := by
  have := Rtimes_any A B c d _ _ w ha hb hs ht; rwa [val_limbs, val_limbs] at this
theorem Rminus_n (hle : m ≤ n) : Calls Tryd.prog 58 #[.slice A (limbs n).length c, .slice B (limbs m).length d] w (RetN w (n - m)) := by
  have _h := ht
  have := Rminus_fr A B c d _ _ w ha hb hs (limbs_mono hle) (by rw [val_limbs, val_limbs]; exact hle); rw [val_limbs, val_limbs] at this; exact this.mono fun _ _ h => h.any
end

set_option maxHeartbeats 1000000 in
theorem RNeg_ok (x : Int) (A : Option Addr) (c : Nat) (w : World) (ha : Mg w A c (limbs x.natAbs)) (fx : fits x) :
    Calls Tryd.prog 47 #[.agg #[.bool (decide ((x) < 0)), .slice A (limbs (Int.natAbs (x))).length c]] w (RetZ w (-x)) := by
  have HX := hid fun (w1 : World) (h1 : Below w.heap.size w w1) => RValid_t (ha.below h1) fx
  have HI := hid fun (w1 : World) (h1 : Below w.heap.size w w1) => by
    have h2 := Rsigned_n A c x.natAbs w1 (ha.below h1) (Nat.le_trans fx (by omega)) (!decide (x < 0))
    rw [sg_not] at h2
    exact h2
  clear ha fx
  generalize decide (x < 0) = bx at *
  generalize (limbs x.natAbs).length = lx at *
  go_enter Tryd.func47, Tryd.ntmps47
  go_wp2_with fail
  refine (HX.out _ (by repeat (first | assumption | exact Below.refl _ _ | refine Below.alloc ?_ (by simp; try omega) _ | refine Below.drew ?_ | refine below_drewN ?_ _))).mono ?_
  rintro e w1 ⟨rfl, h1⟩
  obtain ⟨p1, p2, p3, p4, p5⟩ := box2_keep h1
  have b1 : Below w.heap.size w w1 := Below.trans (b := _) (by repeat (first | assumption | exact Below.refl _ _ | refine Below.alloc ?_ (by simp; try omega) _ | refine Below.drew ?_ | refine below_drewN ?_ _)) (h1.mono (by simp; omega))
  go_wp2_with fail
  refine (HI.out _ b1).mono ?_
  rintro e w2 ⟨R, cc, rfl, hr, h2⟩
  have h12 := h1.trans (h2.mono h1.size)
  obtain ⟨q1, q2, q3, q4, q5⟩ := box2_keep h12
  have b2 := b1.trans (h2.mono b1.size)
  have k0 := q3 0
  have k1 := q3 1
  simp at k0 k1
  go_wp2
  refine bodyPost_ret (v := .agg #[.bool (decide ((-x) < 0)), .slice R (limbs (Int.natAbs (-x))).length cc]) ?_ rfl ?_
  · simp [results, Tryd.results47, go_sem, k0, k1]
  · exact fin_z hr b2 (by omega) k0 k1 _ _

theorem RNeg_bad (na : Bool) (xs : List Nat) (A : Option Addr) (c : Nat) (w : World) (ha : Mg w A c xs) (h : validB na xs = false) :
    Calls Tryd.prog 47 #[.agg #[.bool na, .slice A xs.length c]] w (RetZ w 0) := by
  have HX := hid fun (w1 : World) (h1 : Below w.heap.size w w1) => RValid_f (ha.below h1) h
  clear ha h
  generalize xs.length = lx at *
  go_enter Tryd.func47, Tryd.ntmps47
  go_wp2_with fail
  refine (HX.out _ (by repeat (first | assumption | exact Below.refl _ _ | refine Below.alloc ?_ (by simp; try omega) _ | refine Below.drew ?_ | refine below_drewN ?_ _))).mono ?_
  rintro e w1 ⟨rfl, h1⟩
  obtain ⟨p1, p2, p3, p4, p5⟩ := box2_keep h1
  have b1 : Below w.heap.size w w1 := Below.trans (b := _) (by repeat (first | assumption | exact Below.refl _ _ | refine Below.alloc ?_ (by simp; try omega) _ | refine Below.drew ?_ | refine below_drewN ?_ _)) (h1.mono (by simp; omega))
  have k0 := p3 0
  have k1 := p3 1
  simp at k0 k1
  go_wp2
  refine bodyPost_ret (v := .agg #[.bool false, .slice none 0 0]) ?_ rfl ?_
  · simp [results, Tryd.results47, go_sem, k0, k1]
  · exact retZ_zero (below_set (below_set b1 (by omega) _ _) (by omega) _ _)

set_option maxHeartbeats 1000000 in
theorem RCmp_ok (x y : Int) (A B : Option Addr) (c d : Nat) (w : World) (ha : Mg w A c (limbs x.natAbs)) (hb : Mg w B d (limbs y.natAbs)) (fx : fits x) (fy : fits y) :
    Calls Tryd.prog 48 #[.agg #[.bool (decide ((x) < 0)), .slice A (limbs (Int.natAbs (x))).length c], .agg #[.bool (decide ((y) < 0)), .slice B (limbs (Int.natAbs (y))).length d]] w (RetI w (zord x y)) := by
  have HX := hid fun (w1 : World) (h : Below w.heap.size w w1) => RValid_t (ha.below h) fx
  have HY := hid fun (w1 : World) (h : Below w.heap.size w w1) => RValid_t (hb.below h) fy
  have HC := hid fun (w1 : World) (h : Below w.heap.size w w1) => Rorder_n A B c d x.natAbs y.natAbs w1 (ha.below h) (hb.below h) (Nat.le_trans fx (by omega)) (Nat.le_trans fy (by omega))
  have HD := hid fun (w1 : World) (h : Below w.heap.size w w1) => Rorder_n B A d c y.natAbs x.natAbs w1 (hb.below h) (ha.below h) (Nat.le_trans fy (by omega)) (Nat.le_trans fx (by omega))
  by_cases hx : x < 0
  · have ex : decide (x < 0) = true := by simpa using hx
    rw [ex] at HX ⊢
    by_cases hy : y < 0
    · have ey : decide (y < 0) = true := by simpa using hy
      rw [ey] at HY ⊢
      have hz := zord_nn hx hy
      rw [hz] at HD
      clear ha hb fx fy ex ey hx hy hz
      generalize hlx : (limbs x.natAbs).length = lx at *
      generalize hly : (limbs y.natAbs).length = ly at *
      clear hlx hly
      go_enter Tryd.func48, Tryd.ntmps48
      go_wp2_with fail
      refine (HX.out _ (by repeat (first | assumption | exact Below.refl _ _ | refine Below.alloc ?_ (by simp; try omega) _ | refine Below.drew ?_ | refine below_drewN ?_ _))).mono ?_
      rintro e w1 ⟨rfl, h1⟩
      obtain ⟨p1, p2, p3, p4, p7⟩ := box2_keep h1
      have b1 : Below w.heap.size w w1 := Below.trans (b := _) (by repeat (first | assumption | exact Below.refl _ _ | refine Below.alloc ?_ (by simp; try omega) _ | refine Below.drew ?_ | refine below_drewN ?_ _)) (h1.mono (by simp; omega))
      go_wp2_with fail
      refine (HY.out _ b1).mono ?_
      rintro e w2 ⟨rfl, h2⟩
      have h12 := h1.trans (h2.mono h1.size)
      obtain ⟨q1, q2, q3, q4, q7⟩ := box2_keep h12
      have b2 := b1.trans (h2.mono b1.size)
      go_wp2_with (go_at_call 61; refine (HD.out _ b2).mono ?_; rintro e w3 ⟨rfl, h3⟩)
      go_ret
      exact ⟨rfl, b2.trans (h3.mono b2.size)⟩
    · have ey : decide (y < 0) = false := by simpa using hy
      rw [ey] at HY ⊢
      have hz : zord x y = -1 := by unfold zord; rw [if_pos (by omega)]
      rw [hz]
      clear ha hb fx fy ex ey hx hy hz
      generalize hlx : (limbs x.natAbs).length = lx at *
      generalize hly : (limbs y.natAbs).length = ly at *
      clear hlx hly
      go_enter Tryd.func48, Tryd.ntmps48
      go_wp2_with fail
      refine (HX.out _ (by repeat (first | assumption | exact Below.refl _ _ | refine Below.alloc ?_ (by simp; try omega) _ | refine Below.drew ?_ | refine below_drewN ?_ _))).mono ?_
      rintro e w1 ⟨rfl, h1⟩
      obtain ⟨p1, p2, p3, p4, p7⟩ := box2_keep h1
      have b1 : Below w.heap.size w w1 := Below.trans (b := _) (by repeat (first | assumption | exact Below.refl _ _ | refine Below.alloc ?_ (by simp; try omega) _ | refine Below.drew ?_ | refine below_drewN ?_ _)) (h1.mono (by simp; omega))
      go_wp2_with fail
      refine (HY.out _ b1).mono ?_
      rintro e w2 ⟨rfl, h2⟩
      have h12 := h1.trans (h2.mono h1.size)
      obtain ⟨q1, q2, q3, q4, q7⟩ := box2_keep h12
      have b2 := b1.trans (h2.mono b1.size)
      go_wp2
      go_ret
      exact ⟨rfl, b2⟩
  · have ex : decide (x < 0) = false := by simpa using hx
    rw [ex] at HX ⊢
    by_cases hy : y < 0
    · have ey : decide (y < 0) = true := by simpa using hy
      rw [ey] at HY ⊢
      have hz : zord x y = 1 := by unfold zord; rw [if_neg (by omega), if_pos (by omega)]
      rw [hz]
      clear ha hb fx fy ex ey hx hy hz
      generalize hlx : (limbs x.natAbs).length = lx at *
      generalize hly : (limbs y.natAbs).length = ly at *
      clear hlx hly
      go_enter Tryd.func48, Tryd.ntmps48
      go_wp2_with fail
      refine (HX.out _ (by repeat (first | assumption | exact Below.refl _ _ | refine Below.alloc ?_ (by simp; try omega) _ | refine Below.drew ?_ | refine below_drewN ?_ _))).mono ?_
      rintro e w1 ⟨rfl, h1⟩
      obtain ⟨p1, p2, p3, p4, p7⟩ := box2_keep h1
      have b1 : Below w.heap.size w w1 := Below.trans (b := _) (by repeat (first | assumption | exact Below.refl _ _ | refine Below.alloc ?_ (by simp; try omega) _ | refine Below.drew ?_ | refine below_drewN ?_ _)) (h1.mono (by simp; omega))
      go_wp2_with fail
      refine (HY.out _ b1).mono ?_
      rintro e w2 ⟨rfl, h2⟩
      have h12 := h1.trans (h2.mono h1.size)
      obtain ⟨q1, q2, q3, q4, q7⟩ := box2_keep h12
      have b2 := b1.trans (h2.mono b1.size)
      go_wp2
      go_ret
      exact ⟨rfl, b2⟩
    · have ey : decide (y < 0) = false := by simpa using hy
      rw [ey] at HY ⊢
      have hz := zord_pp hx hy
      rw [hz] at HC
      clear ha hb fx fy ex ey hx hy hz
      generalize hlx : (limbs x.natAbs).length = lx at *
      generalize hly : (limbs y.natAbs).length = ly at *
      clear hlx hly
      go_enter Tryd.func48, Tryd.ntmps48
      go_wp2_with fail
      refine (HX.out _ (by repeat (first | assumption | exact Below.refl _ _ | refine Below.alloc ?_ (by simp; try omega) _ | refine Below.drew ?_ | refine below_drewN ?_ _))).mono ?_
      rintro e w1 ⟨rfl, h1⟩
      obtain ⟨p1, p2, p3, p4, p7⟩ := box2_keep h1
      have b1 : Below w.heap.size w w1 := Below.trans (b := _) (by repeat (first | assumption | exact Below.refl _ _ | refine Below.alloc ?_ (by simp; try omega) _ | refine Below.drew ?_ | refine below_drewN ?_ _)) (h1.mono (by simp; omega))
      go_wp2_with fail
      refine (HY.out _ b1).mono ?_
      rintro e w2 ⟨rfl, h2⟩
      have h12 := h1.trans (h2.mono h1.size)
      obtain ⟨q1, q2, q3, q4, q7⟩ := box2_keep h12
      have b2 := b1.trans (h2.mono b1.size)
      go_wp2_with (go_at_call 61; refine (HC.out _ b2).mono ?_; rintro e w3 ⟨rfl, h3⟩)
      go_ret
      exact ⟨rfl, b2.trans (h3.mono b2.size)⟩

set_option maxHeartbeats 1000000 in
theorem RCmp_bad1 (na nb : Bool) (xs ys : List Nat) (A B : Option Addr) (c d : Nat) (w : World) (ha : Mg w A c xs) (h : validB na xs = false) :
    Calls Tryd.prog 48 #[.agg #[.bool na, .slice A xs.length c], .agg #[.bool nb, .slice B ys.length d]] w (RetI w 0) := by
  have HX := hid fun (w1 : World) (h1 : Below w.heap.size w w1) => RValid_f (ha.below h1) h
  clear ha h
  generalize xs.length = lx at *
  generalize ys.length = ly at *
  go_enter Tryd.func48, Tryd.ntmps48
  go_wp2_with fail
  refine (HX.out _ (by repeat (first | assumption | exact Below.refl _ _ | refine Below.alloc ?_ (by simp; try omega) _ | refine Below.drew ?_ | refine below_drewN ?_ _))).mono ?_
  rintro e w1 ⟨rfl, h1⟩
  obtain ⟨p1, p2, p3, p4, p7⟩ := box2_keep h1
  have b1 : Below w.heap.size w w1 := Below.trans (b := _) (by repeat (first | assumption | exact Below.refl _ _ | refine Below.alloc ?_ (by simp; try omega) _ | refine Below.drew ?_ | refine below_drewN ?_ _)) (h1.mono (by simp; omega))
  go_wp2
  go_ret
  exact ⟨rfl, b1⟩

set_option maxHeartbeats 1000000 in
theorem RCmp_bad2 (x : Int) (nb : Bool) (ys : List Nat) (A B : Option Addr) (c d : Nat) (w : World) (ha : Mg w A c (limbs x.natAbs)) (hb : Mg w B d ys) (fx : fits x) (h : validB nb ys = false) :
    Calls Tryd.prog 48 #[.agg #[.bool (decide ((x) < 0)), .slice A (limbs (Int.natAbs (x))).length c], .agg #[.bool nb, .slice B ys.length d]] w (RetI w 0) := by
  have HX := hid fun (w1 : World) (h : Below w.heap.size w w1) => RValid_t (ha.below h) fx
  have HY := hid fun (w1 : World) (h1 : Below w.heap.size w w1) => RValid_f (hb.below h1) h
  clear ha hb fx h
  generalize decide (x < 0) = bx at *
  generalize (limbs x.natAbs).length = lx at *
  generalize ys.length = ly at *
  go_enter Tryd.func48, Tryd.ntmps48
  go_wp2_with fail
  refine (HX.out _ (by repeat (first | assumption | exact Below.refl _ _ | refine Below.alloc ?_ (by simp; try omega) _ | refine Below.drew ?_ | refine below_drewN ?_ _))).mono ?_
  rintro e w1 ⟨rfl, h1⟩
  obtain ⟨p1, p2, p3, p4, p7⟩ := box2_keep h1
  have b1 : Below w.heap.size w w1 := Below.trans (b := _) (by repeat (first | assumption | exact Below.refl _ _ | refine Below.alloc ?_ (by simp; try omega) _ | refine Below.drew ?_ | refine below_drewN ?_ _)) (h1.mono (by simp; omega))
  go_wp2_with fail
  refine (HY.out _ b1).mono ?_
  rintro e w2 ⟨rfl, h2⟩
  have b2 := b1.trans (h2.mono b1.size)
  go_wp2
  go_ret
  exact ⟨rfl, b2⟩

set_option maxHeartbeats 1000000 in
theorem RMul_ok (x y : Int) (A B : Option Addr) (c d : Nat) (w : World) (ha : Mg w A c (limbs x.natAbs)) (hb : Mg w B d (limbs y.natAbs)) (fx : fits x) (fy : fits y) :
    Calls Tryd.prog 28 #[.agg #[.bool (decide ((x) < 0)), .slice A (limbs (Int.natAbs (x))).length c], .agg #[.bool (decide ((y) < 0)), .slice B (limbs (Int.natAbs (y))).length d]] w (RetF w (x * y)) := by
  have HX := hid fun (w1 : World) (h : Below w.heap.size w w1) => RValid_t (ha.below h) fx
  have HY := hid fun (w1 : World) (h : Below w.heap.size w w1) => RValid_t (hb.below h) fy
  have HM := hid fun (w1 : World) (h : Below w.heap.size w w1) => Rtimes_n A B c d x.natAbs y.natAbs w1 (ha.below h) (hb.below h) (Nat.le_trans fx (by omega)) (Nat.le_trans fy (by omega))
  have HS := hid fun (w1 : World) (A1 : Option Addr) (c1 : Nat) (h : Mg w1 A1 c1 (limbs (x.natAbs * y.natAbs))) => Rlimit_n A1 c1 _ w1 h (Nat.le_trans (limbs_mul_len fx fy) (by omega)) (decide (x < 0) != decide (y < 0))
  rw [sg_mul] at HS
  clear ha hb fx fy
  generalize hbx : decide (x < 0) = bx at *
  generalize hby : decide (y < 0) = by_ at *
  generalize hlx : (limbs x.natAbs).length = lx at *
  generalize hly : (limbs y.natAbs).length = ly at *
  have HH := hid (And.intro hbx (And.intro hby (And.intro hlx hly)))
  clear hbx hby hlx hly
  go_enter Tryd.func28, Tryd.ntmps28
  go_wp2_with fail
  refine (HX.out _ (by repeat (first | assumption | exact Below.refl _ _ | refine Below.alloc ?_ (by simp; try omega) _ | refine Below.drew ?_ | refine below_drewN ?_ _))).mono ?_
  rintro e w1 ⟨rfl, h1⟩
  obtain ⟨p1, p2, p3, p4, p5, p6, p7⟩ := box3_keep h1
  have b1 : Below w.heap.size w w1 := Below.trans (b := _) (by repeat (first | assumption | exact Below.refl _ _ | refine Below.alloc ?_ (by simp; try omega) _ | refine Below.drew ?_ | refine below_drewN ?_ _)) (h1.mono (by simp; omega))
  go_wp2_with fail
  refine (HY.out _ b1).mono ?_
  rintro e w2 ⟨rfl, h2⟩
  have h12 := h1.trans (h2.mono h1.size)
  obtain ⟨q1, q2, q3, q4, q5, q6, q7⟩ := box3_keep h12
  have b2 := b1.trans (h2.mono b1.size)
  go_wp2_with fail
  have b2d := b2.drew
  have h12d := h12.drew
  go_region_held3 (fun w' => w'.cell? ⟨w.heap.size, 0, none⟩ = some (.bool bx) ∧ w'.cell? ⟨w.heap.size, 1, none⟩ = some (.slice A lx c) ∧ w'.cell? ⟨w.heap.size + 1, 0, none⟩ = some (.bool by_) ∧ w'.cell? ⟨w.heap.size + 1, 1, none⟩ = some (.slice B ly d)) (first | exact ⟨(q1 0).trans rfl, (q1 1).trans rfl, (q3 0).trans rfl, (q3 1).trans rfl⟩ | exact ⟨(u1 0).trans rfl, (u1 1).trans rfl, (u3 0).trans rfl, (u3 1).trans rfl⟩ | exact ⟨(r1 0).trans rfl, (r1 1).trans rfl, (r3 0).trans rfl, (r3 1).trans rfl⟩ | (refine ⟨?_, ?_, ?_, ?_⟩ <;> (repeat rw [cell_far (by omega)]) <;> first | exact (r1 0).trans rfl | exact (r1 1).trans rfl | exact (r3 0).trans rfl | exact (r3 1).trans rfl)) (first | (go_at_call 76; refine (HM.out _ b2d).mono ?_; rintro e w3' ⟨R', cc', rfl, hr', h3'⟩; have h13' := h12d.trans (h3'.mono h12d.size); obtain ⟨u1, u2, u3, u4, u5, u6, u7⟩ := box3_keep h13') | (go_at_call 75; refine (HS.out _ _ _ hr').mono ?_; rintro e w3 ⟨R, cc, rfl, hr, h3''⟩; have h3 := h3'.trans (h3''.mono h3'.size); have h13 := h12d.trans (h3.mono h12d.size); obtain ⟨r1, r2, r3, r4, r5, r6, r7⟩ := box3_keep h13))
  have b3 := b2d.trans (h3.mono b2d.size)
  have k0 := r5 0
  have k1 := r5 1
  simp at k0 k1
  go_wp2
  refine bodyPost_ret (v := .tuple #[.agg #[.bool (decide (((fitE (x * y)).1) < 0)), .slice R (limbs (Int.natAbs ((fitE (x * y)).1))).length cc], .int .i64 (fitE (x * y)).2]) ?_ rfl ?_
  · simp [results, Tryd.results28, go_sem, k0, k1]
  · exact fin_ze hr b3 (by omega) k0 k1 _ _

set_option maxHeartbeats 1000000 in
theorem RAdd_ok (x y : Int) (A B : Option Addr) (c d : Nat) (w : World) (ha : Mg w A c (limbs x.natAbs)) (hb : Mg w B d (limbs y.natAbs)) (fx : fits x) (fy : fits y) :
    Calls Tryd.prog 45 #[.agg #[.bool (decide ((x) < 0)), .slice A (limbs (Int.natAbs (x))).length c], .agg #[.bool (decide ((y) < 0)), .slice B (limbs (Int.natAbs (y))).length d]] w (RetF w (x + y)) := by
  have HX := hid fun (w1 : World) (h : Below w.heap.size w w1) => RValid_t (ha.below h) fx
  have HY := hid fun (w1 : World) (h : Below w.heap.size w w1) => RValid_t (hb.below h) fy
  have l1 : (limbs x.natAbs).length ≤ 1048576 := Nat.le_trans fx (by omega)
  have l2 : (limbs y.natAbs).length ≤ 1048576 := Nat.le_trans fy (by omega)
  by_cases hs : decide (x < 0) = decide (y < 0)
  · have HM := hid fun (w1 : World) (h : Below w.heap.size w w1) => Rplus_n A B c d x.natAbs y.natAbs w1 (ha.below h) (hb.below h) l1 l2
    have hz : sg (decide (x < 0)) (x.natAbs + y.natAbs) = x + y := by rw [← sg_same, sg_self, hs, sg_self]
    have hl : (limbs (x.natAbs + y.natAbs)).length ≤ 1048576 := by
      refine Nat.le_trans (limbs_mono (show x.natAbs + y.natAbs ≤ (x.natAbs + y.natAbs) * 1 + 0 by omega)) ?_
      rcases Nat.le_total x.natAbs y.natAbs with h | h
      · refine Nat.le_trans (limbs_mono (show (x.natAbs + y.natAbs) * 1 + 0 ≤ y.natAbs * 2 + 0 by omega)) (Nat.le_trans (limbs_len2 (by omega) (by omega)) ?_)
        have : (limbs y.natAbs).length ≤ 512 := fy
        omega
      · refine Nat.le_trans (limbs_mono (show (x.natAbs + y.natAbs) * 1 + 0 ≤ x.natAbs * 2 + 0 by omega)) (Nat.le_trans (limbs_len2 (by omega) (by omega)) ?_)
        have : (limbs x.natAbs).length ≤ 512 := fx
        omega
    have HS := hid fun (w1 : World) (A1 : Option Addr) (c1 : Nat) (h : Mg w1 A1 c1 (limbs (x.natAbs + y.natAbs))) => Rlimit_n A1 c1 _ w1 h hl (decide (x < 0))
    rw [hz] at HS
    have hs2 : (decide (x < 0) == decide (y < 0)) = true := by simpa using hs
    clear hs hz l1 l2 hl
    clear ha hb fx fy
    generalize hbx : decide (x < 0) = bx at *
    generalize hby : decide (y < 0) = by_ at *
    generalize hlx : (limbs x.natAbs).length = lx at *
    generalize hly : (limbs y.natAbs).length = ly at *
    have HH := hid (And.intro hbx (And.intro hby (And.intro hlx hly)))
    clear hbx hby hlx hly
    go_enter Tryd.func45, Tryd.ntmps45
    go_wp2_with fail
    refine (HX.out _ (by repeat (first | assumption | exact Below.refl _ _ | refine Below.alloc ?_ (by simp; try omega) _ | refine Below.drew ?_ | refine below_drewN ?_ _))).mono ?_
    rintro e w1 ⟨rfl, h1⟩
    obtain ⟨p1, p2, p3, p4, p5, p6, p7⟩ := box3_keep h1
    have b1 : Below w.heap.size w w1 := Below.trans (b := _) (by repeat (first | assumption | exact Below.refl _ _ | refine Below.alloc ?_ (by simp; try omega) _ | refine Below.drew ?_ | refine below_drewN ?_ _)) (h1.mono (by simp; omega))
    go_wp2_with fail
    refine (HY.out _ b1).mono ?_
    rintro e w2 ⟨rfl, h2⟩
    have h12 := h1.trans (h2.mono h1.size)
    obtain ⟨q1, q2, q3, q4, q5, q6, q7⟩ := box3_keep h12
    have b2 := b1.trans (h2.mono b1.size)
    go_wp2_with fail
    have b2d := b2.drew
    have h12d := h12.drew
    go_region_held3 (fun w' => w'.cell? ⟨w.heap.size, 0, none⟩ = some (.bool bx) ∧ w'.cell? ⟨w.heap.size, 1, none⟩ = some (.slice A lx c) ∧ w'.cell? ⟨w.heap.size + 1, 0, none⟩ = some (.bool by_) ∧ w'.cell? ⟨w.heap.size + 1, 1, none⟩ = some (.slice B ly d)) (first | exact ⟨(q1 0).trans rfl, (q1 1).trans rfl, (q3 0).trans rfl, (q3 1).trans rfl⟩ | exact ⟨(u1 0).trans rfl, (u1 1).trans rfl, (u3 0).trans rfl, (u3 1).trans rfl⟩ | exact ⟨(r1 0).trans rfl, (r1 1).trans rfl, (r3 0).trans rfl, (r3 1).trans rfl⟩ | (refine ⟨?_, ?_, ?_, ?_⟩ <;> (repeat rw [cell_far (by omega)]) <;> first | exact (r1 0).trans rfl | exact (r1 1).trans rfl | exact (r3 0).trans rfl | exact (r3 1).trans rfl)) (first | (go_at_call 57; refine (HM.out _ b2d).mono ?_; rintro e w3' ⟨R', cc', rfl, hr', h3'⟩; have h13' := h12d.trans (h3'.mono h12d.size); obtain ⟨u1, u2, u3, u4, u5, u6, u7⟩ := box3_keep h13') | (go_at_call 75; refine (HS.out _ _ _ hr').mono ?_; rintro e w3 ⟨R, cc, rfl, hr, h3''⟩; have h3 := h3'.trans (h3''.mono h3'.size); have h13 := h12d.trans (h3.mono h12d.size); obtain ⟨r1, r2, r3, r4, r5, r6, r7⟩ := box3_keep h13))
    have b3 := b2d.trans (h3.mono b2d.size)
    have k0 := r5 0
    have k1 := r5 1
    simp at k0 k1
    go_wp2
    refine bodyPost_ret (v := .tuple #[.agg #[.bool (decide (((fitE (x + y)).1) < 0)), .slice R (limbs (Int.natAbs ((fitE (x + y)).1))).length cc], .int .i64 (fitE (x + y)).2]) ?_ rfl ?_
    · simp [results, Tryd.results45, go_sem, k0, k1]
    · exact fin_ze hr b3 (by omega) k0 k1 _ _
  · have hs2 : (decide (x < 0) == decide (y < 0)) = false := by simpa using hs
    have HO := hid fun (w1 : World) (h : Below w.heap.size w w1) => Rorder_n A B c d x.natAbs y.natAbs w1 (ha.below h) (hb.below h) l1 l2
    by_cases hl : x.natAbs < y.natAbs
    · have HM := hid fun (w1 : World) (h : Below w.heap.size w w1) => Rminus_n B A d c y.natAbs x.natAbs w1 (hb.below h) (ha.below h) l2 l1 (by omega)
      have hz := sg_lt _ _ _ _ hs hl
      rw [sg_self, sg_self] at hz
      have HS := hid fun (w1 : World) (A1 : Option Addr) (c1 : Nat) (h : Mg w1 A1 c1 (limbs (y.natAbs - x.natAbs))) => Rlimit_n A1 c1 _ w1 h (Nat.le_trans (limbs_mono (by omega)) l2) (decide (y < 0))
      rw [← hz] at HS
      rw [ord_lt hl] at HO
      clear hs hz l1 l2 hl
      clear ha hb fx fy
      generalize hbx : decide (x < 0) = bx at *
      generalize hby : decide (y < 0) = by_ at *
      generalize hlx : (limbs x.natAbs).length = lx at *
      generalize hly : (limbs y.natAbs).length = ly at *
      have HH := hid (And.intro hbx (And.intro hby (And.intro hlx hly)))
      clear hbx hby hlx hly
      go_enter Tryd.func45, Tryd.ntmps45
      go_wp2_with fail
      refine (HX.out _ (by repeat (first | assumption | exact Below.refl _ _ | refine Below.alloc ?_ (by simp; try omega) _ | refine Below.drew ?_ | refine below_drewN ?_ _))).mono ?_
      rintro e w1 ⟨rfl, h1⟩
      obtain ⟨p1, p2, p3, p4, p5, p6, p7⟩ := box3_keep h1
      have b1 : Below w.heap.size w w1 := Below.trans (b := _) (by repeat (first | assumption | exact Below.refl _ _ | refine Below.alloc ?_ (by simp; try omega) _ | refine Below.drew ?_ | refine below_drewN ?_ _)) (h1.mono (by simp; omega))
      go_wp2_with fail
      refine (HY.out _ b1).mono ?_
      rintro e w2 ⟨rfl, h2⟩
      have h12 := h1.trans (h2.mono h1.size)
      obtain ⟨q1, q2, q3, q4, q5, q6, q7⟩ := box3_keep h12
      have b2 := b1.trans (h2.mono b1.size)
      go_wp2_with fail
      refine (HO.out _ b2).mono ?_
      rintro e w2o ⟨rfl, h2o⟩
      have h12 := h12.trans (h2o.mono h12.size)
      obtain ⟨q1, q2, q3, q4, q5, q6, q7⟩ := box3_keep h12
      have b2 := b2.trans (h2o.mono b2.size)
      go_wp2_with fail
      have b2d := b2.drew
      have h12d := h12.drew
      go_region_held3 (fun w' => w'.cell? ⟨w.heap.size, 0, none⟩ = some (.bool bx) ∧ w'.cell? ⟨w.heap.size, 1, none⟩ = some (.slice A lx c) ∧ w'.cell? ⟨w.heap.size + 1, 0, none⟩ = some (.bool by_) ∧ w'.cell? ⟨w.heap.size + 1, 1, none⟩ = some (.slice B ly d)) (first | exact ⟨(q1 0).trans rfl, (q1 1).trans rfl, (q3 0).trans rfl, (q3 1).trans rfl⟩ | exact ⟨(u1 0).trans rfl, (u1 1).trans rfl, (u3 0).trans rfl, (u3 1).trans rfl⟩ | exact ⟨(r1 0).trans rfl, (r1 1).trans rfl, (r3 0).trans rfl, (r3 1).trans rfl⟩ | (refine ⟨?_, ?_, ?_, ?_⟩ <;> (repeat rw [cell_far (by omega)]) <;> first | exact (r1 0).trans rfl | exact (r1 1).trans rfl | exact (r3 0).trans rfl | exact (r3 1).trans rfl)) (first | (go_at_call 58; refine (HM.out _ b2d).mono ?_; rintro e w3' ⟨R', cc', rfl, hr', h3'⟩; have h13' := h12d.trans (h3'.mono h12d.size); obtain ⟨u1, u2, u3, u4, u5, u6, u7⟩ := box3_keep h13') | (go_at_call 75; refine (HS.out _ _ _ hr').mono ?_; rintro e w3 ⟨R, cc, rfl, hr, h3''⟩; have h3 := h3'.trans (h3''.mono h3'.size); have h13 := h12d.trans (h3.mono h12d.size); obtain ⟨r1, r2, r3, r4, r5, r6, r7⟩ := box3_keep h13))
      have b3 := b2d.trans (h3.mono b2d.size)
      have k0 := r5 0
      have k1 := r5 1
      simp at k0 k1
      go_wp2
      refine bodyPost_ret (v := .tuple #[.agg #[.bool (decide (((fitE (x + y)).1) < 0)), .slice R (limbs (Int.natAbs ((fitE (x + y)).1))).length cc], .int .i64 (fitE (x + y)).2]) ?_ rfl ?_
      · simp [results, Tryd.results45, go_sem, k0, k1]
      · exact fin_ze hr b3 (by omega) k0 k1 _ _
    · have HM := hid fun (w1 : World) (h : Below w.heap.size w w1) => Rminus_n A B c d x.natAbs y.natAbs w1 (ha.below h) (hb.below h) l1 l2 (by omega)
      have hz := sg_ge _ _ _ _ hs (show y.natAbs ≤ x.natAbs by omega)
      rw [sg_self, sg_self] at hz
      have HS := hid fun (w1 : World) (A1 : Option Addr) (c1 : Nat) (h : Mg w1 A1 c1 (limbs (x.natAbs - y.natAbs))) => Rlimit_n A1 c1 _ w1 h (Nat.le_trans (limbs_mono (by omega)) l1) (decide (x < 0))
      rw [← hz] at HS
      have ho : 0 ≤ ord x.natAbs y.natAbs := by unfold ord; rw [if_neg hl]; split <;> omega
      generalize ord x.natAbs y.natAbs = ov at *
      clear hs hz l1 l2 hl
      clear ha hb fx fy
      generalize hbx : decide (x < 0) = bx at *
      generalize hby : decide (y < 0) = by_ at *
      generalize hlx : (limbs x.natAbs).length = lx at *
      generalize hly : (limbs y.natAbs).length = ly at *
      have HH := hid (And.intro hbx (And.intro hby (And.intro hlx hly)))
      clear hbx hby hlx hly
      go_enter Tryd.func45, Tryd.ntmps45
      go_wp2_with fail
      refine (HX.out _ (by repeat (first | assumption | exact Below.refl _ _ | refine Below.alloc ?_ (by simp; try omega) _ | refine Below.drew ?_ | refine below_drewN ?_ _))).mono ?_
      rintro e w1 ⟨rfl, h1⟩
      obtain ⟨p1, p2, p3, p4, p5, p6, p7⟩ := box3_keep h1
      have b1 : Below w.heap.size w w1 := Below.trans (b := _) (by repeat (first | assumption | exact Below.refl _ _ | refine Below.alloc ?_ (by simp; try omega) _ | refine Below.drew ?_ | refine below_drewN ?_ _)) (h1.mono (by simp; omega))
      go_wp2_with fail
      refine (HY.out _ b1).mono ?_
      rintro e w2 ⟨rfl, h2⟩
      have h12 := h1.trans (h2.mono h1.size)
      obtain ⟨q1, q2, q3, q4, q5, q6, q7⟩ := box3_keep h12
      have b2 := b1.trans (h2.mono b1.size)
      go_wp2_with fail
      refine (HO.out _ b2).mono ?_
      rintro e w2o ⟨rfl, h2o⟩
      have h12 := h12.trans (h2o.mono h12.size)
      obtain ⟨q1, q2, q3, q4, q5, q6, q7⟩ := box3_keep h12
      have b2 := b2.trans (h2o.mono b2.size)
      go_wp2_with fail
      have b2d := b2.drew
      have h12d := h12.drew
      go_region_held3 (fun w' => w'.cell? ⟨w.heap.size, 0, none⟩ = some (.bool bx) ∧ w'.cell? ⟨w.heap.size, 1, none⟩ = some (.slice A lx c) ∧ w'.cell? ⟨w.heap.size + 1, 0, none⟩ = some (.bool by_) ∧ w'.cell? ⟨w.heap.size + 1, 1, none⟩ = some (.slice B ly d)) (first | exact ⟨(q1 0).trans rfl, (q1 1).trans rfl, (q3 0).trans rfl, (q3 1).trans rfl⟩ | exact ⟨(u1 0).trans rfl, (u1 1).trans rfl, (u3 0).trans rfl, (u3 1).trans rfl⟩ | exact ⟨(r1 0).trans rfl, (r1 1).trans rfl, (r3 0).trans rfl, (r3 1).trans rfl⟩ | (refine ⟨?_, ?_, ?_, ?_⟩ <;> (repeat rw [cell_far (by omega)]) <;> first | exact (r1 0).trans rfl | exact (r1 1).trans rfl | exact (r3 0).trans rfl | exact (r3 1).trans rfl)) (first | (go_at_call 58; refine (HM.out _ b2d).mono ?_; rintro e w3' ⟨R', cc', rfl, hr', h3'⟩; have h13' := h12d.trans (h3'.mono h12d.size); obtain ⟨u1, u2, u3, u4, u5, u6, u7⟩ := box3_keep h13') | (go_at_call 75; refine (HS.out _ _ _ hr').mono ?_; rintro e w3 ⟨R, cc, rfl, hr, h3''⟩; have h3 := h3'.trans (h3''.mono h3'.size); have h13 := h12d.trans (h3.mono h12d.size); obtain ⟨r1, r2, r3, r4, r5, r6, r7⟩ := box3_keep h13))
      have b3 := b2d.trans (h3.mono b2d.size)
      have k0 := r5 0
      have k1 := r5 1
      simp at k0 k1
      go_wp2
      refine bodyPost_ret (v := .tuple #[.agg #[.bool (decide (((fitE (x + y)).1) < 0)), .slice R (limbs (Int.natAbs ((fitE (x + y)).1))).length cc], .int .i64 (fitE (x + y)).2]) ?_ rfl ?_
      · simp [results, Tryd.results45, go_sem, k0, k1]
      · exact fin_ze hr b3 (by omega) k0 k1 _ _

set_option maxHeartbeats 1000000 in
theorem RAdd_bad1 (na nb : Bool) (xs ys : List Nat) (A B : Option Addr) (c d : Nat) (w : World) (ha : Mg w A c xs) (h : validB na xs = false) :
    Calls Tryd.prog 45 #[.agg #[.bool na, .slice A xs.length c], .agg #[.bool nb, .slice B ys.length d]] w (RetZE w 0 1) := by
  have HX := hid fun (w1 : World) (h1 : Below w.heap.size w w1) => RValid_f (ha.below h1) h
  clear ha h
  generalize xs.length = lx at *
  generalize ys.length = ly at *
  go_enter Tryd.func45, Tryd.ntmps45
  go_wp2_with fail
  refine (HX.out _ (by repeat (first | assumption | exact Below.refl _ _ | refine Below.alloc ?_ (by simp; try omega) _ | refine Below.drew ?_ | refine below_drewN ?_ _))).mono ?_
  rintro e w1 ⟨rfl, h1⟩
  obtain ⟨p1, p2, p3, p4, p5, p6, p7⟩ := box3_keep h1
  have b1 : Below w.heap.size w w1 := Below.trans (b := _) (by repeat (first | assumption | exact Below.refl _ _ | refine Below.alloc ?_ (by simp; try omega) _ | refine Below.drew ?_ | refine below_drewN ?_ _)) (h1.mono (by simp; omega))
  have k0 := p5 0
  have k1 := p5 1
  simp at k0 k1
  go_wp2
  refine bodyPost_ret (v := .tuple #[.agg #[.bool false, .slice none 0 0], .int .i64 1]) ?_ rfl ?_
  · simp [results, Tryd.results45, go_sem, k0, k1]
  · exact retZE_zero 1 (below_set (below_set b1 (by omega) _ _) (by omega) _ _)

set_option maxHeartbeats 1000000 in
theorem RAdd_bad2 (x : Int) (nb : Bool) (ys : List Nat) (A B : Option Addr) (c d : Nat) (w : World) (ha : Mg w A c (limbs x.natAbs)) (hb : Mg w B d ys) (fx : fits x) (h : validB nb ys = false) :
    Calls Tryd.prog 45 #[.agg #[.bool (decide ((x) < 0)), .slice A (limbs (Int.natAbs (x))).length c], .agg #[.bool nb, .slice B ys.length d]] w (RetZE w 0 1) := by
  have HX := hid fun (w1 : World) (h : Below w.heap.size w w1) => RValid_t (ha.below h) fx
  have HY := hid fun (w1 : World) (h1 : Below w.heap.size w w1) => RValid_f (hb.below h1) h
  clear ha hb fx h
  generalize decide (x < 0) = bx at *
  generalize (limbs x.natAbs).length = lx at *
  generalize ys.length = ly at *
  go_enter Tryd.func45, Tryd.ntmps45
  go_wp2_with fail
  refine (HX.out _ (by repeat (first | assumption | exact Below.refl _ _ | refine Below.alloc ?_ (by simp; try omega) _ | refine Below.drew ?_ | refine below_drewN ?_ _))).mono ?_
  rintro e w1 ⟨rfl, h1⟩
  obtain ⟨p1, p2, p3, p4, p5, p6, p7⟩ := box3_keep h1
  have b1 : Below w.heap.size w w1 := Below.trans (b := _) (by repeat (first | assumption | exact Below.refl _ _ | refine Below.alloc ?_ (by simp; try omega) _ | refine Below.drew ?_ | refine below_drewN ?_ _)) (h1.mono (by simp; omega))
  go_wp2_with fail
  refine (HY.out _ b1).mono ?_
  rintro e w2 ⟨rfl, h2⟩
  have h12 := h1.trans (h2.mono h1.size)
  obtain ⟨q1, q2, q3, q4, q5, q6, q7⟩ := box3_keep h12
  have b2 := b1.trans (h2.mono b1.size)
  have k0 := q5 0
  have k1 := q5 1
  simp at k0 k1
  go_wp2
  refine bodyPost_ret (v := .tuple #[.agg #[.bool false, .slice none 0 0], .int .i64 1]) ?_ rfl ?_
  · simp [results, Tryd.results45, go_sem, k0, k1]
  · exact retZE_zero 1 (below_set (below_set b2 (by omega) _ _) (by omega) _ _)

set_option maxHeartbeats 1000000 in
theorem RMul_bad1 (na nb : Bool) (xs ys : List Nat) (A B : Option Addr) (c d : Nat) (w : World) (ha : Mg w A c xs) (h : validB na xs = false) :
    Calls Tryd.prog 28 #[.agg #[.bool na, .slice A xs.length c], .agg #[.bool nb, .slice B ys.length d]] w (RetZE w 0 1) := by
  have HX := hid fun (w1 : World) (h1 : Below w.heap.size w w1) => RValid_f (ha.below h1) h
  clear ha h
  generalize xs.length = lx at *
  generalize ys.length = ly at *
  go_enter Tryd.func28, Tryd.ntmps28
  go_wp2_with fail
  refine (HX.out _ (by repeat (first | assumption | exact Below.refl _ _ | refine Below.alloc ?_ (by simp; try omega) _ | refine Below.drew ?_ | refine below_drewN ?_ _))).mono ?_
  rintro e w1 ⟨rfl, h1⟩
  obtain ⟨p1, p2, p3, p4, p5, p6, p7⟩ := box3_keep h1
  have b1 : Below w.heap.size w w1 := Below.trans (b := _) (by repeat (first | assumption | exact Below.refl _ _ | refine Below.alloc ?_ (by simp; try omega) _ | refine Below.drew ?_ | refine below_drewN ?_ _)) (h1.mono (by simp; omega))
  have k0 := p5 0
  have k1 := p5 1
  simp at k0 k1
  go_wp2
  refine bodyPost_ret (v := .tuple #[.agg #[.bool false, .slice none 0 0], .int .i64 1]) ?_ rfl ?_
  · simp [results, Tryd.results28, go_sem, k0, k1]
  · exact retZE_zero 1 (below_set (below_set b1 (by omega) _ _) (by omega) _ _)

set_option maxHeartbeats 1000000 in
theorem RMul_bad2 (x : Int) (nb : Bool) (ys : List Nat) (A B : Option Addr) (c d : Nat) (w : World) (ha : Mg w A c (limbs x.natAbs)) (hb : Mg w B d ys) (fx : fits x) (h : validB nb ys = false) :
    Calls Tryd.prog 28 #[.agg #[.bool (decide ((x) < 0)), .slice A (limbs (Int.natAbs (x))).length c], .agg #[.bool nb, .slice B ys.length d]] w (RetZE w 0 1) := by
  have HX := hid fun (w1 : World) (h : Below w.heap.size w w1) => RValid_t (ha.below h) fx
  have HY := hid fun (w1 : World) (h1 : Below w.heap.size w w1) => RValid_f (hb.below h1) h
  clear ha hb fx h
  generalize decide (x < 0) = bx at *
  generalize (limbs x.natAbs).length = lx at *
  generalize ys.length = ly at *
  go_enter Tryd.func28, Tryd.ntmps28
  go_wp2_with fail
  refine (HX.out _ (by repeat (first | assumption | exact Below.refl _ _ | refine Below.alloc ?_ (by simp; try omega) _ | refine Below.drew ?_ | refine below_drewN ?_ _))).mono ?_
  rintro e w1 ⟨rfl, h1⟩
  obtain ⟨p1, p2, p3, p4, p5, p6, p7⟩ := box3_keep h1
  have b1 : Below w.heap.size w w1 := Below.trans (b := _) (by repeat (first | assumption | exact Below.refl _ _ | refine Below.alloc ?_ (by simp; try omega) _ | refine Below.drew ?_ | refine below_drewN ?_ _)) (h1.mono (by simp; omega))
  go_wp2_with fail
  refine (HY.out _ b1).mono ?_
  rintro e w2 ⟨rfl, h2⟩
  have h12 := h1.trans (h2.mono h1.size)
  obtain ⟨q1, q2, q3, q4, q5, q6, q7⟩ := box3_keep h12
  have b2 := b1.trans (h2.mono b1.size)
  have k0 := q5 0
  have k1 := q5 1
  simp at k0 k1
  go_wp2
  refine bodyPost_ret (v := .tuple #[.agg #[.bool false, .slice none 0 0], .int .i64 1]) ?_ rfl ?_
  · simp [results, Tryd.results28, go_sem, k0, k1]
  · exact retZE_zero 1 (below_set (below_set b2 (by omega) _ _) (by omega) _ _)

end Go.Proofs.YtkfpcohdbbhmaaaDoor
