/- Integers: walks of Add, Sub, Mul. Conditions: none. -/
import Derived.Test.YtfdmlfpldgobjaaGreatDoorZBiC
import Derived.Deep.RegionHeld3
set_option linter.unusedVariables false
set_option linter.unusedSimpArgs false
namespace Go.Proofs.YtfdmlfpldgobjaaGreatDoor
open Go.RowKit Big
theorem cell_far {w : World} {g i g' j : Nat} {u : Value} (h : g ≠ g') : (w.setCell ⟨g, i, none⟩ u).cell? ⟨g', j, none⟩ = w.cell? ⟨g', j, none⟩ := World.cell?_of_block (Below.heap_setCell w ⟨g, i, none⟩ u g' (by simp; omega))
theorem box2_keep {w w1 : World} {X Y : Array Value} {t u : TypeId} (hb : Below ((w.alloc (.cells X t)).alloc (.cells Y u)).heap.size ((w.alloc (.cells X t)).alloc (.cells Y u)) w1) :
  (∀ i, w1.cell? ⟨w.heap.size, i, none⟩ = X[i]?) ∧ (∀ i, w1.frozen? ⟨w.heap.size, i, none⟩ = false) ∧ (∀ i, w1.cell? ⟨w.heap.size + 1, i, none⟩ = Y[i]?) ∧ (∀ i, w1.frozen? ⟨w.heap.size + 1, i, none⟩ = false) ∧ w.heap.size + 1 < w1.heap.size := by
 obtain ⟨a1, a2, a3⟩ := box_keep hb
 simp only [World.size_alloc] at a1 a2 a3
 obtain ⟨b1, b2, _⟩ := box_keep (((Below.refl _ _).alloc (Nat.le_refl _) _).trans (hb.mono (by simp)))
 exact ⟨b1, b2, a1, a2, a3⟩
theorem box3_keep {w w1 : World} {X Y Z : Array Value} {t u v : TypeId} (hb : Below (((w.alloc (.cells X t)).alloc (.cells Y u)).alloc (.cells Z v)).heap.size (((w.alloc (.cells X t)).alloc (.cells Y u)).alloc (.cells Z v)) w1) :
  (∀ i, w1.cell? ⟨w.heap.size, i, none⟩ = X[i]?) ∧ (∀ i, w1.frozen? ⟨w.heap.size, i, none⟩ = false) ∧ (∀ i, w1.cell? ⟨w.heap.size + 1, i, none⟩ = Y[i]?) ∧ (∀ i, w1.frozen? ⟨w.heap.size + 1, i, none⟩ = false) ∧ (∀ i, w1.cell? ⟨w.heap.size + 1 + 1, i, none⟩ = Z[i]?) ∧ (∀ i, w1.frozen? ⟨w.heap.size + 1 + 1, i, none⟩ = false) ∧ w.heap.size + 1 + 1 < w1.heap.size := by
 obtain ⟨a1, a2, a3⟩ := box_keep hb
 simp only [World.size_alloc] at a1 a2 a3
 obtain ⟨b1, b2, b3, b4, _⟩ := box2_keep (((Below.refl _ _).alloc (Nat.le_refl _) _).trans (hb.mono (by simp)))
 exact ⟨b1, b2, b3, b4, a1, a2, a3⟩
theorem sg_not' (x y : Int) : sg (decide (x < 0)) x.natAbs + sg (!decide (y < 0)) y.natAbs = x - y := by rw [sg_self, sg_not]; omega
set_option maxHeartbeats 1000000 in
theorem Add_nw (x y : Int) (A B : Option Addr) (c d : Nat) (w : World) (ha : Mg w A c (limbs x.natAbs)) (hb : Mg w B d (limbs y.natAbs)) (fx : fits x) (fy : fits y) :
  Calls Tryz.prog 42 #[.agg #[.bool (decide ((x) < 0)), .slice A (limbs (Int.natAbs (x))).length c], .agg #[.bool (decide ((y) < 0)), .slice B (limbs (Int.natAbs (y))).length d]] w (RetFp (Nw w.heap.size) w (x + y)) := by
 have HX := hid fun (w1 : World) (h : Below w.heap.size w w1) => Valid_t (ha.below h) fx
 have HY := hid fun (w1 : World) (h : Below w.heap.size w w1) => Valid_t (hb.below h) fy
 have HS := hid fun (w1 : World) (h : Below w.heap.size w w1) => sum_nw (decide (x < 0)) (decide (y < 0)) A B c d x.natAbs y.natAbs w1 (ha.below h) (hb.below h) fx fy
 rw [sg_self, sg_self] at HS
 clear ha hb fx fy
 generalize hbx : decide (x < 0) = bx at *
 generalize hby : decide (y < 0) = by_ at *
 generalize hlx : (limbs x.natAbs).length = lx at *
 generalize hly : (limbs y.natAbs).length = ly at *
 have HH := hid (And.intro hbx (And.intro hby (And.intro hlx hly)))
 clear hbx hby hlx hly
 go_enter Tryz.func42, Tryz.ntmps42
 go_wp2_with fail
 refine (HX.out _ (by repeat (first | assumption | exact Bv _ _ | refine Ba ?_ (by simp; try omega) _ | refine Bd ?_ | refine Bn ?_ _))).mono ?_
 rintro e w1 ⟨rfl, h1⟩
 obtain ⟨p1, p2, p3, p4, p5, p6, p7⟩ := box3_keep h1
 have b1 : Below w.heap.size w w1 := Below.trans (b := _) (by repeat (first | assumption | exact Bv _ _ | refine Ba ?_ (by simp; try omega) _ | refine Bd ?_ | refine Bn ?_ _)) (h1.mono (by simp; omega))
 go_wp2_with fail
 refine (HY.out _ b1).mono ?_
 rintro e w2 ⟨rfl, h2⟩
 have h12 := h1.trans (h2.mono h1.size)
 obtain ⟨q1, q2, q3, q4, q5, q6, q7⟩ := box3_keep h12
 have b2 := b1.trans (h2.mono b1.size)
 go_wp2_with fail
 refine (HS.out _ b2).mono ?_
 rintro e w3 ⟨R, cc, rfl, hr, h3, hn⟩
 have h13 := h12.trans (h3.mono h12.size)
 obtain ⟨r1, r2, r3, r4, r5, r6, r7⟩ := box3_keep h13
 have b3 := b2.trans (h3.mono b2.size)
 have k0 := r5 0
 have k1 := r5 1
 simp at k0 k1
 go_wp2
 refine bodyPost_ret (v := .tuple #[.agg #[.bool (decide (((fitE (x + y)).1) < 0)), .slice R (limbs (Int.natAbs ((fitE (x + y)).1))).length cc], .int .i64 (fitE (x + y)).2]) ?_ rfl ?_
 ·simp [results, Tryz.results42, go_sem, k0, k1]
 ·exact fin_zep hr b3 (by omega) k0 k1 _ _ (((hn.out.mono b2.size).set _ _).set _ _)
theorem Add_ok (x y : Int) (A B : Option Addr) (c d : Nat) (w : World) (ha : Mg w A c (limbs x.natAbs)) (hb : Mg w B d (limbs y.natAbs)) (fx : fits x) (fy : fits y) :
  Calls Tryz.prog 42 #[.agg #[.bool (decide ((x) < 0)), .slice A (limbs (Int.natAbs (x))).length c], .agg #[.bool (decide ((y) < 0)), .slice B (limbs (Int.natAbs (y))).length d]] w (RetF w (x + y)) := (Add_nw x y A B c d w ha hb fx fy).mono fun _ _ h => h.any
set_option maxHeartbeats 1000000 in
theorem Sub_ok (x y : Int) (A B : Option Addr) (c d : Nat) (w : World) (ha : Mg w A c (limbs x.natAbs)) (hb : Mg w B d (limbs y.natAbs)) (fx : fits x) (fy : fits y) :
  Calls Tryz.prog 40 #[.agg #[.bool (decide ((x) < 0)), .slice A (limbs (Int.natAbs (x))).length c], .agg #[.bool (decide ((y) < 0)), .slice B (limbs (Int.natAbs (y))).length d]] w (RetF w (x - y)) := by
 have HX := hid fun (w1 : World) (h : Below w.heap.size w w1) => Valid_t (ha.below h) fx
 have HY := hid fun (w1 : World) (h : Below w.heap.size w w1) => Valid_t (hb.below h) fy
 have HS := hid fun (w1 : World) (h : Below w.heap.size w w1) => sum_any (decide (x < 0)) (!decide (y < 0)) A B c d x.natAbs y.natAbs w1 (ha.below h) (hb.below h) fx fy
 rw [sg_not'] at HS
 clear ha hb fx fy
 generalize hbx : decide (x < 0) = bx at *
 generalize hby : decide (y < 0) = by_ at *
 generalize hlx : (limbs x.natAbs).length = lx at *
 generalize hly : (limbs y.natAbs).length = ly at *
 have HH := hid (And.intro hbx (And.intro hby (And.intro hlx hly)))
 clear hbx hby hlx hly
 go_enter Tryz.func40, Tryz.ntmps40
 go_wp2_with fail
 refine (HX.out _ (by repeat (first | assumption | exact Bv _ _ | refine Ba ?_ (by simp; try omega) _ | refine Bd ?_ | refine Bn ?_ _))).mono ?_
 rintro e w1 ⟨rfl, h1⟩
 obtain ⟨p1, p2, p3, p4, p5, p6, p7⟩ := box3_keep h1
 have b1 : Below w.heap.size w w1 := Below.trans (b := _) (by repeat (first | assumption | exact Bv _ _ | refine Ba ?_ (by simp; try omega) _ | refine Bd ?_ | refine Bn ?_ _)) (h1.mono (by simp; omega))
 go_wp2_with fail
 refine (HY.out _ b1).mono ?_
 rintro e w2 ⟨rfl, h2⟩
 have h12 := h1.trans (h2.mono h1.size)
 obtain ⟨q1, q2, q3, q4, q5, q6, q7⟩ := box3_keep h12
 have b2 := b1.trans (h2.mono b1.size)
 go_wp2_with fail
 refine (HS.out _ b2).mono ?_
 rintro e w3 ⟨R, cc, rfl, hr, h3⟩
 have h13 := h12.trans (h3.mono h12.size)
 obtain ⟨r1, r2, r3, r4, r5, r6, r7⟩ := box3_keep h13
 have b3 := b2.trans (h3.mono b2.size)
 have k0 := r5 0
 have k1 := r5 1
 simp at k0 k1
 go_wp2
 refine bodyPost_ret (v := .tuple #[.agg #[.bool (decide (((fitE (x - y)).1) < 0)), .slice R (limbs (Int.natAbs ((fitE (x - y)).1))).length cc], .int .i64 (fitE (x - y)).2]) ?_ rfl ?_
 ·simp [results, Tryz.results40, go_sem, k0, k1]
 ·exact fin_ze hr b3 (by omega) k0 k1 _ _
set_option maxHeartbeats 1000000 in
theorem Mul_ok (x y : Int) (A B : Option Addr) (c d : Nat) (w : World) (ha : Mg w A c (limbs x.natAbs)) (hb : Mg w B d (limbs y.natAbs)) (fx : fits x) (fy : fits y) :
  Calls Tryz.prog 95 #[.agg #[.bool (decide ((x) < 0)), .slice A (limbs (Int.natAbs (x))).length c], .agg #[.bool (decide ((y) < 0)), .slice B (limbs (Int.natAbs (y))).length d]] w (RetF w (x * y)) := by
 have HX := hid fun (w1 : World) (h : Below w.heap.size w w1) => Valid_t (ha.below h) fx
 have HY := hid fun (w1 : World) (h : Below w.heap.size w w1) => Valid_t (hb.below h) fy
 have HM := hid fun (w1 : World) (h : Below w.heap.size w w1) => mul_n A B c d x.natAbs y.natAbs w1 (ha.below h) (hb.below h) (Nat.le_trans fx (by omega)) (Nat.le_trans fy (by omega))
 have HS := hid fun (w1 : World) (A1 : Option Addr) (c1 : Nat) (h : Mg w1 A1 c1 (limbs (x.natAbs * y.natAbs))) => bounded_any (decide (x < 0) != decide (y < 0)) A1 c1 _ w1 h
 rw [sg_mul] at HS
 clear ha hb fx fy
 generalize hbx : decide (x < 0) = bx at *
 generalize hby : decide (y < 0) = by_ at *
 generalize hlx : (limbs x.natAbs).length = lx at *
 generalize hly : (limbs y.natAbs).length = ly at *
 have HH := hid (And.intro hbx (And.intro hby (And.intro hlx hly)))
 clear hbx hby hlx hly
 go_enter Tryz.func95, Tryz.ntmps95
 go_wp2_with fail
 refine (HX.out _ (by repeat (first | assumption | exact Bv _ _ | refine Ba ?_ (by simp; try omega) _ | refine Bd ?_ | refine Bn ?_ _))).mono ?_
 rintro e w1 ⟨rfl, h1⟩
 obtain ⟨p1, p2, p3, p4, p5, p6, p7⟩ := box3_keep h1
 have b1 : Below w.heap.size w w1 := Below.trans (b := _) (by repeat (first | assumption | exact Bv _ _ | refine Ba ?_ (by simp; try omega) _ | refine Bd ?_ | refine Bn ?_ _)) (h1.mono (by simp; omega))
 go_wp2_with fail
 refine (HY.out _ b1).mono ?_
 rintro e w2 ⟨rfl, h2⟩
 have h12 := h1.trans (h2.mono h1.size)
 obtain ⟨q1, q2, q3, q4, q5, q6, q7⟩ := box3_keep h12
 have b2 := b1.trans (h2.mono b1.size)
 go_wp2_with fail
 have b2d := b2.drew
 have h12d := h12.drew
 go_region_held3 (fun w' => w'.cell? ⟨w.heap.size, 0, none⟩ = some (.bool bx) ∧ w'.cell? ⟨w.heap.size, 1, none⟩ = some (.slice A lx c) ∧ w'.cell? ⟨w.heap.size + 1, 0, none⟩ = some (.bool by_) ∧ w'.cell? ⟨w.heap.size + 1, 1, none⟩ = some (.slice B ly d)) (first | exact ⟨(q1 0).trans rfl, (q1 1).trans rfl, (q3 0).trans rfl, (q3 1).trans rfl⟩ | exact ⟨(u1 0).trans rfl, (u1 1).trans rfl, (u3 0).trans rfl, (u3 1).trans rfl⟩ | exact ⟨(r1 0).trans rfl, (r1 1).trans rfl, (r3 0).trans rfl, (r3 1).trans rfl⟩ | (refine ⟨?_, ?_, ?_, ?_⟩ <;> (repeat rw [cell_far (by omega)]) <;> first | exact (r1 0).trans rfl | exact (r1 1).trans rfl | exact (r3 0).trans rfl | exact (r3 1).trans rfl)) (first | (go_at_call 113; refine (HM.out _ b2d).mono ?_; rintro e w3' ⟨R', cc', rfl, hr', h3'⟩; have h13' := h12d.trans (h3'.mono h12d.size); obtain ⟨u1, u2, u3, u4, u5, u6, u7⟩ := box3_keep h13') | (go_at_call 101; refine (HS.out _ _ _ hr').mono ?_; rintro e w3 ⟨R, cc, rfl, hr, h3''⟩; have h3 := h3'.trans (h3''.mono h3'.size); have h13 := h12d.trans (h3.mono h12d.size); obtain ⟨r1, r2, r3, r4, r5, r6, r7⟩ := box3_keep h13))
 have b3 := b2d.trans (h3.mono b2d.size)
 have k0 := r5 0
 have k1 := r5 1
 simp at k0 k1
 go_wp2
 refine bodyPost_ret (v := .tuple #[.agg #[.bool (decide (((fitE (x * y)).1) < 0)), .slice R (limbs (Int.natAbs ((fitE (x * y)).1))).length cc], .int .i64 (fitE (x * y)).2]) ?_ rfl ?_
 ·simp [results, Tryz.results95, go_sem, k0, k1]
 ·exact fin_ze hr b3 (by omega) k0 k1 _ _
end Go.Proofs.YtfdmlfpldgobjaaGreatDoor
/- Integers: walks of GCD, Cmp. Conditions: none. -/
namespace Go.Proofs.YtfdmlfpldgobjaaGreatDoor
open Go.RowKit Big
set_option maxHeartbeats 1000000 in
theorem GCD_ok (x y : Int) (A B : Option Addr) (c d : Nat) (w : World) (ha : Mg w A c (limbs x.natAbs)) (hb : Mg w B d (limbs y.natAbs)) (fx : fits x) (fy : fits y) :
  Calls Tryz.prog 58 #[.agg #[.bool (decide ((x) < 0)), .slice A (limbs (Int.natAbs (x))).length c], .agg #[.bool (decide ((y) < 0)), .slice B (limbs (Int.natAbs (y))).length d]] w (RetZE w (Nat.gcd x.natAbs y.natAbs : Nat) 0) := by
 have HX := hid fun (w1 : World) (h : Below w.heap.size w w1) => Valid_t (ha.below h) fx
 have HY := hid fun (w1 : World) (h : Below w.heap.size w w1) => Valid_t (hb.below h) fy
 have HM := hid fun (w1 : World) (h : Below w.heap.size w w1) => gcd_n A B c d x.natAbs y.natAbs w1 (ha.below h) (hb.below h) (Nat.le_trans fx (by omega)) (Nat.le_trans fy (by omega))
 have HS := hid fun (w1 : World) (A1 : Option Addr) (c1 : Nat) (h : Mg w1 A1 c1 (limbs (Nat.gcd x.natAbs y.natAbs))) => integer_any false A1 c1 _ w1 h
 have e : sg false (Nat.gcd x.natAbs y.natAbs) = ((Nat.gcd x.natAbs y.natAbs : Nat) : Int) := by simp [sg]
 rw [e] at HS
 clear e
 clear ha hb fx fy
 generalize hbx : decide (x < 0) = bx at *
 generalize hby : decide (y < 0) = by_ at *
 generalize hlx : (limbs x.natAbs).length = lx at *
 generalize hly : (limbs y.natAbs).length = ly at *
 have HH := hid (And.intro hbx (And.intro hby (And.intro hlx hly)))
 clear hbx hby hlx hly
 go_enter Tryz.func58, Tryz.ntmps58
 go_wp2_with fail
 refine (HX.out _ (by repeat (first | assumption | exact Bv _ _ | refine Ba ?_ (by simp; try omega) _ | refine Bd ?_ | refine Bn ?_ _))).mono ?_
 rintro e w1 ⟨rfl, h1⟩
 obtain ⟨p1, p2, p3, p4, p5, p6, p7⟩ := box3_keep h1
 have b1 : Below w.heap.size w w1 := Below.trans (b := _) (by repeat (first | assumption | exact Bv _ _ | refine Ba ?_ (by simp; try omega) _ | refine Bd ?_ | refine Bn ?_ _)) (h1.mono (by simp; omega))
 go_wp2_with fail
 refine (HY.out _ b1).mono ?_
 rintro e w2 ⟨rfl, h2⟩
 have h12 := h1.trans (h2.mono h1.size)
 obtain ⟨q1, q2, q3, q4, q5, q6, q7⟩ := box3_keep h12
 have b2 := b1.trans (h2.mono b1.size)
 go_wp2_with fail
 refine (HM.out _ b2).mono ?_
 rintro e w3' ⟨R', cc', rfl, hr', h3'⟩
 have h13' := h12.trans (h3'.mono h12.size)
 obtain ⟨u1, u2, u3, u4, u5, u6, u7⟩ := box3_keep h13'
 go_wp2_with fail
 refine (HS.out _ _ _ hr').mono ?_
 rintro e w3 ⟨R, cc, rfl, hr, h3⟩
 have h3 := h3'.trans (h3.mono h3'.size)
 have h13 := h12.trans (h3.mono h12.size)
 obtain ⟨r1, r2, r3, r4, r5, r6, r7⟩ := box3_keep h13
 have b3 := b2.trans (h3.mono b2.size)
 have k0 := r5 0
 have k1 := r5 1
 simp at k0 k1
 go_wp2
 refine bodyPost_ret (v := .tuple #[.agg #[.bool (decide ((((Nat.gcd x.natAbs y.natAbs : Nat) : Int)) < 0)), .slice R (limbs (Int.natAbs (((Nat.gcd x.natAbs y.natAbs : Nat) : Int)))).length cc], .int .i64 0]) ?_ rfl ?_
 ·simp [results, Tryz.results58, go_sem, k0, k1]
 ·exact fin_ze hr b3 (by omega) k0 k1 _ _
set_option maxHeartbeats 1000000 in
theorem GCD_bad1 (na nb : Bool) (xs ys : List Nat) (A B : Option Addr) (c d : Nat) (w : World) (ha : Mg w A c xs) (h : validB na xs = false) :
  Calls Tryz.prog 58 #[.agg #[.bool na, .slice A xs.length c], .agg #[.bool nb, .slice B ys.length d]] w (RetZE w 0 1) := by
 have HX := hid fun (w1 : World) (h1 : Below w.heap.size w w1) => Valid_f (ha.below h1) h
 clear ha h
 generalize xs.length = lx at *
 generalize ys.length = ly at *
 go_enter Tryz.func58, Tryz.ntmps58
 go_wp2_with fail
 refine (HX.out _ (by repeat (first | assumption | exact Bv _ _ | refine Ba ?_ (by simp; try omega) _ | refine Bd ?_ | refine Bn ?_ _))).mono ?_
 rintro e w1 ⟨rfl, h1⟩
 obtain ⟨p1, p2, p3, p4, p5, p6, p7⟩ := box3_keep h1
 have b1 : Below w.heap.size w w1 := Below.trans (b := _) (by repeat (first | assumption | exact Bv _ _ | refine Ba ?_ (by simp; try omega) _ | refine Bd ?_ | refine Bn ?_ _)) (h1.mono (by simp; omega))
 have k0 := p5 0
 have k1 := p5 1
 simp at k0 k1
 go_wp2
 refine bodyPost_ret (v := .tuple #[.agg #[.bool false, .slice none 0 0], .int .i64 1]) ?_ rfl ?_
 ·simp [results, Tryz.results58, go_sem, k0, k1]
 ·exact retZE_zero 1 (below_set (below_set b1 (by omega) _ _) (by omega) _ _)
set_option maxHeartbeats 1000000 in
theorem GCD_bad2 (x : Int) (nb : Bool) (ys : List Nat) (A B : Option Addr) (c d : Nat) (w : World) (ha : Mg w A c (limbs x.natAbs)) (hb : Mg w B d ys) (fx : fits x) (h : validB nb ys = false) :
  Calls Tryz.prog 58 #[.agg #[.bool (decide ((x) < 0)), .slice A (limbs (Int.natAbs (x))).length c], .agg #[.bool nb, .slice B ys.length d]] w (RetZE w 0 1) := by
 have HX := hid fun (w1 : World) (h : Below w.heap.size w w1) => Valid_t (ha.below h) fx
 have HY := hid fun (w1 : World) (h1 : Below w.heap.size w w1) => Valid_f (hb.below h1) h
 clear ha hb fx h
 generalize decide (x < 0) = bx at *
 generalize (limbs x.natAbs).length = lx at *
 generalize ys.length = ly at *
 go_enter Tryz.func58, Tryz.ntmps58
 go_wp2_with fail
 refine (HX.out _ (by repeat (first | assumption | exact Bv _ _ | refine Ba ?_ (by simp; try omega) _ | refine Bd ?_ | refine Bn ?_ _))).mono ?_
 rintro e w1 ⟨rfl, h1⟩
 obtain ⟨p1, p2, p3, p4, p5, p6, p7⟩ := box3_keep h1
 have b1 : Below w.heap.size w w1 := Below.trans (b := _) (by repeat (first | assumption | exact Bv _ _ | refine Ba ?_ (by simp; try omega) _ | refine Bd ?_ | refine Bn ?_ _)) (h1.mono (by simp; omega))
 go_wp2_with fail
 refine (HY.out _ b1).mono ?_
 rintro e w2 ⟨rfl, h2⟩
 have h12 := h1.trans (h2.mono h1.size)
 obtain ⟨q1, q2, q3, q4, q5, q6, q7⟩ := box3_keep h12
 have b2 := b1.trans (h2.mono b1.size)
 have k0 := q5 0
 have k1 := q5 1
 simp at k0 k1
 go_wp2
 refine bodyPost_ret (v := .tuple #[.agg #[.bool false, .slice none 0 0], .int .i64 1]) ?_ rfl ?_
 ·simp [results, Tryz.results58, go_sem, k0, k1]
 ·exact retZE_zero 1 (below_set (below_set b2 (by omega) _ _) (by omega) _ _)
/-- the order of integers -/
def zord (x y : Int) : Int := if x < y then -1 else if y < x then 1 else 0
theorem zord_nn {x y : Int} (hx : x < 0) (hy : y < 0) : ord y.natAbs x.natAbs = zord x y := by unfold ord zord; split <;> split <;> (try split) <;> (try split) <;> omega
theorem zord_pp {x y : Int} (hx : ¬ x < 0) (hy : ¬ y < 0) : ord x.natAbs y.natAbs = zord x y := by unfold ord zord; split <;> split <;> (try split) <;> (try split) <;> omega
set_option maxHeartbeats 1000000 in
theorem Cmp_ok (x y : Int) (A B : Option Addr) (c d : Nat) (w : World) (ha : Mg w A c (limbs x.natAbs)) (hb : Mg w B d (limbs y.natAbs)) (fx : fits x) (fy : fits y) :
  Calls Tryz.prog 41 #[.agg #[.bool (decide ((x) < 0)), .slice A (limbs (Int.natAbs (x))).length c], .agg #[.bool (decide ((y) < 0)), .slice B (limbs (Int.natAbs (y))).length d]] w (RetI w (zord x y)) := by
 have HX := hid fun (w1 : World) (h : Below w.heap.size w w1) => Valid_t (ha.below h) fx
 have HY := hid fun (w1 : World) (h : Below w.heap.size w w1) => Valid_t (hb.below h) fy
 have HC := hid fun (w1 : World) (h : Below w.heap.size w w1) => cmp_n A B c d x.natAbs y.natAbs w1 (ha.below h) (hb.below h)
 have HD := hid fun (w1 : World) (h : Below w.heap.size w w1) => cmp_n B A d c y.natAbs x.natAbs w1 (hb.below h) (ha.below h)
 by_cases hx : x < 0
 ·have ex : decide (x < 0) = true := by simpa using hx
  rw [ex] at HX ⊢
  by_cases hy : y < 0
  ·have ey : decide (y < 0) = true := by simpa using hy
   rw [ey] at HY ⊢
   have hz := zord_nn hx hy
   rw [hz] at HD
   clear ha hb fx fy ex ey hx hy hz
   generalize hlx : (limbs x.natAbs).length = lx at *
   generalize hly : (limbs y.natAbs).length = ly at *
   clear hlx hly
   go_enter Tryz.func41, Tryz.ntmps41
   go_wp2_with fail
   refine (HX.out _ (by repeat (first | assumption | exact Bv _ _ | refine Ba ?_ (by simp; try omega) _ | refine Bd ?_ | refine Bn ?_ _))).mono ?_
   rintro e w1 ⟨rfl, h1⟩
   obtain ⟨p1, p2, p3, p4, p7⟩ := box2_keep h1
   have b1 : Below w.heap.size w w1 := Below.trans (b := _) (by repeat (first | assumption | exact Bv _ _ | refine Ba ?_ (by simp; try omega) _ | refine Bd ?_ | refine Bn ?_ _)) (h1.mono (by simp; omega))
   go_wp2_with fail
   refine (HY.out _ b1).mono ?_
   rintro e w2 ⟨rfl, h2⟩
   have h12 := h1.trans (h2.mono h1.size)
   obtain ⟨q1, q2, q3, q4, q7⟩ := box2_keep h12
   have b2 := b1.trans (h2.mono b1.size)
   go_wp2_with (go_at_call 69; refine (HD.out _ b2).mono ?_; rintro e w3 ⟨rfl, h3⟩)
   go_ret
   exact ⟨rfl, b2.trans (h3.mono b2.size)⟩
  ·have ey : decide (y < 0) = false := by simpa using hy
   rw [ey] at HY ⊢
   have hz : zord x y = -1 := by unfold zord; rw [if_pos (by omega)]
   rw [hz]
   clear ha hb fx fy ex ey hx hy hz
   generalize hlx : (limbs x.natAbs).length = lx at *
   generalize hly : (limbs y.natAbs).length = ly at *
   clear hlx hly
   go_enter Tryz.func41, Tryz.ntmps41
   go_wp2_with fail
   refine (HX.out _ (by repeat (first | assumption | exact Bv _ _ | refine Ba ?_ (by simp; try omega) _ | refine Bd ?_ | refine Bn ?_ _))).mono ?_
   rintro e w1 ⟨rfl, h1⟩
   obtain ⟨p1, p2, p3, p4, p7⟩ := box2_keep h1
   have b1 : Below w.heap.size w w1 := Below.trans (b := _) (by repeat (first | assumption | exact Bv _ _ | refine Ba ?_ (by simp; try omega) _ | refine Bd ?_ | refine Bn ?_ _)) (h1.mono (by simp; omega))
   go_wp2_with fail
   refine (HY.out _ b1).mono ?_
   rintro e w2 ⟨rfl, h2⟩
   have h12 := h1.trans (h2.mono h1.size)
   obtain ⟨q1, q2, q3, q4, q7⟩ := box2_keep h12
   have b2 := b1.trans (h2.mono b1.size)
   go_wp2
   go_ret
   exact ⟨rfl, b2⟩
 ·have ex : decide (x < 0) = false := by simpa using hx
  rw [ex] at HX ⊢
  by_cases hy : y < 0
  ·have ey : decide (y < 0) = true := by simpa using hy
   rw [ey] at HY ⊢
   have hz : zord x y = 1 := by unfold zord; rw [if_neg (by omega), if_pos (by omega)]
   rw [hz]
   clear ha hb fx fy ex ey hx hy hz
   generalize hlx : (limbs x.natAbs).length = lx at *
   generalize hly : (limbs y.natAbs).length = ly at *
   clear hlx hly
   go_enter Tryz.func41, Tryz.ntmps41
   go_wp2_with fail
   refine (HX.out _ (by repeat (first | assumption | exact Bv _ _ | refine Ba ?_ (by simp; try omega) _ | refine Bd ?_ | refine Bn ?_ _))).mono ?_
   rintro e w1 ⟨rfl, h1⟩
   obtain ⟨p1, p2, p3, p4, p7⟩ := box2_keep h1
   have b1 : Below w.heap.size w w1 := Below.trans (b := _) (by repeat (first | assumption | exact Bv _ _ | refine Ba ?_ (by simp; try omega) _ | refine Bd ?_ | refine Bn ?_ _)) (h1.mono (by simp; omega))
   go_wp2_with fail
   refine (HY.out _ b1).mono ?_
   rintro e w2 ⟨rfl, h2⟩
   have h12 := h1.trans (h2.mono h1.size)
   obtain ⟨q1, q2, q3, q4, q7⟩ := box2_keep h12
   have b2 := b1.trans (h2.mono b1.size)
   go_wp2
   go_ret
   exact ⟨rfl, b2⟩
  ·have ey : decide (y < 0) = false := by simpa using hy
   rw [ey] at HY ⊢
   have hz := zord_pp hx hy
   rw [hz] at HC
   clear ha hb fx fy ex ey hx hy hz
   generalize hlx : (limbs x.natAbs).length = lx at *
   generalize hly : (limbs y.natAbs).length = ly at *
   clear hlx hly
   go_enter Tryz.func41, Tryz.ntmps41
   go_wp2_with fail
   refine (HX.out _ (by repeat (first | assumption | exact Bv _ _ | refine Ba ?_ (by simp; try omega) _ | refine Bd ?_ | refine Bn ?_ _))).mono ?_
   rintro e w1 ⟨rfl, h1⟩
   obtain ⟨p1, p2, p3, p4, p7⟩ := box2_keep h1
   have b1 : Below w.heap.size w w1 := Below.trans (b := _) (by repeat (first | assumption | exact Bv _ _ | refine Ba ?_ (by simp; try omega) _ | refine Bd ?_ | refine Bn ?_ _)) (h1.mono (by simp; omega))
   go_wp2_with fail
   refine (HY.out _ b1).mono ?_
   rintro e w2 ⟨rfl, h2⟩
   have h12 := h1.trans (h2.mono h1.size)
   obtain ⟨q1, q2, q3, q4, q7⟩ := box2_keep h12
   have b2 := b1.trans (h2.mono b1.size)
   go_wp2_with (go_at_call 69; refine (HC.out _ b2).mono ?_; rintro e w3 ⟨rfl, h3⟩)
   go_ret
   exact ⟨rfl, b2.trans (h3.mono b2.size)⟩
end Go.Proofs.YtfdmlfpldgobjaaGreatDoor
