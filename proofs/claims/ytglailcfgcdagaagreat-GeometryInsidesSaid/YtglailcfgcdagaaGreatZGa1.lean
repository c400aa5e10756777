/- Geometry: the examples that each law asks. Conditions: none. -/
import Derived.Test.YtglailcfgcdagaaGreatZGH
import Derived.Test.YtglailcfgcdagaaGreatZGo1
import Derived.Test.YtglailcfgcdagaaGreatZGm3
import Derived.Test.YtglailcfgcdagaaGreatZGI
import Derived.Test.YtglailcfgcdagaaGreatZGC
import Derived.Test.YtglailcfgcdagaaGreatZXH
import Derived.Test.YtglailcfgcdagaaGreatZGq1
set_option linter.unusedVariables false
set_option linter.unusedSimpArgs false
namespace Go.Proofs.YtglailcfgcdagaaGreat
open Go.RowKit Big
theorem Pb.newL (u : World) (t : TypeId) (l : List (Int × Int)) (hl : l.length ≤ 1000000) : Pb (u.alloc (.cells (cellsP l).toArray t)) (some ⟨u.heap.size, 0, none⟩) l.length l :=
 ⟨Nat.le_refl _, by omega, fun h => ⟨u.heap.size, 0, rfl, by simp, fun j hj => by
  obtain ⟨a, b⟩ := cellsP_get l j hj
  have h0 := rng_alloc (w := u) (cs := cellsP l) (t := t) _ _ a
  have h1 := rng_alloc (w := u) (cs := cellsP l) (t := t) _ _ b
  exact ⟨h0, h1⟩⟩⟩
/-- the examples' hull -/
def hulA : List (Int × Int) := [(0, 0), (2, 0), (2, 2), (0, 2)]
theorem numA1 : thrE (0, 1) (2, 5) = ((2, -1, -1), 0) := by decide +kernel
theorem numA2 : hullE [(0, 0), (2, 0), (1, 1), (2, 2), (0, 2)] = (hulA, 0) := by
 have h : hullP [(0, 0), (2, 0), (1, 1), (2, 2), (0, 2)] = hulA := by rw [hullP_eq (by simp)]; decide +kernel
 unfold hullE
 rw [h]
 decide +kernel
theorem numA3 : areaE hulA = (8, 0) := by decide +kernel
theorem numA4 : ordE (0, 9) (0, 0) (9, 0) = (((0, 0), (9, 0), (0, 9)), 0) := by decide +kernel
theorem numA5 : meetL (2, 0, 0) (0, 3, 1) = ([0, 1, 1, 3], 0) := by decide +kernel
theorem numA6 : crsE (0, 0) (1, 0) (0, 1) = (1, 0) := by decide +kernel
theorem numA7 : ovlE ⟨0, 0, 5, 5⟩ ⟨3, 4, 9, 9⟩ = (⟨3, 4, 2, 1⟩, true) := by decide +kernel
theorem numA8 : newE 1 3 = ((1, 3), 0) := by decide +kernel
theorem fz_of {z : Int} {d : Nat} {b : Bool} {k l : Nat} {xs ys : List Nat} (i1 : Iz z b k xs) (i2 : Iz (d : Int) false l ys) : Fz (z, d) b k xs l ys := by
 obtain ⟨p1, p2, p3⟩ := i1
 obtain ⟨q1, q2, q3⟩ := i2
 exact ⟨p1, p2, p3, by rwa [Int.natAbs_natCast] at q2, q3⟩
set_option maxRecDepth 100000 in
set_option maxHeartbeats 4000000 in
theorem alive_ok (w : World) : Calls Tryz.prog 4 #[] w (RetB w true) := by
 have H1 := hid fun (W : World) => (show Calls Tryz.prog 8 #[.agg #[.int .i64 0, .int .i64 1], .agg #[.int .i64 2, .int .i64 5]] W (RetLE W ((2, -1, -1), 0)) from by rw [← numA1]; exact GThrough_g (0, 1) (2, 5) W)
 have H2 := hid fun (W : World) (t : TypeId) => (show Calls Tryz.prog 9 #[.slice (some ⟨W.heap.size, 0, none⟩) 5 5] (W.alloc (.cells #[.int .i64 0, .int .i64 0, .int .i64 2, .int .i64 0, .int .i64 1, .int .i64 1, .int .i64 2, .int .i64 2, .int .i64 0, .int .i64 2] t)) (RetRE (W.alloc (.cells #[.int .i64 0, .int .i64 0, .int .i64 2, .int .i64 0, .int .i64 1, .int .i64 1, .int .i64 2, .int .i64 2, .int .i64 0, .int .i64 2] t)) (hulA, 0)) from by
  rw [← numA2]; exact GHull_g [(0, 0), (2, 0), (1, 1), (2, 2), (0, 2)] _ _ (Pb.newL W t [(0, 0), (2, 0), (1, 1), (2, 2), (0, 2)] (by simp)))
 have H3 := hid fun (W : World) (A : Option Addr) (c : Nat) (h : Pb W A c hulA) => (show Calls Tryz.prog 10 #[.slice A 4 c] W (RetII W (8, 0)) from by rw [← numA3]; exact GArea2_g hulA A c h)
 have H4 := hid fun (W : World) => (show Calls Tryz.prog 11 #[.agg #[.int .i64 0, .int .i64 9], .agg #[.int .i64 0, .int .i64 0], .agg #[.int .i64 9, .int .i64 0]] W (RetOE W (((0, 0), (9, 0), (0, 9)), 0)) from by rw [← numA4]; exact GOrder_g (0, 9) (0, 0) (9, 0) W)
 have H5 := hid fun (W : World) => (show Calls Tryz.prog 12 #[.agg #[.int .i64 2, .int .i64 0, .int .i64 0], .agg #[.int .i64 0, .int .i64 3, .int .i64 1]] W (RetME W ([0, 1, 1, 3], 0)) from by rw [← numA5]; exact GMeet_g (2, 0, 0) (0, 3, 1) (by refine ⟨?_, ?_, ?_⟩ <;> (unfold i64B; dsimp only; omega)) (by refine ⟨?_, ?_, ?_⟩ <;> (unfold i64B; dsimp only; omega)) W)
 have H6 := hid fun (W : World) => (show Calls Tryz.prog 13 #[.agg #[.int .i64 0, .int .i64 0], .agg #[.int .i64 1, .int .i64 0], .agg #[.int .i64 0, .int .i64 1]] W (RetII W (1, 0)) from by rw [← numA6]; exact GCross_g (0, 0) (1, 0) (0, 1) W)
 have H7 := hid fun (W : World) => (show Calls Tryz.prog 14 #[.agg #[.int .i64 0, .int .i64 0, .int .i64 5, .int .i64 5], .agg #[.int .i64 3, .int .i64 4, .int .i64 9, .int .i64 9]] W (RetXB W (⟨3, 4, 2, 1⟩, true)) from by rw [← numA7]; exact GOverlap_g ⟨0, 0, 5, 5⟩ ⟨3, 4, 9, 9⟩ W)
 obtain ⟨yb, yk, yX, yl, yY, IY⟩ := fz (1, 3)
 have H8 := hid fun (W : World) => (show Calls Tryz.prog 15 #[.int .i64 1, .int .i64 3] W (GF W yb yk yX yl yY 0) from (QOf_any 1 3 W (by omega) (by omega) (by omega) (by omega)).mono fun e w' h => by rw [numA8] at h; exact RetFE.g h IY.out)
 have H9 := hid fun (W : World) (b : Bool) (k l : Nat) (xs ys : List Nat) (A B C D : Option Addr) (ca cb cc cd : Nat) (i1 : Iz 1 b k xs) (i2 : Iz (3 : Nat) false l ys) (ma : Mg W A ca xs) (mb : Mg W B cb ys) (mc : Mg W C cc yX) (md : Mg W D cd yY) => QSame_g (w := W) (f := (1, 3)) (g := (1, 3)) (fz_of i1 i2) IY.out ma mb mc md true (by simp)
 have H10 := hid fun (W : World) (A : Option Addr) (c : Nat) (h : Pb W A c hulA) (t : TypeId) => (show Calls Tryz.prog 16 #[.slice A 4 c, .slice (some ⟨W.heap.size, 0, none⟩) 4 4] (W.alloc (.cells #[.int .i64 0, .int .i64 0, .int .i64 2, .int .i64 0, .int .i64 2, .int .i64 2, .int .i64 0, .int .i64 2] t)) (RetB (W.alloc (.cells #[.int .i64 0, .int .i64 0, .int .i64 2, .int .i64 0, .int .i64 2, .int .i64 2, .int .i64 0, .int .i64 2] t)) true) from by
  have := RPoints_g hulA hulA A _ c 4 (h.below ((Below.refl _ _).alloc (Nat.le_refl _) _)) (Pb.newL W t hulA (by decide))
  rw [decide_eq_true rfl] at this
  exact this)
 have HEq := fun (W : World) => eqArr 0 0 9 0 0 9 0 0 9 0 0 9 W
 clear IY
 go_enter Tryz.func4, Tryz.ntmps4
 go_wp2_with fail
 refine (H1.out _).mono ?_
 rintro e w1 ⟨rfl, HB⟩
 dsimp only
 clear H1
 go_upto_region 2 with fail
 refine enterR (P := fun u => Code.wp _ _ _ _ u) (c := [.int .i64 2, .int .i64 (-1), .int .i64 (-1)]) ?_
 intro v1 hv r1 zn hsz
 have a0 := r1 0 _ rfl
 have a1 := r1 1 _ rfl
 have a2 := r1 2 _ rfl
 simp only [Nat.zero_add] at a0 a1 a2
 replace HB := bel_step HB hv
 clear hv r1 zn hsz
 generalize w1.heap.size = g1 at *
 go_wp2_with fail
 refine (H2.out _ _).mono ?_
 rintro e w2 ⟨h2, rfl, hO, hv⟩
 have hv := bel_step ((Below.refl v1.heap.size v1).alloc (Nat.le_refl _) _) hv
 obtain ⟨A, c, hh2, hP, _⟩ := OwnP.form hO
 rw [show ((hulA, (0 : Int)).1).length = 4 from rfl] at hh2
 subst hh2
 replace hP : Pb w2 A c hulA := hP
 dsimp only
 have a0 := keep_cell hv a0
 have a1 := keep_cell hv a1
 have a2 := keep_cell hv a2
 replace HB := bel_step HB hv
 clear hv hO H2
 go_wp2_with fail
 refine (H3.out _ _ _ hP).mono ?_
 rintro e w3 ⟨rfl, hv⟩
 dsimp only
 have a0 := keep_cell hv a0
 have a1 := keep_cell hv a1
 have a2 := keep_cell hv a2
 replace HB := bel_step HB hv
 replace hP := hP.below hv
 clear hv H3
 go_wp2_with fail
 refine (H4.out _).mono ?_
 rintro e w4 ⟨rfl, hv⟩
 dsimp only
 have a0 := keep_cell hv a0
 have a1 := keep_cell hv a1
 have a2 := keep_cell hv a2
 replace HB := bel_step HB hv
 replace hP := hP.below hv
 clear hv H4
 go_upto_region 5 with fail
 refine enterR (P := fun u => Code.wp _ _ _ _ u) (c := [.int .i64 0, .int .i64 0, .int .i64 9, .int .i64 0, .int .i64 0, .int .i64 9]) ?_
 intro v4 hv r1 zn hsz
 have a0 := keep_cell hv a0
 have a1 := keep_cell hv a1
 have a2 := keep_cell hv a2
 replace HB := bel_step HB hv
 replace hP := hP.below hv
 have b0 := r1 0 _ rfl
 have b1 := r1 1 _ rfl
 have b2 := r1 2 _ rfl
 have b3 := r1 3 _ rfl
 have b4 := r1 4 _ rfl
 have b5 := r1 5 _ rfl
 simp only [Nat.zero_add] at b0 b1 b2 b3 b4 b5
 clear hv r1 zn hsz
 generalize w4.heap.size = g4 at *
 go_wp2_with fail
 refine (H5.out _).mono ?_
 rintro e w5 ⟨l, hl4, rfl, hlz, hok, hv⟩
 obtain ⟨e0, e1, e2, e3, rfl⟩ : ∃ a b c d, l = [a, b, c, d] := by
  match l, hl4 with
  | [a, b, c, d], _ => exact ⟨a, b, c, d, rfl⟩
 simp only [List.map_cons, List.map_nil, List.cons.injEq, and_true] at hlz
 obtain ⟨l0, l1, l2, l3⟩ := hlz
 have o0 := hok e0 (by simp)
 have o2 := hok e2 (by simp)
 have o3 := hok e3 (by simp)
 have hn0 : e0.n = 0 := by rw [o0.i.zero]; exact l0
 have hb3 : e3.b = false := by rw [o3.i.1, l3]; decide
 obtain ⟨z0, bb0, nn0, xs0, A0, cc0⟩ := e0
 obtain ⟨z1, bb1, nn1, xs1, A1, cc1⟩ := e1
 obtain ⟨z2, bb2, nn2, xs2, A2, cc2⟩ := e2
 obtain ⟨z3, bb3, nn3, xs3, A3, cc3⟩ := e3
 dsimp only at l0 l1 l2 l3 hn0 hb3
 subst l0 l1 l2 l3 hn0 hb3
 have I2 := hid o2.i
 have I3 := hid o3.i
 have m2 := o2.m
 have m3 := o3.m
 dsimp only at I2 I3 m2 m3
 clear hok o0 o2 o3 hl4
 simp only [cellsM, ZE.cells, List.cons_append, List.nil_append]
 have a0 := keep_cell hv a0
 have a1 := keep_cell hv a1
 have a2 := keep_cell hv a2
 replace HB := bel_step HB hv
 have b0 := keep_cell hv b0
 have b1 := keep_cell hv b1
 have b2 := keep_cell hv b2
 have b3 := keep_cell hv b3
 have b4 := keep_cell hv b4
 have b5 := keep_cell hv b5
 replace hP := hP.below hv
 clear hv H5
 go_upto_region 6 with fail
 refine enterR (P := fun u => Code.wp _ _ _ _ u) (c := [.bool bb0, .slice A0 0 cc0, .bool bb1, .slice A1 nn1 cc1, .bool bb2, .slice A2 nn2 cc2, .bool false, .slice A3 nn3 cc3]) ?_
 intro v5 hv r1 zn hsz
 have a0 := keep_cell hv a0
 have a1 := keep_cell hv a1
 have a2 := keep_cell hv a2
 replace HB := bel_step HB hv
 have b0 := keep_cell hv b0
 have b1 := keep_cell hv b1
 have b2 := keep_cell hv b2
 have b3 := keep_cell hv b3
 have b4 := keep_cell hv b4
 have b5 := keep_cell hv b5
 replace hP := hP.below hv
 replace m2 := m2.below hv
 replace m3 := m3.below hv
 have q1 := r1 1 _ rfl
 have q4 := r1 4 _ rfl
 have q5 := r1 5 _ rfl
 have q6 := r1 6 _ rfl
 have q7 := r1 7 _ rfl
 simp only [Nat.zero_add] at q1 q4 q5 q6 q7
 clear hv r1 zn hsz
 generalize w5.heap.size = g5 at *
 go_wp2_with fail
 refine (H6.out _).mono ?_
 rintro e w6 ⟨rfl, hv⟩
 dsimp only
 have a0 := keep_cell hv a0
 have a1 := keep_cell hv a1
 have a2 := keep_cell hv a2
 replace HB := bel_step HB hv
 have b0 := keep_cell hv b0
 have b1 := keep_cell hv b1
 have b2 := keep_cell hv b2
 have b3 := keep_cell hv b3
 have b4 := keep_cell hv b4
 have b5 := keep_cell hv b5
 replace hP := hP.below hv
 replace m2 := m2.below hv
 replace m3 := m3.below hv
 have q1 := keep_cell hv q1
 have q4 := keep_cell hv q4
 have q5 := keep_cell hv q5
 have q6 := keep_cell hv q6
 have q7 := keep_cell hv q7
 clear hv H6
 go_wp2_with fail
 refine (H7.out _).mono ?_
 rintro e w7 ⟨rfl, hv⟩
 dsimp only
 have a0 := keep_cell hv a0
 have a1 := keep_cell hv a1
 have a2 := keep_cell hv a2
 replace HB := bel_step HB hv
 have b0 := keep_cell hv b0
 have b1 := keep_cell hv b1
 have b2 := keep_cell hv b2
 have b3 := keep_cell hv b3
 have b4 := keep_cell hv b4
 have b5 := keep_cell hv b5
 replace hP := hP.below hv
 replace m2 := m2.below hv
 replace m3 := m3.below hv
 have q1 := keep_cell hv q1
 have q4 := keep_cell hv q4
 have q5 := keep_cell hv q5
 have q6 := keep_cell hv q6
 have q7 := keep_cell hv q7
 clear hv H7
 go_upto_region 8 with fail
 refine enterR (P := fun u => Code.wp _ _ _ _ u) (c := [.int .i64 3, .int .i64 4, .int .i64 2, .int .i64 1]) ?_
 intro v7 hv r1 zn hsz
 have a0 := keep_cell hv a0
 have a1 := keep_cell hv a1
 have a2 := keep_cell hv a2
 replace HB := bel_step HB hv
 have b0 := keep_cell hv b0
 have b1 := keep_cell hv b1
 have b2 := keep_cell hv b2
 have b3 := keep_cell hv b3
 have b4 := keep_cell hv b4
 have b5 := keep_cell hv b5
 replace hP := hP.below hv
 replace m2 := m2.below hv
 replace m3 := m3.below hv
 have q1 := keep_cell hv q1
 have q4 := keep_cell hv q4
 have q5 := keep_cell hv q5
 have q6 := keep_cell hv q6
 have q7 := keep_cell hv q7
 have s0 := r1 0 _ rfl
 have s1 := r1 1 _ rfl
 have s2 := r1 2 _ rfl
 have s3 := r1 3 _ rfl
 simp only [Nat.zero_add] at s0 s1 s2 s3
 clear hv r1 zn hsz
 generalize w7.heap.size = g7 at *
 go_wp2_with fail
 refine (H8.out _).mono ?_
 rintro e w8 ⟨R, cR, Q, cQ, rfl, mR, mQ, hv⟩
 have a0 := keep_cell hv a0
 have a1 := keep_cell hv a1
 have a2 := keep_cell hv a2
 replace HB := bel_step HB hv
 have b0 := keep_cell hv b0
 have b1 := keep_cell hv b1
 have b2 := keep_cell hv b2
 have b3 := keep_cell hv b3
 have b4 := keep_cell hv b4
 have b5 := keep_cell hv b5
 replace hP := hP.below hv
 replace m2 := m2.below hv
 replace m3 := m3.below hv
 have q1 := keep_cell hv q1
 have q4 := keep_cell hv q4
 have q5 := keep_cell hv q5
 have q6 := keep_cell hv q6
 have q7 := keep_cell hv q7
 have s0 := keep_cell hv s0
 have s1 := keep_cell hv s1
 have s2 := keep_cell hv s2
 have s3 := keep_cell hv s3
 clear hv H8
 go_upto_region 11 with fail
 refine enterR (P := fun u => Code.wp _ _ _ _ u) (c := [.bool yb, .slice R yk cR, .bool false, .slice Q yl cQ]) ?_
 intro v8 hv r1 zn hsz
 have a0 := keep_cell hv a0
 have a1 := keep_cell hv a1
 have a2 := keep_cell hv a2
 replace HB := bel_step HB hv
 have b0 := keep_cell hv b0
 have b1 := keep_cell hv b1
 have b2 := keep_cell hv b2
 have b3 := keep_cell hv b3
 have b4 := keep_cell hv b4
 have b5 := keep_cell hv b5
 replace hP := hP.below hv
 replace m2 := m2.below hv
 replace m3 := m3.below hv
 have q1 := keep_cell hv q1
 have q4 := keep_cell hv q4
 have q5 := keep_cell hv q5
 have q6 := keep_cell hv q6
 have q7 := keep_cell hv q7
 have s0 := keep_cell hv s0
 have s1 := keep_cell hv s1
 have s2 := keep_cell hv s2
 have s3 := keep_cell hv s3
 replace mR := mR.below hv
 replace mQ := mQ.below hv
 have t0 := r1 0 _ rfl
 have t1 := r1 1 _ rfl
 have t2 := r1 2 _ rfl
 have t3 := r1 3 _ rfl
 simp only [Nat.zero_add] at t0 t1 t2 t3
 clear hv r1 zn hsz
 generalize w8.heap.size = g8 at *
 go_wp2_with fail
 refine (H10.out _ _ _ hP _).mono ?_
 rintro e w9 ⟨rfl, hv⟩
 have hv := bel_step ((Below.refl v8.heap.size v8).alloc (Nat.le_refl _) _) hv
 have a0 := keep_cell hv a0
 have a1 := keep_cell hv a1
 have a2 := keep_cell hv a2
 replace HB := bel_step HB hv
 have b0 := keep_cell hv b0
 have b1 := keep_cell hv b1
 have b2 := keep_cell hv b2
 have b3 := keep_cell hv b3
 have b4 := keep_cell hv b4
 have b5 := keep_cell hv b5
 replace hP := hP.below hv
 replace m2 := m2.below hv
 replace m3 := m3.below hv
 have q1 := keep_cell hv q1
 have q4 := keep_cell hv q4
 have q5 := keep_cell hv q5
 have q6 := keep_cell hv q6
 have q7 := keep_cell hv q7
 have s0 := keep_cell hv s0
 have s1 := keep_cell hv s1
 have s2 := keep_cell hv s2
 have s3 := keep_cell hv s3
 have t0 := keep_cell hv t0
 have t1 := keep_cell hv t1
 have t2 := keep_cell hv t2
 have t3 := keep_cell hv t3
 replace mR := mR.below hv
 replace mQ := mQ.below hv
 clear hv H10
 go_wp2_with fail
 refine (H9.out _ _ _ _ _ _ _ _ _ _ _ _ _ _ I2.out I3.out m2 m3 mR mQ).mono ?_
 rintro e w10 ⟨rfl, hv⟩
 have a0 := keep_cell hv a0
 have a1 := keep_cell hv a1
 have a2 := keep_cell hv a2
 replace HB := bel_step HB hv
 have b0 := keep_cell hv b0
 have b1 := keep_cell hv b1
 have b2 := keep_cell hv b2
 have b3 := keep_cell hv b3
 have b4 := keep_cell hv b4
 have b5 := keep_cell hv b5
 replace hP := hP.below hv
 replace m2 := m2.below hv
 replace m3 := m3.below hv
 have q1 := keep_cell hv q1
 have q4 := keep_cell hv q4
 have q5 := keep_cell hv q5
 have q6 := keep_cell hv q6
 have q7 := keep_cell hv q7
 have s0 := keep_cell hv s0
 have s1 := keep_cell hv s1
 have s2 := keep_cell hv s2
 have s3 := keep_cell hv s3
 have t0 := keep_cell hv t0
 have t1 := keep_cell hv t1
 have t2 := keep_cell hv t2
 have t3 := keep_cell hv t3
 replace mR := mR.below hv
 replace mQ := mQ.below hv
 clear hv H9
 go_wp2
 go_ret
 exact ⟨rfl, HB⟩
end Go.Proofs.YtglailcfgcdagaaGreat
