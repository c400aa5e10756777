/- Homographies: walk of adjugate (package). Conditions: none. -/
import Derived.Test.YtdkgbkbbbldliaaGreatZYP
import Derived.Test.YtdkgbkbbbldliaaGreatZYO
set_option linter.unusedVariables false
set_option linter.unusedSimpArgs false
namespace Go.Proofs.YtdkgbkbbbldliaaGreat
open Go.RowKit Big
set_option maxRecDepth 100000 in
set_option maxHeartbeats 8000000 in
theorem Ul (l : List ZE) (hl : l.length = 9) {w : World} (hok : ∀ e ∈ l, e.ok w) {k : Nat} (hk : 2 * k + 1 ≤ 16384) (hb : ∀ e ∈ l, Bz k e.z) :
  Calls Tryz.prog 67 #[.agg (Kc l).toArray] w (RetM w (adjZ (l.map (·.z)))) := by
 have hi := hid (show (Tryz.prog.info? 95).map (·.size) = some 18 by kernel_rfl)
 have hk0 : k ≤ 16384 := by omega
 have hk1 : k + k ≤ 16384 := by omega
 obtain ⟨e0, e1, e2, e3, e4, e5, e6, e7, e8, rfl⟩ := nine l hl
 have o0 := hok e0 (by simp)
 have o1 := hok e1 (by simp)
 have o2 := hok e2 (by simp)
 have o3 := hok e3 (by simp)
 have o4 := hok e4 (by simp)
 have o5 := hok e5 (by simp)
 have o6 := hok e6 (by simp)
 have o7 := hok e7 (by simp)
 have o8 := hok e8 (by simp)
 have f0 := hb e0 (by simp)
 have f1 := hb e1 (by simp)
 have f2 := hb e2 (by simp)
 have f3 := hb e3 (by simp)
 have f4 := hb e4 (by simp)
 have f5 := hb e5 (by simp)
 have f6 := hb e6 (by simp)
 have f7 := hb e7 (by simp)
 have f8 := hb e8 (by simp)
 obtain ⟨y1, k1, L1, I1⟩ := iz (e4.z * e8.z - e5.z * e7.z)
 have H1 := hid fun (w1 : World) (h : Below w.heap.size w w1) => Xf (w := w1) o4.i o5.i o7.i o8.i I1.out (o4.m.below h) (o5.m.below h) (o7.m.below h) (o8.m.below h) (f4.ft hk0) (f5.ft hk0) (f7.ft hk0) (f8.ft hk0) ((f4.mul f8).ft hk1) ((f5.mul f7).ft hk1) ((Bz.minor f4 f5 f7 f8).ft hk) rfl
 obtain ⟨y2, k2, L2, I2⟩ := iz (e2.z * e7.z - e1.z * e8.z)
 have H2 := hid fun (w1 : World) (h : Below w.heap.size w w1) => Xf (w := w1) o2.i o1.i o8.i o7.i I2.out (o2.m.below h) (o1.m.below h) (o8.m.below h) (o7.m.below h) (f2.ft hk0) (f1.ft hk0) (f8.ft hk0) (f7.ft hk0) ((f2.mul f7).ft hk1) ((f1.mul f8).ft hk1) ((Bz.minor f2 f1 f8 f7).ft hk) rfl
 obtain ⟨y3, k3, L3, I3⟩ := iz (e1.z * e5.z - e2.z * e4.z)
 have H3 := hid fun (w1 : World) (h : Below w.heap.size w w1) => Xf (w := w1) o1.i o2.i o4.i o5.i I3.out (o1.m.below h) (o2.m.below h) (o4.m.below h) (o5.m.below h) (f1.ft hk0) (f2.ft hk0) (f4.ft hk0) (f5.ft hk0) ((f1.mul f5).ft hk1) ((f2.mul f4).ft hk1) ((Bz.minor f1 f2 f4 f5).ft hk) rfl
 obtain ⟨y4, k4, L4, I4⟩ := iz (e5.z * e6.z - e3.z * e8.z)
 have H4 := hid fun (w1 : World) (h : Below w.heap.size w w1) => Xf (w := w1) o5.i o3.i o8.i o6.i I4.out (o5.m.below h) (o3.m.below h) (o8.m.below h) (o6.m.below h) (f5.ft hk0) (f3.ft hk0) (f8.ft hk0) (f6.ft hk0) ((f5.mul f6).ft hk1) ((f3.mul f8).ft hk1) ((Bz.minor f5 f3 f8 f6).ft hk) rfl
 obtain ⟨y5, k5, L5, I5⟩ := iz (e0.z * e8.z - e2.z * e6.z)
 have H5 := hid fun (w1 : World) (h : Below w.heap.size w w1) => Xf (w := w1) o0.i o2.i o6.i o8.i I5.out (o0.m.below h) (o2.m.below h) (o6.m.below h) (o8.m.below h) (f0.ft hk0) (f2.ft hk0) (f6.ft hk0) (f8.ft hk0) ((f0.mul f8).ft hk1) ((f2.mul f6).ft hk1) ((Bz.minor f0 f2 f6 f8).ft hk) rfl
 obtain ⟨y6, k6, L6, I6⟩ := iz (e2.z * e3.z - e0.z * e5.z)
 have H6 := hid fun (w1 : World) (h : Below w.heap.size w w1) => Xf (w := w1) o2.i o0.i o5.i o3.i I6.out (o2.m.below h) (o0.m.below h) (o5.m.below h) (o3.m.below h) (f2.ft hk0) (f0.ft hk0) (f5.ft hk0) (f3.ft hk0) ((f2.mul f3).ft hk1) ((f0.mul f5).ft hk1) ((Bz.minor f2 f0 f5 f3).ft hk) rfl
 obtain ⟨y7, k7, L7, I7⟩ := iz (e3.z * e7.z - e4.z * e6.z)
 have H7 := hid fun (w1 : World) (h : Below w.heap.size w w1) => Xf (w := w1) o3.i o4.i o6.i o7.i I7.out (o3.m.below h) (o4.m.below h) (o6.m.below h) (o7.m.below h) (f3.ft hk0) (f4.ft hk0) (f6.ft hk0) (f7.ft hk0) ((f3.mul f7).ft hk1) ((f4.mul f6).ft hk1) ((Bz.minor f3 f4 f6 f7).ft hk) rfl
 obtain ⟨y8, k8, L8, I8⟩ := iz (e1.z * e6.z - e0.z * e7.z)
 have H8 := hid fun (w1 : World) (h : Below w.heap.size w w1) => Xf (w := w1) o1.i o0.i o7.i o6.i I8.out (o1.m.below h) (o0.m.below h) (o7.m.below h) (o6.m.below h) (f1.ft hk0) (f0.ft hk0) (f7.ft hk0) (f6.ft hk0) ((f1.mul f6).ft hk1) ((f0.mul f7).ft hk1) ((Bz.minor f1 f0 f7 f6).ft hk) rfl
 obtain ⟨y9, k9, L9, I9⟩ := iz (e0.z * e4.z - e1.z * e3.z)
 have H9 := hid fun (w1 : World) (h : Below w.heap.size w w1) => Xf (w := w1) o0.i o1.i o3.i o4.i I9.out (o0.m.below h) (o1.m.below h) (o3.m.below h) (o4.m.below h) (f0.ft hk0) (f1.ft hk0) (f3.ft hk0) (f4.ft hk0) ((f0.mul f4).ft hk1) ((f1.mul f3).ft hk1) ((Bz.minor f0 f1 f3 f4).ft hk) rfl
 have HE : Hid (adjZ ([e0, e1, e2, e3, e4, e5, e6, e7, e8].map (·.z)) = [e4.z * e8.z - e5.z * e7.z, e2.z * e7.z - e1.z * e8.z, e1.z * e5.z - e2.z * e4.z, e5.z * e6.z - e3.z * e8.z, e0.z * e8.z - e2.z * e6.z, e2.z * e3.z - e0.z * e5.z, e3.z * e7.z - e4.z * e6.z, e1.z * e6.z - e0.z * e7.z, e0.z * e4.z - e1.z * e3.z]) := rfl
 generalize adjZ _ = Z at *
 clear hok hb hl o0 o1 o2 o3 o4 o5 o6 o7 o8 f0 f1 f2 f3 f4 f5 f6 f7 f8 hk hk0 hk1
 obtain ⟨z0, b0, n0, x0, A0, c0⟩ := e0
 obtain ⟨z1, b1, n1, x1, A1, c1⟩ := e1
 obtain ⟨z2, b2, n2, x2, A2, c2⟩ := e2
 obtain ⟨z3, b3, n3, x3, A3, c3⟩ := e3
 obtain ⟨z4, b4, n4, x4, A4, c4⟩ := e4
 obtain ⟨z5, b5, n5, x5, A5, c5⟩ := e5
 obtain ⟨z6, b6, n6, x6, A6, c6⟩ := e6
 obtain ⟨z7, b7, n7, x7, A7, c7⟩ := e7
 obtain ⟨z8, b8, n8, x8, A8, c8⟩ := e8
 simp only [Kc, ZE.cells, List.cons_append, List.nil_append] at *
 go_enter Tryz.func67, Tryz.ntmps67
 go_wp2_with fail
 refine Jc (P := fun u => Code.wp _ _ _ _ u) ?_
 intro u HB r0 r1 zn0 zn1 hsz
 clear hsz
 have s0 : u.cell? ⟨w.heap.size, 0, none⟩ = some (.bool b0) := r0 0 _ rfl
 have s1 : u.cell? ⟨w.heap.size, 1, none⟩ = some (.slice A0 n0 c0) := r0 1 _ rfl
 have s2 : u.cell? ⟨w.heap.size, 2, none⟩ = some (.bool b1) := r0 2 _ rfl
 have s3 : u.cell? ⟨w.heap.size, 3, none⟩ = some (.slice A1 n1 c1) := r0 3 _ rfl
 have s4 : u.cell? ⟨w.heap.size, 4, none⟩ = some (.bool b2) := r0 4 _ rfl
 have s5 : u.cell? ⟨w.heap.size, 5, none⟩ = some (.slice A2 n2 c2) := r0 5 _ rfl
 have s6 : u.cell? ⟨w.heap.size, 6, none⟩ = some (.bool b3) := r0 6 _ rfl
 have s7 : u.cell? ⟨w.heap.size, 7, none⟩ = some (.slice A3 n3 c3) := r0 7 _ rfl
 have s8 : u.cell? ⟨w.heap.size, 8, none⟩ = some (.bool b4) := r0 8 _ rfl
 have s9 : u.cell? ⟨w.heap.size, 9, none⟩ = some (.slice A4 n4 c4) := r0 9 _ rfl
 have s10 : u.cell? ⟨w.heap.size, 10, none⟩ = some (.bool b5) := r0 10 _ rfl
 have s11 : u.cell? ⟨w.heap.size, 11, none⟩ = some (.slice A5 n5 c5) := r0 11 _ rfl
 have s12 : u.cell? ⟨w.heap.size, 12, none⟩ = some (.bool b6) := r0 12 _ rfl
 have s13 : u.cell? ⟨w.heap.size, 13, none⟩ = some (.slice A6 n6 c6) := r0 13 _ rfl
 have s14 : u.cell? ⟨w.heap.size, 14, none⟩ = some (.bool b7) := r0 14 _ rfl
 have s15 : u.cell? ⟨w.heap.size, 15, none⟩ = some (.slice A7 n7 c7) := r0 15 _ rfl
 have s16 : u.cell? ⟨w.heap.size, 16, none⟩ = some (.bool b8) := r0 16 _ rfl
 have s17 : u.cell? ⟨w.heap.size, 17, none⟩ = some (.slice A8 n8 c8) := r0 17 _ rfl
 have lt_s0 := Kd s0
 clear r0
 simp only [List.append]
 go_region_held3 (fun w' => (w'.cell? ⟨w.heap.size, 0, none⟩ = some (.bool b0) ∧ w'.cell? ⟨w.heap.size, 1, none⟩ = some (.slice A0 n0 c0)) ∧ (w'.cell? ⟨w.heap.size, 2, none⟩ = some (.bool b1) ∧ w'.cell? ⟨w.heap.size, 3, none⟩ = some (.slice A1 n1 c1)) ∧ (w'.cell? ⟨w.heap.size, 4, none⟩ = some (.bool b2) ∧ w'.cell? ⟨w.heap.size, 5, none⟩ = some (.slice A2 n2 c2)) ∧ (w'.cell? ⟨w.heap.size, 6, none⟩ = some (.bool b3) ∧ w'.cell? ⟨w.heap.size, 7, none⟩ = some (.slice A3 n3 c3)) ∧ (w'.cell? ⟨w.heap.size, 8, none⟩ = some (.bool b4) ∧ w'.cell? ⟨w.heap.size, 9, none⟩ = some (.slice A4 n4 c4)) ∧ (w'.cell? ⟨w.heap.size, 10, none⟩ = some (.bool b5) ∧ w'.cell? ⟨w.heap.size, 11, none⟩ = some (.slice A5 n5 c5)) ∧ (w'.cell? ⟨w.heap.size, 12, none⟩ = some (.bool b6) ∧ w'.cell? ⟨w.heap.size, 13, none⟩ = some (.slice A6 n6 c6)) ∧ (w'.cell? ⟨w.heap.size, 14, none⟩ = some (.bool b7) ∧ w'.cell? ⟨w.heap.size, 15, none⟩ = some (.slice A7 n7 c7)) ∧ (w'.cell? ⟨w.heap.size, 16, none⟩ = some (.bool b8) ∧ w'.cell? ⟨w.heap.size, 17, none⟩ = some (.slice A8 n8 c8))) (first | ((try dsimp only); repeat' (first | with_reducible assumption | apply And.intro | (with_reducible refine Kk ?_) | (with_reducible refine Kn ?_) | (with_reducible refine Kh (by omega) ?_) | (with_reducible refine Kp (by omega) ?_) | (with_reducible refine Ka (W := u) ?_ ?_) | fail))) (first | (go_at_call 105; (with_reducible refine (H1.out _ (Kb HB BG)).mono ?_); rintro e v1 ⟨R1, d1, rfl, m1, hq1⟩; have qv1 : Below u.heap.size u v1 := Kb BG hq1) | (go_at_call 105; (with_reducible refine (H2.out _ (Kb HB BG)).mono ?_); rintro e v2 ⟨R2, d2, rfl, m2, hq2⟩; have qv2 : Below u.heap.size u v2 := Kb BG hq2; have wv2 : Below v1.heap.size v1 v2 := Kb BG hq2; have m1 := m1.below wv2) | (go_at_call 105; (with_reducible refine (H3.out _ (Kb HB BG)).mono ?_); rintro e v3 ⟨R3, d3, rfl, m3, hq3⟩; have qv3 : Below u.heap.size u v3 := Kb BG hq3; have wv3 : Below v2.heap.size v2 v3 := Kb BG hq3; have m1 := m1.below wv3; have m2 := m2.below wv3) | (go_at_call 105; (with_reducible refine (H4.out _ (Kb HB BG)).mono ?_); rintro e v4 ⟨R4, d4, rfl, m4, hq4⟩; have qv4 : Below u.heap.size u v4 := Kb BG hq4; have wv4 : Below v3.heap.size v3 v4 := Kb BG hq4; have m1 := m1.below wv4; have m2 := m2.below wv4; have m3 := m3.below wv4) | (go_at_call 105; (with_reducible refine (H5.out _ (Kb HB BG)).mono ?_); rintro e v5 ⟨R5, d5, rfl, m5, hq5⟩; have qv5 : Below u.heap.size u v5 := Kb BG hq5; have wv5 : Below v4.heap.size v4 v5 := Kb BG hq5; have m1 := m1.below wv5; have m2 := m2.below wv5; have m3 := m3.below wv5; have m4 := m4.below wv5) | (go_at_call 105; (with_reducible refine (H6.out _ (Kb HB BG)).mono ?_); rintro e v6 ⟨R6, d6, rfl, m6, hq6⟩; have qv6 : Below u.heap.size u v6 := Kb BG hq6; have wv6 : Below v5.heap.size v5 v6 := Kb BG hq6; have m1 := m1.below wv6; have m2 := m2.below wv6; have m3 := m3.below wv6; have m4 := m4.below wv6; have m5 := m5.below wv6) | (go_at_call 105; (with_reducible refine (H7.out _ (Kb HB BG)).mono ?_); rintro e v7 ⟨R7, d7, rfl, m7, hq7⟩; have qv7 : Below u.heap.size u v7 := Kb BG hq7; have wv7 : Below v6.heap.size v6 v7 := Kb BG hq7; have m1 := m1.below wv7; have m2 := m2.below wv7; have m3 := m3.below wv7; have m4 := m4.below wv7; have m5 := m5.below wv7; have m6 := m6.below wv7) | (go_at_call 105; (with_reducible refine (H8.out _ (Kb HB BG)).mono ?_); rintro e v8 ⟨R8, d8, rfl, m8, hq8⟩; have qv8 : Below u.heap.size u v8 := Kb BG hq8; have wv8 : Below v7.heap.size v7 v8 := Kb BG hq8; have m1 := m1.below wv8; have m2 := m2.below wv8; have m3 := m3.below wv8; have m4 := m4.below wv8; have m5 := m5.below wv8; have m6 := m6.below wv8; have m7 := m7.below wv8) | (go_at_call 105; (with_reducible refine (H9.out _ (Kb HB BG)).mono ?_); rintro e v9 ⟨R9, d9, rfl, m9, hq9⟩; have qv9 : Below u.heap.size u v9 := Kb BG hq9; have wv9 : Below v8.heap.size v8 v9 := Kb BG hq9; have m1 := m1.below wv9; have m2 := m2.below wv9; have m3 := m3.below wv9; have m4 := m4.below wv9; have m5 := m5.below wv9; have m6 := m6.below wv9; have m7 := m7.below wv9; have m8 := m8.below wv9; have r1 := Ke r1 qv9; have zn1 := zn1.below qv9; have ht : v9.there (w.heap.size + 1) 0 ([.bool y1, .slice R1 k1 d1, .bool y2, .slice R2 k2 d2, .bool y3, .slice R3 k3 d3, .bool y4, .slice R4 k4 d4, .bool y5, .slice R5 k5 d5, .bool y6, .slice R6 k6 d6, .bool y7, .slice R7 k7 d7, .bool y8, .slice R8 k8 d8, .bool y9, .slice R9 k9 d9] : List Value).length := (Kq r1 zn1 :); have ho : ∀ v ∈ ([.bool y1, .slice R1 k1 d1, .bool y2, .slice R2 k2 d2, .bool y3, .slice R3 k3 d3, .bool y4, .slice R4 k4 d4, .bool y5, .slice R5 k5 d5, .bool y6, .slice R6 k6 d6, .bool y7, .slice R7 k7 d7, .bool y8, .slice R8 k8 d8, .bool y9, .slice R9 k9 d9] : List Value), v.oneCell' = true := Km [⟨z4 * z8 - z5 * z7, y1, k1, L1, R1, d1⟩, ⟨z2 * z7 - z1 * z8, y2, k2, L2, R2, d2⟩, ⟨z1 * z5 - z2 * z4, y3, k3, L3, R3, d3⟩, ⟨z5 * z6 - z3 * z8, y4, k4, L4, R4, d4⟩, ⟨z0 * z8 - z2 * z6, y5, k5, L5, R5, d5⟩, ⟨z2 * z3 - z0 * z5, y6, k6, L6, R6, d6⟩, ⟨z3 * z7 - z4 * z6, y7, k7, L7, R7, d7⟩, ⟨z1 * z6 - z0 * z7, y8, k8, L8, R8, d8⟩, ⟨z0 * z4 - z1 * z3, y9, k9, L9, R9, d9⟩]; have hsz := hi.out))
 all_goals
  replace HB := Kb HB qv9
  have F := Gf (l := [⟨z4 * z8 - z5 * z7, y1, k1, L1, R1, d1⟩, ⟨z2 * z7 - z1 * z8, y2, k2, L2, R2, d2⟩, ⟨z1 * z5 - z2 * z4, y3, k3, L3, R3, d3⟩, ⟨z5 * z6 - z3 * z8, y4, k4, L4, R4, d4⟩, ⟨z0 * z8 - z2 * z6, y5, k5, L5, R5, d5⟩, ⟨z2 * z3 - z0 * z5, y6, k6, L6, R6, d6⟩, ⟨z3 * z7 - z4 * z6, y7, k7, L7, R7, d7⟩, ⟨z1 * z6 - z0 * z7, y8, k8, L8, R8, d8⟩, ⟨z0 * z4 - z1 * z3, y9, k9, L9, R9, d9⟩]) HB (by omega) r1 zn1 rfl (Js [ZE.zero, ZE.zero, ZE.zero, ZE.zero, ZE.zero, ZE.zero, ZE.zero, ZE.zero, ZE.zero]) (by
   intro e he
   simp only [List.mem_cons, List.not_mem_nil, or_false] at he
   rcases he with rfl | rfl | rfl | rfl | rfl | rfl | rfl | rfl | rfl
   ·exact ⟨I1.out, m1⟩
   ·exact ⟨I2.out, m2⟩
   ·exact ⟨I3.out, m3⟩
   ·exact ⟨I4.out, m4⟩
   ·exact ⟨I5.out, m5⟩
   ·exact ⟨I6.out, m6⟩
   ·exact ⟨I7.out, m7⟩
   ·exact ⟨I8.out, m8⟩
   ·exact ⟨I9.out, m9⟩)
  go_wp2
  obtain ⟨F1, F2, F3, F4⟩ := F
  simp only [Kc, ZE.cells, List.cons_append, List.nil_append] at F1 F2 F3
  have hres := run_loadVar_mid (P := Tryz.prog) _ _ _ _ _ _ F2 T55u rfl hsz
  refine bodyPost_ret (v := .agg #[.bool y1, .slice R1 k1 d1, .bool y2, .slice R2 k2 d2, .bool y3, .slice R3 k3 d3, .bool y4, .slice R4 k4 d4, .bool y5, .slice R5 k5 d5, .bool y6, .slice R6 k6 d6, .bool y7, .slice R7 k7 d7, .bool y8, .slice R8 k8 d8, .bool y9, .slice R9 k9 d9]) ?_ rfl ?_
  ·simp [results, Tryz.results67, Sem.run_bind, asAddr, hres]
  ·exact ⟨[⟨z4 * z8 - z5 * z7, y1, k1, L1, R1, d1⟩, ⟨z2 * z7 - z1 * z8, y2, k2, L2, R2, d2⟩, ⟨z1 * z5 - z2 * z4, y3, k3, L3, R3, d3⟩, ⟨z5 * z6 - z3 * z8, y4, k4, L4, R4, d4⟩, ⟨z0 * z8 - z2 * z6, y5, k5, L5, R5, d5⟩, ⟨z2 * z3 - z0 * z5, y6, k6, L6, R6, d6⟩, ⟨z3 * z7 - z4 * z6, y7, k7, L7, R7, d7⟩, ⟨z1 * z6 - z0 * z7, y8, k8, L8, R8, d8⟩, ⟨z0 * z4 - z1 * z3, y9, k9, L9, R9, d9⟩], rfl, HE.out.symm, F3, F1⟩
end Go.Proofs.YtdkgbkbbbldliaaGreat
