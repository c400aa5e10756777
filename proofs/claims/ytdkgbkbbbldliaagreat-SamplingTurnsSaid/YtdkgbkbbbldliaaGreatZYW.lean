/- Homographies: walk of times (package). Conditions: none. -/
import Derived.Test.YtdkgbkbbbldliaaGreatZYT
import Derived.Test.YtdkgbkbbbldliaaGreatZYS
import Derived.Test.YtdkgbkbbbldliaaGreatZYU
import Derived.Test.YtdkgbkbbbldliaaGreatZYP
import Derived.Test.YtdkgbkbbbldliaaGreatZYO
set_option linter.unusedVariables false
set_option linter.unusedSimpArgs false
namespace Go.Proofs.YtdkgbkbbbldliaaGreat
open Go.RowKit Big
/-- what Compose answers -/
def twoE (fs gs : List Rf) : List Int × Int := if nrmB fs && nrmB gs then resZ (mulZ (nrmZ fs) (nrmZ gs)) else (List.replicate 18 0, 1)
set_option maxRecDepth 100000 in
set_option maxHeartbeats 4000000 in
theorem Gk {e0 e1 e2 e3 : ZE} {w : World} (o0 : e0.ok w) (o1 : e1.ok w) (o2 : e2.ok w) (o3 : e3.ok w) {k : Nat} (hk : k + k ≤ 16384) (f0 : Bz k e0.z) (f1 : Bz k e1.z) (f2 : Bz k e2.z) (f3 : Bz k e3.z) :
  Calls Tryz.prog 71 #[.agg (Kc [e0, e1, e2, e3]).toArray] w (RetM w [e0.z * e3.z, e2.z * e1.z, e1.z * e3.z]) := by
 have hi := hid (show (Tryz.prog.info? 112).map (·.size) = some 6 by kernel_rfl)
 have hk0 : k ≤ 16384 := by omega
 obtain ⟨y1, k1, L1, I1⟩ := iz (e0.z * e3.z)
 obtain ⟨y2, k2, L2, I2⟩ := iz (e2.z * e1.z)
 obtain ⟨y3, k3, L3, I3⟩ := iz (e1.z * e3.z)
 have H1 := hid fun (w1 : World) (h : Below w.heap.size w w1) => Yg (w := w1) o0.i o3.i I1.out (o0.m.below h) (o3.m.below h) (f0.ft hk0) (f3.ft hk0) ((f0.mul f3).ft hk) rfl
 have H2 := hid fun (w1 : World) (h : Below w.heap.size w w1) => Yg (w := w1) o2.i o1.i I2.out (o2.m.below h) (o1.m.below h) (f2.ft hk0) (f1.ft hk0) ((f2.mul f1).ft hk) rfl
 have H3 := hid fun (w1 : World) (h : Below w.heap.size w w1) => Yg (w := w1) o1.i o3.i I3.out (o1.m.below h) (o3.m.below h) (f1.ft hk0) (f3.ft hk0) ((f1.mul f3).ft hk) rfl
 clear o0 o1 o2 o3 f0 f1 f2 f3 hk hk0
 obtain ⟨z0, b0, n0, x0, A0, c0⟩ := e0
 obtain ⟨z1, b1, n1, x1, A1, c1⟩ := e1
 obtain ⟨z2, b2, n2, x2, A2, c2⟩ := e2
 obtain ⟨z3, b3, n3, x3, A3, c3⟩ := e3
 simp only [Kc, ZE.cells, List.cons_append, List.nil_append] at *
 go_enter Tryz.func71, Tryz.ntmps71
 go_wp2_with fail
 refine Jc (P := fun u => Code.wp _ _ _ _ u) ?_
 intro u HB r0 r1 zn0 zn1 hsz
 clear hsz
 have s0 : u.cell? ⟨w.heap.size, 0, none⟩ = some (.bool b0) := r0 0 _ rfl
 have s1 : u.cell? ⟨w.heap.size, 1, none⟩ = some (.slice A0 n0 c0) := r0 1 _ rfl
 have s2 : u.cell? ⟨w.heap.size, 2, none⟩ = some (.bool b1) := r0 2 _ rfl
 have s3 : u.cell? ⟨w.heap.size, 3, none⟩ = some (.slice A1 n1 c1) := r0 3 _ rfl
 have s4 : u.cell? ⟨w.heap.size, 4, none⟩ = some (.bool b2) := r0 4 _ rfl
 have s5 : u.cell? ⟨w.heap.size, 5, none⟩ = some (.slice A2 n2 c2) := r0 5 _ rfl
 have s6 : u.cell? ⟨w.heap.size, 6, none⟩ = some (.bool b3) := r0 6 _ rfl
 have s7 : u.cell? ⟨w.heap.size, 7, none⟩ = some (.slice A3 n3 c3) := r0 7 _ rfl
 have lt_s0 := Kd s0
 clear r0
 go_region_held3 (fun w' => (w'.cell? ⟨w.heap.size, 0, none⟩ = some (.bool b0) ∧ w'.cell? ⟨w.heap.size, 1, none⟩ = some (.slice A0 n0 c0)) ∧ (w'.cell? ⟨w.heap.size, 2, none⟩ = some (.bool b1) ∧ w'.cell? ⟨w.heap.size, 3, none⟩ = some (.slice A1 n1 c1)) ∧ (w'.cell? ⟨w.heap.size, 4, none⟩ = some (.bool b2) ∧ w'.cell? ⟨w.heap.size, 5, none⟩ = some (.slice A2 n2 c2)) ∧ (w'.cell? ⟨w.heap.size, 6, none⟩ = some (.bool b3) ∧ w'.cell? ⟨w.heap.size, 7, none⟩ = some (.slice A3 n3 c3))) (first | ((try dsimp only); repeat' (first | with_reducible assumption | apply And.intro | (with_reducible refine Kk ?_) | (with_reducible refine Kn ?_) | (with_reducible refine Kh (by omega) ?_) | (with_reducible refine Kp (by omega) ?_) | (with_reducible refine Ka (W := u) ?_ ?_) | fail))) (first | (go_at_call 110; (with_reducible refine (H1.out _ (Kb HB BG)).mono ?_); rintro e v1 ⟨R1, d1, rfl, m1, hq1⟩; have qv1 : Below u.heap.size u v1 := Kb BG hq1) | (go_at_call 110; (with_reducible refine (H2.out _ (Kb HB BG)).mono ?_); rintro e v2 ⟨R2, d2, rfl, m2, hq2⟩; have qv2 : Below u.heap.size u v2 := Kb BG hq2; have wv2 : Below v1.heap.size v1 v2 := Kb BG hq2; have m1 := m1.below wv2) | (go_at_call 110; (with_reducible refine (H3.out _ (Kb HB BG)).mono ?_); rintro e v3 ⟨R3, d3, rfl, m3, hq3⟩; have qv3 : Below u.heap.size u v3 := Kb BG hq3; have wv3 : Below v2.heap.size v2 v3 := Kb BG hq3; have m1 := m1.below wv3; have m2 := m2.below wv3; have r1 := Ke r1 qv3; have zn1 := zn1.below qv3; have f_zn1 := zn1.fr; have q0 := r1 0 _ rfl; have q1 := r1 1 _ rfl; have q2 := r1 2 _ rfl; have q3 := r1 3 _ rfl; have q4 := r1 4 _ rfl; have q5 := r1 5 _ rfl; simp only [Nat.zero_add] at q0 q1 q2 q3 q4 q5))
 all_goals
  replace HB := Kb HB qv3
  have F := Gf (l := [⟨z0 * z3, y1, k1, L1, R1, d1⟩, ⟨z2 * z1, y2, k2, L2, R2, d2⟩, ⟨z1 * z3, y3, k3, L3, R3, d3⟩]) HB (by omega) r1 zn1 rfl (Js [ZE.zero, ZE.zero, ZE.zero]) (by
   intro e he
   simp only [List.mem_cons, List.not_mem_nil, or_false] at he
   rcases he with rfl | rfl | rfl
   ·exact ⟨I1.out, m1⟩
   ·exact ⟨I2.out, m2⟩
   ·exact ⟨I3.out, m3⟩)
  go_wp2
  obtain ⟨F1, F2, F3, F4⟩ := F
  simp only [Kc, ZE.cells, List.cons_append, List.nil_append, World.setCells, Nat.zero_add, Nat.reduceAdd] at F1 F2 F3
  have p0 := F2 0 _ rfl
  have p1 := F2 1 _ rfl
  have p2 := F2 2 _ rfl
  have p3 := F2 3 _ rfl
  have p4 := F2 4 _ rfl
  have p5 := F2 5 _ rfl
  simp only [Nat.zero_add] at p0 p1 p2 p3 p4 p5
  refine bodyPost_ret (v := .agg #[.bool y1, .slice R1 k1 d1, .bool y2, .slice R2 k2 d2, .bool y3, .slice R3 k3 d3]) ?_ rfl ?_
  ·simp [results, Tryz.results71, go_sem, p0, p1, p2, p3, p4, p5]
  ·exact ⟨_, rfl, rfl, F3, F1⟩
set_option maxRecDepth 100000 in
set_option maxHeartbeats 4000000 in
theorem U4 {e0 e1 e2 e3 : ZE} {w : World} (o0 : e0.ok w) (o1 : e1.ok w) (o2 : e2.ok w) (o3 : e3.ok w) {k : Nat} (hk : k + k ≤ 16384) (f0 : Bz k e0.z) (f1 : Bz k e1.z) (f2 : Bz k e2.z) (f3 : Bz k e3.z) :
  Calls Tryz.prog 77 #[.agg (Kc [e0, e1, e2, e3]).toArray] w (RetM w [e0.z * e3.z, e2.z * e1.z, e1.z * e3.z]) := by
 have hi := hid (show (Tryz.prog.info? 112).map (·.size) = some 6 by kernel_rfl)
 have hk0 : k ≤ 16384 := by omega
 obtain ⟨y1, k1, L1, I1⟩ := iz (e0.z * e3.z)
 obtain ⟨y2, k2, L2, I2⟩ := iz (e2.z * e1.z)
 obtain ⟨y3, k3, L3, I3⟩ := iz (e1.z * e3.z)
 have H1 := hid fun (w1 : World) (h : Below w.heap.size w w1) => Jy (w := w1) o0.i o3.i I1.out (o0.m.below h) (o3.m.below h) (f0.ft hk0) (f3.ft hk0) ((f0.mul f3).ft hk) rfl
 have H2 := hid fun (w1 : World) (h : Below w.heap.size w w1) => Jy (w := w1) o2.i o1.i I2.out (o2.m.below h) (o1.m.below h) (f2.ft hk0) (f1.ft hk0) ((f2.mul f1).ft hk) rfl
 have H3 := hid fun (w1 : World) (h : Below w.heap.size w w1) => Jy (w := w1) o1.i o3.i I3.out (o1.m.below h) (o3.m.below h) (f1.ft hk0) (f3.ft hk0) ((f1.mul f3).ft hk) rfl
 clear o0 o1 o2 o3 f0 f1 f2 f3 hk hk0
 obtain ⟨z0, b0, n0, x0, A0, c0⟩ := e0
 obtain ⟨z1, b1, n1, x1, A1, c1⟩ := e1
 obtain ⟨z2, b2, n2, x2, A2, c2⟩ := e2
 obtain ⟨z3, b3, n3, x3, A3, c3⟩ := e3
 simp only [Kc, ZE.cells, List.cons_append, List.nil_append] at *
 go_enter Tryz.func77, Tryz.ntmps77
 go_wp2_with fail
 refine Jc (P := fun u => Code.wp _ _ _ _ u) ?_
 intro u HB r0 r1 zn0 zn1 hsz
 clear hsz
 have s0 : u.cell? ⟨w.heap.size, 0, none⟩ = some (.bool b0) := r0 0 _ rfl
 have s1 : u.cell? ⟨w.heap.size, 1, none⟩ = some (.slice A0 n0 c0) := r0 1 _ rfl
 have s2 : u.cell? ⟨w.heap.size, 2, none⟩ = some (.bool b1) := r0 2 _ rfl
 have s3 : u.cell? ⟨w.heap.size, 3, none⟩ = some (.slice A1 n1 c1) := r0 3 _ rfl
 have s4 : u.cell? ⟨w.heap.size, 4, none⟩ = some (.bool b2) := r0 4 _ rfl
 have s5 : u.cell? ⟨w.heap.size, 5, none⟩ = some (.slice A2 n2 c2) := r0 5 _ rfl
 have s6 : u.cell? ⟨w.heap.size, 6, none⟩ = some (.bool b3) := r0 6 _ rfl
 have s7 : u.cell? ⟨w.heap.size, 7, none⟩ = some (.slice A3 n3 c3) := r0 7 _ rfl
 have lt_s0 := Kd s0
 clear r0
 go_region_held3 (fun w' => (w'.cell? ⟨w.heap.size, 0, none⟩ = some (.bool b0) ∧ w'.cell? ⟨w.heap.size, 1, none⟩ = some (.slice A0 n0 c0)) ∧ (w'.cell? ⟨w.heap.size, 2, none⟩ = some (.bool b1) ∧ w'.cell? ⟨w.heap.size, 3, none⟩ = some (.slice A1 n1 c1)) ∧ (w'.cell? ⟨w.heap.size, 4, none⟩ = some (.bool b2) ∧ w'.cell? ⟨w.heap.size, 5, none⟩ = some (.slice A2 n2 c2)) ∧ (w'.cell? ⟨w.heap.size, 6, none⟩ = some (.bool b3) ∧ w'.cell? ⟨w.heap.size, 7, none⟩ = some (.slice A3 n3 c3))) (first | ((try dsimp only); repeat' (first | with_reducible assumption | apply And.intro | (with_reducible refine Kk ?_) | (with_reducible refine Kn ?_) | (with_reducible refine Kh (by omega) ?_) | (with_reducible refine Kp (by omega) ?_) | (with_reducible refine Ka (W := u) ?_ ?_) | fail))) (first | (go_at_call 79; (with_reducible refine (H1.out _ (Kb HB BG)).mono ?_); rintro e v1 ⟨R1, d1, rfl, m1, hq1⟩; have qv1 : Below u.heap.size u v1 := Kb BG hq1) | (go_at_call 79; (with_reducible refine (H2.out _ (Kb HB BG)).mono ?_); rintro e v2 ⟨R2, d2, rfl, m2, hq2⟩; have qv2 : Below u.heap.size u v2 := Kb BG hq2; have wv2 : Below v1.heap.size v1 v2 := Kb BG hq2; have m1 := m1.below wv2) | (go_at_call 79; (with_reducible refine (H3.out _ (Kb HB BG)).mono ?_); rintro e v3 ⟨R3, d3, rfl, m3, hq3⟩; have qv3 : Below u.heap.size u v3 := Kb BG hq3; have wv3 : Below v2.heap.size v2 v3 := Kb BG hq3; have m1 := m1.below wv3; have m2 := m2.below wv3; have r1 := Ke r1 qv3; have zn1 := zn1.below qv3; have f_zn1 := zn1.fr; have q0 := r1 0 _ rfl; have q1 := r1 1 _ rfl; have q2 := r1 2 _ rfl; have q3 := r1 3 _ rfl; have q4 := r1 4 _ rfl; have q5 := r1 5 _ rfl; simp only [Nat.zero_add] at q0 q1 q2 q3 q4 q5))
 all_goals
  replace HB := Kb HB qv3
  have F := Gf (l := [⟨z0 * z3, y1, k1, L1, R1, d1⟩, ⟨z2 * z1, y2, k2, L2, R2, d2⟩, ⟨z1 * z3, y3, k3, L3, R3, d3⟩]) HB (by omega) r1 zn1 rfl (Js [ZE.zero, ZE.zero, ZE.zero]) (by
   intro e he
   simp only [List.mem_cons, List.not_mem_nil, or_false] at he
   rcases he with rfl | rfl | rfl
   ·exact ⟨I1.out, m1⟩
   ·exact ⟨I2.out, m2⟩
   ·exact ⟨I3.out, m3⟩)
  go_wp2
  obtain ⟨F1, F2, F3, F4⟩ := F
  simp only [Kc, ZE.cells, List.cons_append, List.nil_append, World.setCells, Nat.zero_add, Nat.reduceAdd] at F1 F2 F3
  have p0 := F2 0 _ rfl
  have p1 := F2 1 _ rfl
  have p2 := F2 2 _ rfl
  have p3 := F2 3 _ rfl
  have p4 := F2 4 _ rfl
  have p5 := F2 5 _ rfl
  simp only [Nat.zero_add] at p0 p1 p2 p3 p4 p5
  refine bodyPost_ret (v := .agg #[.bool y1, .slice R1 k1 d1, .bool y2, .slice R2 k2 d2, .bool y3, .slice R3 k3 d3]) ?_ rfl ?_
  ·simp [results, Tryz.results77, go_sem, p0, p1, p2, p3, p4, p5]
  ·exact ⟨_, rfl, rfl, F3, F1⟩
end Go.Proofs.YtdkgbkbbbldliaaGreat
