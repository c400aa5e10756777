/- Homographies: walk of columns (the reference). Conditions: none. -/
import Derived.Test.YtgnfobnkhjlbbaaGreatZXB
import Derived.Test.YtgnfobnkhjlbbaaGreatZYS
import Derived.Test.YtgnfobnkhjlbbaaGreatZXC
import Derived.Test.YtgnfobnkhjlbbaaGreatZYZ
import Derived.Test.YtgnfobnkhjlbbaaGreatZHm18
set_option linter.unusedVariables false
set_option linter.unusedSimpArgs false
namespace Go.Proofs.YtgnfobnkhjlbbaaGreat
open Go.RowKit Big
set_option maxRecDepth 100000 in
set_option maxHeartbeats 8000000 in
theorem HRcolumns_g {a0 a1 a2 b0 b1 b2 c0 c1 c2 : ZE} {w : World} (hok : ∀ e ∈ [a0, b0, c0, a1, b1, c1, a2, b2, c2], e.ok w) :
  Calls Tryz.prog 78 #[.agg (cellsM [a0, a1, a2]).toArray, .agg (cellsM [b0, b1, b2]).toArray, .agg (cellsM [c0, c1, c2]).toArray] w (RetM w [a0.z, b0.z, c0.z, a1.z, b1.z, c1.z, a2.z, b2.z, c2.z]) := by
 have hi9 := hid (show (Tryz.prog.info? 54).map (·.size) = some (cellsM [a0, b0, c0, a1, b1, c1, a2, b2, c2]).toArray.size by rw [List.size_toArray, cellsM_len]; kernel_rfl)
 have hi9' := hid (show (Tryz.prog.info? 54).map (·.size) = some (cellsM [a0, b0, c0, a1, b1, c1, a2, b2, c2]).length by rw [cellsM_len]; kernel_rfl)
 have HO := hid hok
 clear hok
 go_enter Tryz.func78, Tryz.ntmps78
 go_upto_region 1 with fail
 refine enterR4 (P := fun u => Code.wp _ _ _ _ u) ?_
 intro u HB r0 r1 r2 r3 zn3 hsz
 have r3 : u.rangeAt (w.heap.size + 1 + 1 + 1) 0 (cellsM zeros9) := r3
 obtain ⟨G1, G2, G3, G4⟩ := fin_N (w := w) (l := [a0, b0, c0, a1, b1, c1, a2, b2, c2]) (cs := zeros9) RT54 rfl hi9'.out HB (by omega) r3 zn3 rfl (fun e he => (HO.out e he).below HB)
 have HF := hid (And.intro G3 G4)
 have ht := rng_there r3 zn3
 have ho := all_oneCell_toArray (cellsM_one [a0, b0, c0, a1, b1, c1, a2, b2, c2])
 have p00 : u.cell? ⟨w.heap.size, 0, none⟩ = some (.bool a0.b) := r0 0 _ rfl
 have p01 : u.cell? ⟨w.heap.size, 1, none⟩ = some (.slice a0.A a0.n a0.c) := r0 1 _ rfl
 have p02 : u.cell? ⟨w.heap.size, 2, none⟩ = some (.bool a1.b) := r0 2 _ rfl
 have p03 : u.cell? ⟨w.heap.size, 3, none⟩ = some (.slice a1.A a1.n a1.c) := r0 3 _ rfl
 have p04 : u.cell? ⟨w.heap.size, 4, none⟩ = some (.bool a2.b) := r0 4 _ rfl
 have p05 : u.cell? ⟨w.heap.size, 5, none⟩ = some (.slice a2.A a2.n a2.c) := r0 5 _ rfl
 have p10 : u.cell? ⟨w.heap.size + 1, 0, none⟩ = some (.bool b0.b) := r1 0 _ rfl
 have p11 : u.cell? ⟨w.heap.size + 1, 1, none⟩ = some (.slice b0.A b0.n b0.c) := r1 1 _ rfl
 have p12 : u.cell? ⟨w.heap.size + 1, 2, none⟩ = some (.bool b1.b) := r1 2 _ rfl
 have p13 : u.cell? ⟨w.heap.size + 1, 3, none⟩ = some (.slice b1.A b1.n b1.c) := r1 3 _ rfl
 have p14 : u.cell? ⟨w.heap.size + 1, 4, none⟩ = some (.bool b2.b) := r1 4 _ rfl
 have p15 : u.cell? ⟨w.heap.size + 1, 5, none⟩ = some (.slice b2.A b2.n b2.c) := r1 5 _ rfl
 have p20 : u.cell? ⟨w.heap.size + 1 + 1, 0, none⟩ = some (.bool c0.b) := r2 0 _ rfl
 have p21 : u.cell? ⟨w.heap.size + 1 + 1, 1, none⟩ = some (.slice c0.A c0.n c0.c) := r2 1 _ rfl
 have p22 : u.cell? ⟨w.heap.size + 1 + 1, 2, none⟩ = some (.bool c1.b) := r2 2 _ rfl
 have p23 : u.cell? ⟨w.heap.size + 1 + 1, 3, none⟩ = some (.slice c1.A c1.n c1.c) := r2 3 _ rfl
 have p24 : u.cell? ⟨w.heap.size + 1 + 1, 4, none⟩ = some (.bool c2.b) := r2 4 _ rfl
 have p25 : u.cell? ⟨w.heap.size + 1 + 1, 5, none⟩ = some (.slice c2.A c2.n c2.c) := r2 5 _ rfl
 clear r0 r1 r2 r3 hsz G1 G3 G4
 go_wp2_with (first | refine wpList_store_mid (by rfl) _ _ _ (by rfl) (w.heap.size + 1 + 1 + 1) 0 (cellsM [a0, b0, c0, a1, b1, c1, a2, b2, c2]).toArray (by rfl) (by rfl) ht hi9.out ho ?_ | fail)
 refine bodyPost_ret (v := .agg (cellsM [a0, b0, c0, a1, b1, c1, a2, b2, c2]).toArray) ?_ rfl ?_
 ·simp [results, Tryz.results78, Sem.run_bind, asAddr, Act.put, G2]
 ·exact ⟨_, rfl, rfl, HF.out.2, HF.out.1⟩
end Go.Proofs.YtgnfobnkhjlbbaaGreat
/- Homographies, the reference: walk of times. Conditions: none. -/
namespace Go.Proofs.YtgnfobnkhjlbbaaGreat
open Go.RowKit Big
set_option maxRecDepth 100000 in
set_option maxHeartbeats 4000000 in
theorem HRtimes_g {e0 e1 e2 f : ZE} {w : World} (o0 : e0.ok w) (o1 : e1.ok w) (o2 : e2.ok w) (of_ : f.ok w) {k m : Nat} (hk : k + m ≤ 16384) (f0 : Bz k e0.z) (f1 : Bz k e1.z) (f2 : Bz k e2.z) (ff : Bz m f.z) :
  Calls Tryz.prog 79 #[.agg (cellsM [e0, e1, e2]).toArray, .agg #[.bool f.b, .slice f.A f.n f.c]] w (RetM w [e0.z * f.z, e1.z * f.z, e2.z * f.z]) := by
 obtain ⟨y1, k1, L1, I1⟩ := iz (e0.z * f.z)
 obtain ⟨y2, k2, L2, I2⟩ := iz (e1.z * f.z)
 obtain ⟨y3, k3, L3, I3⟩ := iz (e2.z * f.z)
 have H1 := hid fun (w1 : World) (h : Below w.heap.size w w1) => HRmul_g (w := w1) o0.i of_.i I1.out (o0.m.below h) (of_.m.below h) (f0.ft (by omega)) (ff.ft (by omega)) ((f0.mul ff).ft hk) rfl
 have H2 := hid fun (w1 : World) (h : Below w.heap.size w w1) => HRmul_g (w := w1) o1.i of_.i I2.out (o1.m.below h) (of_.m.below h) (f1.ft (by omega)) (ff.ft (by omega)) ((f1.mul ff).ft hk) rfl
 have H3 := hid fun (w1 : World) (h : Below w.heap.size w w1) => HRmul_g (w := w1) o2.i of_.i I3.out (o2.m.below h) (of_.m.below h) (f2.ft (by omega)) (ff.ft (by omega)) ((f2.mul ff).ft hk) rfl
 clear o0 o1 o2 of_ f0 f1 f2 ff hk
 obtain ⟨z0, b0, n0, x0, A0, c0⟩ := e0
 obtain ⟨z1, b1, n1, x1, A1, c1⟩ := e1
 obtain ⟨z2, b2, n2, x2, A2, c2⟩ := e2
 obtain ⟨z3, b3, n3, x3, A3, c3⟩ := f
 simp only [cellsM, ZE.cells, List.cons_append, List.nil_append] at *
 go_enter Tryz.func79, Tryz.ntmps79
 go_upto_region 1 with fail
 refine enterR3 (P := fun u => Code.wp _ _ _ _ u) (c1 := [.bool b3, .slice A3 n3 c3]) ?_
 intro u HB r0 rf r1 zn0 znf zn1 hsz
 clear hsz
 have s0 : u.cell? ⟨w.heap.size, 0, none⟩ = some (.bool b0) := r0 0 _ rfl
 have s1 : u.cell? ⟨w.heap.size, 1, none⟩ = some (.slice A0 n0 c0) := r0 1 _ rfl
 have s2 : u.cell? ⟨w.heap.size, 2, none⟩ = some (.bool b1) := r0 2 _ rfl
 have s3 : u.cell? ⟨w.heap.size, 3, none⟩ = some (.slice A1 n1 c1) := r0 3 _ rfl
 have s4 : u.cell? ⟨w.heap.size, 4, none⟩ = some (.bool b2) := r0 4 _ rfl
 have s5 : u.cell? ⟨w.heap.size, 5, none⟩ = some (.slice A2 n2 c2) := r0 5 _ rfl
 have s6 : u.cell? ⟨w.heap.size + 1, 0, none⟩ = some (.bool b3) := rf 0 _ rfl
 have s7 : u.cell? ⟨w.heap.size + 1, 1, none⟩ = some (.slice A3 n3 c3) := rf 1 _ rfl
 have lt_s0 := cell_lt s0
 clear r0 rf
 go_region_held3 (fun w' => (w'.cell? ⟨w.heap.size, 0, none⟩ = some (.bool b0) ∧ w'.cell? ⟨w.heap.size, 1, none⟩ = some (.slice A0 n0 c0)) ∧ (w'.cell? ⟨w.heap.size, 2, none⟩ = some (.bool b1) ∧ w'.cell? ⟨w.heap.size, 3, none⟩ = some (.slice A1 n1 c1)) ∧ (w'.cell? ⟨w.heap.size, 4, none⟩ = some (.bool b2) ∧ w'.cell? ⟨w.heap.size, 5, none⟩ = some (.slice A2 n2 c2)) ∧ (w'.cell? ⟨w.heap.size + 1, 0, none⟩ = some (.bool b3) ∧ w'.cell? ⟨w.heap.size + 1, 1, none⟩ = some (.slice A3 n3 c3))) (first | ((try dsimp only); repeat' (first | with_reducible assumption | apply And.intro | (with_reducible refine keep_alloc ?_) | (with_reducible refine keep_drew ?_) | (with_reducible refine keep_set (by omega) ?_) | (with_reducible refine keep_sets (by omega) ?_) | (with_reducible refine keep_cell (W := u) ?_ ?_) | fail))) (first | (go_at_call 53; (with_reducible refine (H1.out _ (bel_step HB BG)).mono ?_); rintro e v1 ⟨R1, d1, rfl, m1, hq1⟩; have qv1 : Below u.heap.size u v1 := bel_step BG hq1) | (go_at_call 53; (with_reducible refine (H2.out _ (bel_step HB BG)).mono ?_); rintro e v2 ⟨R2, d2, rfl, m2, hq2⟩; have qv2 : Below u.heap.size u v2 := bel_step BG hq2; have wv2 : Below v1.heap.size v1 v2 := bel_step BG hq2; have m1 := m1.below wv2) | (go_at_call 53; (with_reducible refine (H3.out _ (bel_step HB BG)).mono ?_); rintro e v3 ⟨R3, d3, rfl, m3, hq3⟩; have qv3 : Below u.heap.size u v3 := bel_step BG hq3; have wv3 : Below v2.heap.size v2 v3 := bel_step BG hq3; have m1 := m1.below wv3; have m2 := m2.below wv3; have r1 := rng_below r1 qv3; have zn1 := zn1.below qv3; have f_zn1 := zn1.fr; have q0 := r1 0 _ rfl; have q1 := r1 1 _ rfl; have q2 := r1 2 _ rfl; have q3 := r1 3 _ rfl; have q4 := r1 4 _ rfl; have q5 := r1 5 _ rfl; simp only [Nat.zero_add] at q0 q1 q2 q3 q4 q5))
 all_goals
  replace HB := bel_step HB qv3
  have F := fin_M (l := [⟨z0 * z3, y1, k1, L1, R1, d1⟩, ⟨z1 * z3, y2, k2, L2, R2, d2⟩, ⟨z2 * z3, y3, k3, L3, R3, d3⟩]) HB (by omega) r1 zn1 rfl (cellsM_npl [ZE.zero, ZE.zero, ZE.zero]) (by
   intro e he
   simp only [List.mem_cons, List.not_mem_nil, or_false] at he
   rcases he with rfl | rfl | rfl
   ·exact ⟨I1.out, m1⟩
   ·exact ⟨I2.out, m2⟩
   ·exact ⟨I3.out, m3⟩)
  go_wp2
  obtain ⟨F1, F2, F3, F4⟩ := F
  simp only [cellsM, ZE.cells, List.cons_append, List.nil_append, World.setCells, Nat.zero_add, Nat.reduceAdd] at F1 F2 F3
  have p0 := F2 0 _ rfl
  have p1 := F2 1 _ rfl
  have p2 := F2 2 _ rfl
  have p3 := F2 3 _ rfl
  have p4 := F2 4 _ rfl
  have p5 := F2 5 _ rfl
  simp only [Nat.zero_add] at p0 p1 p2 p3 p4 p5
  refine bodyPost_ret (v := .agg #[.bool y1, .slice R1 k1 d1, .bool y2, .slice R2 k2 d2, .bool y3, .slice R3 k3 d3]) ?_ rfl ?_
  ·simp [results, Tryz.results79, go_sem, p0, p1, p2, p3, p4, p5]
  ·exact ⟨_, rfl, rfl, F3, F1⟩
end Go.Proofs.YtgnfobnkhjlbbaaGreat
/- Homographies, the reference: walk of basis. Conditions: none. -/
namespace Go.Proofs.YtgnfobnkhjlbbaaGreat
open Go.RowKit Big
theorem sixteen {α : Type} (l : List α) (h : l.length = 16) : ∃ a b c d e f g i j k m n o p q r, l = [a, b, c, d, e, f, g, i, j, k, m, n, o, p, q, r] := by
 match l, h with
 | [a, b, c, d, e, f, g, i, j, k, m, n, o, p, q, r], _ => exact ⟨a, b, c, d, e, f, g, i, j, k, m, n, o, p, q, r, rfl⟩
/-- three integers with given values, in a block -/
structure P3 (w : World) (g : Nat) (p q r : ZE) : Prop where
 r0 : w.rangeAt g 0 (cellsM [p, q, r])
 o0 : p.ok w
 o1 : q.ok w
 o2 : r.ok w
theorem P3.below {w w' : World} {g : Nat} {p q r : ZE} (h : P3 w g p q r) (hb : Below w.heap.size w w') : P3 w' g p q r := ⟨rng_below h.r0 hb, h.o0.below hb, h.o1.below hb, h.o2.below hb⟩
theorem cols_ok {w : World} {g1 g2 g3 : Nat} {a0 a1 a2 b0 b1 b2 c0 c1 c2 : ZE} (h1 : P3 w g1 a0 a1 a2) (h2 : P3 w g2 b0 b1 b2) (h3 : P3 w g3 c0 c1 c2) : ∀ e ∈ [a0, b0, c0, a1, b1, c1, a2, b2, c2], e.ok w := by
 intro e he
 simp only [List.mem_cons, List.not_mem_nil, or_false] at he
 rcases he with rfl | rfl | rfl | rfl | rfl | rfl | rfl | rfl | rfl
 ·exact h1.o0
 ·exact h2.o0
 ·exact h3.o0
 ·exact h1.o1
 ·exact h2.o1
 ·exact h3.o1
 ·exact h1.o2
 ·exact h2.o2
 ·exact h3.o2
theorem detC (a0 a1 a2 b0 b1 b2 c0 c1 c2 : Int) : detZ [a0, b0, c0, a1, b1, c1, a2, b2, c2] = detZ [a0, a1, a2, b0, b1, b2, c0, c1, c2] := by
 simp only [detZ]
 grind
/-- the columns of three points, and their determinant -/
theorem HRcoldet {w : World} {g1 g2 g3 : Nat} {a0 a1 a2 b0 b1 b2 c0 c1 c2 : ZE} (h1 : P3 w g1 a0 a1 a2) (h2 : P3 w g2 b0 b1 b2) (h3 : P3 w g3 c0 c1 c2) {k : Nat} (hk : 3 * k + 3 ≤ 16384) (hb : ∀ e ∈ [a0, b0, c0, a1, b1, c1, a2, b2, c2], Bz k e.z) {b : Bool} {n : Nat} {xs : List Nat} (I : Iz (detZ [a0.z, a1.z, a2.z, b0.z, b1.z, b2.z, c0.z, c1.z, c2.z]) b n xs) :
  Calls Tryz.prog 78 #[.agg (cellsM [a0, a1, a2]).toArray, .agg (cellsM [b0, b1, b2]).toArray, .agg (cellsM [c0, c1, c2]).toArray] w (fun e w' => ∃ lc : List ZE, e = .returned (.agg (cellsM lc).toArray) ∧ Calls Tryz.prog 77 #[.agg (cellsM lc).toArray] w' (GZ w' b n xs) ∧ Below w.heap.size w w') :=
 (HRcolumns_g (cols_ok h1 h2 h3)).mono fun e w' h => by
  obtain ⟨lc, rfl, hz, ho, hq⟩ := h
  have hl : lc.length = 9 := by rw [← List.length_map (·.z), hz]; rfl
  refine ⟨lc, rfl, HRdeterminant_g lc hl ho (k := k) hk (fun e he => ?_) (by rw [hz, detC]; exact I), hq⟩
  have : e.z ∈ [a0.z, b0.z, c0.z, a1.z, b1.z, c1.z, a2.z, b2.z, c2.z] := hz ▸ List.mem_map.2 ⟨e, he, rfl⟩
  simp only [List.mem_cons, List.not_mem_nil, or_false] at this
  rcases this with h | h | h | h | h | h | h | h | h <;> rw [h] <;> exact hb _ (by simp)
set_option maxRecDepth 100000 in
set_option maxHeartbeats 16000000 in
theorem HRbasis_g (l : List ZE) (qs : List (Int × Nat)) (h8 : qs.length = 8) (hq : l.map (·.z) = frZ qs) {w : World} (hok : ∀ e ∈ l, e.ok w) {k : Nat} (hk : 3 * (2 * k) + 3 + 2 * k ≤ 16384) (hb : ∀ f ∈ qs, Bz k f.1 ∧ f.2 < 2 ^ k) :
  Calls Tryz.prog 38 #[.agg (cellsM l).toArray] w (RetMat w (frmB (ptsZ qs)) (frmZ (ptsZ qs))) := by
 have hl : l.length = 16 := by rw [← List.length_map (·.z), hq, frZ_len, h8]
 have hbe : ∀ e ∈ l, Bz k e.z := fun e he => by
  have h1 : e.z ∈ frZ qs := hq ▸ List.mem_map.2 ⟨e, he, rfl⟩
  obtain ⟨f, hf, h2⟩ := List.mem_flatMap.1 h1
  simp only [List.mem_cons, List.not_mem_nil, or_false] at h2
  rcases h2 with h2 | h2
  ·rw [h2]; exact (hb f hf).1
  ·rw [h2]; exact bz_nat (hb f hf).2
 obtain ⟨f0, f1, f2, f3, f4, f5, f6, f7, rfl⟩ := eight qs h8
 obtain ⟨e0, e1, e2, e3, e4, e5, e6, e7, e8, e9, e10, e11, e12, e13, e14, e15, rfl⟩ := sixteen l hl
 have hPP : ptsZ [f0, f1, f2, f3, f4, f5, f6, f7] = [e0.z * e3.z, e2.z * e1.z, e1.z * e3.z, e4.z * e7.z, e6.z * e5.z, e5.z * e7.z, e8.z * e11.z, e10.z * e9.z, e9.z * e11.z, e12.z * e15.z, e14.z * e13.z, e13.z * e15.z] := by
  simp only [List.map_cons, List.map_nil, frZ, List.flatMap_cons, List.flatMap_nil, List.cons_append, List.nil_append, List.append_nil, List.cons.injEq, and_true] at hq
  obtain ⟨h0, h1, h2, h3, h4, h5, h6, h7, h8, h9, h10, h11, h12, h13, h14, h15⟩ := hq
  rw [h0, h1, h2, h3, h4, h5, h6, h7, h8, h9, h10, h11, h12, h13, h14, h15]
  rfl
 have HO := hid fun (W : World) (h : Below w.heap.size w W) e he => (hok e he).below h
 rw [hPP]
 obtain ⟨FB, hFB0⟩ : ∃ FB, frmB [e0.z * e3.z, e2.z * e1.z, e1.z * e3.z, e4.z * e7.z, e6.z * e5.z, e5.z * e7.z, e8.z * e11.z, e10.z * e9.z, e9.z * e11.z, e12.z * e15.z, e14.z * e13.z, e13.z * e15.z] = FB := ⟨_, rfl⟩
 obtain ⟨FZ, hFZ0⟩ : ∃ FZ, frmZ [e0.z * e3.z, e2.z * e1.z, e1.z * e3.z, e4.z * e7.z, e6.z * e5.z, e5.z * e7.z, e8.z * e11.z, e10.z * e9.z, e9.z * e11.z, e12.z * e15.z, e14.z * e13.z, e13.z * e15.z] = FZ := ⟨_, rfl⟩
 rw [hFB0, hFZ0]
 have hFB0 := hid hFB0
 have hFZ0 := hid hFZ0
 clear hPP hq hok hb h8
 obtain ⟨d28, u28, row28⟩ := T28u_
 obtain ⟨d79, u79, row79⟩ := T79u
 have hi18 := hid (show (Tryz.prog.info? 54).map (·.size) = some 18 by kernel_rfl)
 go_enter Tryz.func38, Tryz.ntmps38
 go_upto_region 1 with fail
 refine enterR2 (P := fun u => Code.wp _ _ _ _ u) ?_
 intro u HB r0 r1 zn0 zn1 hsz
 have r1 : u.rangeAt (w.heap.size + 1) 0 (cellsM zeros9) := r1
 have rp1 := rng_mid [] [e0, e1, e2, e3] [e4, e5, e6, e7, e8, e9, e10, e11, e12, e13, e14, e15] r0
 have rp2 := rng_mid [e0, e1, e2, e3] [e4, e5, e6, e7] [e8, e9, e10, e11, e12, e13, e14, e15] r0
 have rp3 := rng_mid [e0, e1, e2, e3, e4, e5, e6, e7] [e8, e9, e10, e11] [e12, e13, e14, e15] r0
 have rp4 := rng_mid [e0, e1, e2, e3, e4, e5, e6, e7, e8, e9, e10, e11] [e12, e13, e14, e15] [] r0
 simp only [List.length_cons, List.length_nil, Nat.reduceMul, Nat.reduceAdd, Nat.zero_add, Nat.mul_zero] at rp1 rp2 rp3 rp4
 clear hsz r0 zn0
 have HH1 := hid (HRhomogeneous_g (HO.out _ HB e0 (by simp)) (HO.out _ HB e1 (by simp)) (HO.out _ HB e2 (by simp)) (HO.out _ HB e3 (by simp)) (k := k) (by omega) (hbe e0 (by simp)) (hbe e1 (by simp)) (hbe e2 (by simp)) (hbe e3 (by simp)))
 have hpt1 : u.rangeAt w.heap.size 0 (cellsM [e0, e1, e2, e3]) := fun j v hv => by have := rp1 j v hv; exact this
 go_wp2_with (first | refine wpList_load_mid (by rfl) _ _ (by rfl) w.heap.size 0 (by rfl) (cellsM [e0, e1, e2, e3]) _ hpt1 u28 row28 T28i8 ?_ | fail)
 refine HH1.out.mono ?_
 rintro e w1 ⟨l_, rfl, hz_, ho_, hq_⟩
 obtain ⟨p1, q1, y1, rfl⟩ := three l_ (by simpa using congrArg List.length hz_)
 simp only [List.map_cons, List.map_nil, List.cons.injEq, and_true] at hz_
 obtain ⟨zp1, zq1, zy1⟩ := hz_
 have op_ := ho_ p1 (by simp)
 have oq_ := ho_ q1 (by simp)
 have or_ := ho_ y1 (by simp)
 have F1 := fun (l : List ZE) (hl : (cellsM l).length = 6) => store_newN (P := Tryz.prog) (w := w1) (l := l) (zs := cellsM zeros3) 79 hl T79i
 simp only [zeros3, List.replicate, cellsM, ZE.cells, ZE.zero, List.cons_append, List.nil_append] at F1
 have F1 := F1 [p1, q1, y1] rfl
 have hs6 : (cellsM [p1, q1, y1]).length = 6 := rfl
 clear hpt1 HH1 ho_
 go_upto_region 2 with fail
 refine enterR (P := fun u => Code.wp _ _ _ _ u) (c := cellsM [p1, q1, y1]) ?_
 intro v1 hv_ s_ sz_ hsz
 have hvv_ := bel_step hq_ hv_
 have k1 : P3 v1 w1.heap.size p1 q1 y1 := ⟨s_, op_.below hv_, oq_.below hv_, or_.below hv_⟩
 have lt1 : w.heap.size + 1 < w1.heap.size := (zn1.below hq_).lt
 have HB := bel_step HB hvv_
 have r1 := rng_below r1 hvv_
 have zn1 := zn1.below hvv_
 (try have rp1 := rng_below rp1 hvv_)
 (try have rp2 := rng_below rp2 hvv_)
 (try have rp3 := rng_below rp3 hvv_)
 (try have rp4 := rng_below rp4 hvv_)
 clear F1 hs6 hsz sz_ hv_ hq_ hvv_ op_ oq_ or_ s_
 have HH2 := hid (HRhomogeneous_g (HO.out _ HB e4 (by simp)) (HO.out _ HB e5 (by simp)) (HO.out _ HB e6 (by simp)) (HO.out _ HB e7 (by simp)) (k := k) (by omega) (hbe e4 (by simp)) (hbe e5 (by simp)) (hbe e6 (by simp)) (hbe e7 (by simp)))
 have hpt2 : v1.rangeAt w.heap.size 8 (cellsM [e4, e5, e6, e7]) := fun j v hv => by have := rp2 j v hv; exact this
 go_wp2_with (first | refine wpList_load_mid (by rfl) _ _ (by rfl) w.heap.size 8 (by rfl) (cellsM [e4, e5, e6, e7]) _ hpt2 u28 row28 T28i8 ?_ | fail)
 refine HH2.out.mono ?_
 rintro e w2 ⟨l_, rfl, hz_, ho_, hq_⟩
 obtain ⟨p2, q2, y2, rfl⟩ := three l_ (by simpa using congrArg List.length hz_)
 simp only [List.map_cons, List.map_nil, List.cons.injEq, and_true] at hz_
 obtain ⟨zp2, zq2, zy2⟩ := hz_
 have op_ := ho_ p2 (by simp)
 have oq_ := ho_ q2 (by simp)
 have or_ := ho_ y2 (by simp)
 have F1 := fun (l : List ZE) (hl : (cellsM l).length = 6) => store_newN (P := Tryz.prog) (w := w2) (l := l) (zs := cellsM zeros3) 79 hl T79i
 simp only [zeros3, List.replicate, cellsM, ZE.cells, ZE.zero, List.cons_append, List.nil_append] at F1
 have F1 := F1 [p2, q2, y2] rfl
 have hs6 : (cellsM [p2, q2, y2]).length = 6 := rfl
 clear hpt2 HH2 ho_
 go_upto_region 3 with fail
 refine enterR (P := fun u => Code.wp _ _ _ _ u) (c := cellsM [p2, q2, y2]) ?_
 intro v2 hv_ s_ sz_ hsz
 have hvv_ := bel_step hq_ hv_
 have k2 : P3 v2 w2.heap.size p2 q2 y2 := ⟨s_, op_.below hv_, oq_.below hv_, or_.below hv_⟩
 have lt2 : w.heap.size + 1 < w2.heap.size := (zn1.below hq_).lt
 have HB := bel_step HB hvv_
 have r1 := rng_below r1 hvv_
 have zn1 := zn1.below hvv_
 have k1 := k1.below hvv_
 (try have rp1 := rng_below rp1 hvv_)
 (try have rp2 := rng_below rp2 hvv_)
 (try have rp3 := rng_below rp3 hvv_)
 (try have rp4 := rng_below rp4 hvv_)
 clear F1 hs6 hsz sz_ hv_ hq_ hvv_ op_ oq_ or_ s_
 have HH3 := hid (HRhomogeneous_g (HO.out _ HB e8 (by simp)) (HO.out _ HB e9 (by simp)) (HO.out _ HB e10 (by simp)) (HO.out _ HB e11 (by simp)) (k := k) (by omega) (hbe e8 (by simp)) (hbe e9 (by simp)) (hbe e10 (by simp)) (hbe e11 (by simp)))
 have hpt3 : v2.rangeAt w.heap.size 16 (cellsM [e8, e9, e10, e11]) := fun j v hv => by have := rp3 j v hv; exact this
 go_wp2_with (first | refine wpList_load_mid (by rfl) _ _ (by rfl) w.heap.size 16 (by rfl) (cellsM [e8, e9, e10, e11]) _ hpt3 u28 row28 T28i8 ?_ | fail)
 refine HH3.out.mono ?_
 rintro e w3 ⟨l_, rfl, hz_, ho_, hq_⟩
 obtain ⟨p3, q3, y3, rfl⟩ := three l_ (by simpa using congrArg List.length hz_)
 simp only [List.map_cons, List.map_nil, List.cons.injEq, and_true] at hz_
 obtain ⟨zp3, zq3, zy3⟩ := hz_
 have op_ := ho_ p3 (by simp)
 have oq_ := ho_ q3 (by simp)
 have or_ := ho_ y3 (by simp)
 have F1 := fun (l : List ZE) (hl : (cellsM l).length = 6) => store_newN (P := Tryz.prog) (w := w3) (l := l) (zs := cellsM zeros3) 79 hl T79i
 simp only [zeros3, List.replicate, cellsM, ZE.cells, ZE.zero, List.cons_append, List.nil_append] at F1
 have F1 := F1 [p3, q3, y3] rfl
 have hs6 : (cellsM [p3, q3, y3]).length = 6 := rfl
 clear hpt3 HH3 ho_
 go_upto_region 4 with fail
 refine enterR (P := fun u => Code.wp _ _ _ _ u) (c := cellsM [p3, q3, y3]) ?_
 intro v3 hv_ s_ sz_ hsz
 have hvv_ := bel_step hq_ hv_
 have k3 : P3 v3 w3.heap.size p3 q3 y3 := ⟨s_, op_.below hv_, oq_.below hv_, or_.below hv_⟩
 have lt3 : w.heap.size + 1 < w3.heap.size := (zn1.below hq_).lt
 have HB := bel_step HB hvv_
 have r1 := rng_below r1 hvv_
 have zn1 := zn1.below hvv_
 have k1 := k1.below hvv_
 have k2 := k2.below hvv_
 (try have rp1 := rng_below rp1 hvv_)
 (try have rp2 := rng_below rp2 hvv_)
 (try have rp3 := rng_below rp3 hvv_)
 (try have rp4 := rng_below rp4 hvv_)
 clear F1 hs6 hsz sz_ hv_ hq_ hvv_ op_ oq_ or_ s_
 have HH4 := hid (HRhomogeneous_g (HO.out _ HB e12 (by simp)) (HO.out _ HB e13 (by simp)) (HO.out _ HB e14 (by simp)) (HO.out _ HB e15 (by simp)) (k := k) (by omega) (hbe e12 (by simp)) (hbe e13 (by simp)) (hbe e14 (by simp)) (hbe e15 (by simp)))
 have hpt4 : v3.rangeAt w.heap.size 24 (cellsM [e12, e13, e14, e15]) := fun j v hv => by have := rp4 j v hv; exact this
 go_wp2_with (first | refine wpList_load_mid (by rfl) _ _ (by rfl) w.heap.size 24 (by rfl) (cellsM [e12, e13, e14, e15]) _ hpt4 u28 row28 T28i8 ?_ | fail)
 refine HH4.out.mono ?_
 rintro e w4 ⟨l_, rfl, hz_, ho_, hq_⟩
 obtain ⟨p4, q4, y4, rfl⟩ := three l_ (by simpa using congrArg List.length hz_)
 simp only [List.map_cons, List.map_nil, List.cons.injEq, and_true] at hz_
 obtain ⟨zp4, zq4, zy4⟩ := hz_
 have op_ := ho_ p4 (by simp)
 have oq_ := ho_ q4 (by simp)
 have or_ := ho_ y4 (by simp)
 have F1 := fun (l : List ZE) (hl : (cellsM l).length = 6) => store_newN (P := Tryz.prog) (w := w4) (l := l) (zs := cellsM zeros3) 79 hl T79i
 simp only [zeros3, List.replicate, cellsM, ZE.cells, ZE.zero, List.cons_append, List.nil_append] at F1
 have F1 := F1 [p4, q4, y4] rfl
 have hs6 : (cellsM [p4, q4, y4]).length = 6 := rfl
 clear hpt4 HH4 ho_
 go_upto_region 5 with fail
 refine enterR (P := fun u => Code.wp _ _ _ _ u) (c := cellsM [p4, q4, y4]) ?_
 intro v4 hv_ s_ sz_ hsz
 have hvv_ := bel_step hq_ hv_
 have k4 : P3 v4 w4.heap.size p4 q4 y4 := ⟨s_, op_.below hv_, oq_.below hv_, or_.below hv_⟩
 have lt4 : w.heap.size + 1 < w4.heap.size := (zn1.below hq_).lt
 have HB := bel_step HB hvv_
 have r1 := rng_below r1 hvv_
 have zn1 := zn1.below hvv_
 have k1 := k1.below hvv_
 have k2 := k2.below hvv_
 have k3 := k3.below hvv_
 (try have rp1 := rng_below rp1 hvv_)
 (try have rp2 := rng_below rp2 hvv_)
 (try have rp3 := rng_below rp3 hvv_)
 (try have rp4 := rng_below rp4 hvv_)
 clear F1 hs6 hsz sz_ hv_ hq_ hvv_ op_ oq_ or_ s_
 clear rp1 rp2 rp3 rp4
 have hFB0 := hFB0.out
 have hFZ0 := hFZ0.out
 rw [← zp1, ← zq1, ← zy1, ← zp2, ← zq2, ← zy2, ← zp3, ← zq3, ← zy3, ← zp4, ← zq4, ← zy4] at hFB0 hFZ0
 have hFB0 := hid hFB0
 have hFZ0 := hid hFZ0
 have bp1 : Bz (2 * k) p1.z := by rw [zp1, Nat.two_mul]; exact (hbe e0 (by simp)).mul (hbe e3 (by simp))
 have bq1 : Bz (2 * k) q1.z := by rw [zq1, Nat.two_mul]; exact (hbe e2 (by simp)).mul (hbe e1 (by simp))
 have by1 : Bz (2 * k) y1.z := by rw [zy1, Nat.two_mul]; exact (hbe e1 (by simp)).mul (hbe e3 (by simp))
 have bp2 : Bz (2 * k) p2.z := by rw [zp2, Nat.two_mul]; exact (hbe e4 (by simp)).mul (hbe e7 (by simp))
 have bq2 : Bz (2 * k) q2.z := by rw [zq2, Nat.two_mul]; exact (hbe e6 (by simp)).mul (hbe e5 (by simp))
 have by2 : Bz (2 * k) y2.z := by rw [zy2, Nat.two_mul]; exact (hbe e5 (by simp)).mul (hbe e7 (by simp))
 have bp3 : Bz (2 * k) p3.z := by rw [zp3, Nat.two_mul]; exact (hbe e8 (by simp)).mul (hbe e11 (by simp))
 have bq3 : Bz (2 * k) q3.z := by rw [zq3, Nat.two_mul]; exact (hbe e10 (by simp)).mul (hbe e9 (by simp))
 have by3 : Bz (2 * k) y3.z := by rw [zy3, Nat.two_mul]; exact (hbe e9 (by simp)).mul (hbe e11 (by simp))
 have bp4 : Bz (2 * k) p4.z := by rw [zp4, Nat.two_mul]; exact (hbe e12 (by simp)).mul (hbe e15 (by simp))
 have bq4 : Bz (2 * k) q4.z := by rw [zq4, Nat.two_mul]; exact (hbe e14 (by simp)).mul (hbe e13 (by simp))
 have by4 : Bz (2 * k) y4.z := by rw [zy4, Nat.two_mul]; exact (hbe e13 (by simp)).mul (hbe e15 (by simp))
 clear zp1 zq1 zy1 zp2 zq2 zy2 zp3 zq3 zy3 zp4 zq4 zy4 hbe HO
 obtain ⟨xb5, xn5, xL5, XI5⟩ := iz (detZ [p4.z, q4.z, y4.z, p2.z, q2.z, y2.z, p3.z, q3.z, y3.z])
 have HC5 := hid (HRcoldet k4 k2 k3 (k := 2 * k) (by omega) (by
  intro e he
  simp only [List.mem_cons, List.not_mem_nil, or_false] at he
  rcases he with rfl | rfl | rfl | rfl | rfl | rfl | rfl | rfl | rfl <;> assumption) XI5.out)
 go_wp2_with (first | refine wpList_load_mid (by rfl) _ _ (by rfl) w4.heap.size 0 (by rfl) (cellsM [p4, q4, y4]) _ k4.r0 u79 row79 T79i ?_ | refine wpList_load_mid (by rfl) _ _ (by rfl) w2.heap.size 0 (by rfl) (cellsM [p2, q2, y2]) _ k2.r0 u79 row79 T79i ?_ | refine wpList_load_mid (by rfl) _ _ (by rfl) w3.heap.size 0 (by rfl) (cellsM [p3, q3, y3]) _ k3.r0 u79 row79 T79i ?_ | fail)
 refine HC5.out.mono ?_
 rintro e c5 ⟨lc_, rfl, hd_, hq_⟩
 go_wp2_with fail
 refine hd_.mono ?_
 rintro e d5 ⟨R5, t5, rfl, m5, hq2_⟩
 have n5 : w.heap.size + 1 < d5.heap.size := (zn1.below (bel_step hq_ hq2_)).lt
 go_upto_region 6 with fail
 refine enterI (P := fun u => Code.wp _ _ _ _ u) ?_
 intro v5 hv_ a5 b5 sz_ hsz
 have hvv_ := bel_step (bel_step hq_ hq2_) hv_
 have m5 := m5.below hv_
 have HB := bel_step HB hvv_
 have r1 := rng_below r1 hvv_
 have zn1 := zn1.below hvv_
 have l5 := cell_lt a5
 have k1 := k1.below hvv_
 have k2 := k2.below hvv_
 have k3 := k3.below hvv_
 have k4 := k4.below hvv_
 clear HC5 hd_ hsz sz_ hv_ hq_ hq2_ hvv_
 obtain ⟨xb6, xn6, xL6, XI6⟩ := iz (detZ [p1.z, q1.z, y1.z, p4.z, q4.z, y4.z, p3.z, q3.z, y3.z])
 have HC6 := hid (HRcoldet k1 k4 k3 (k := 2 * k) (by omega) (by
  intro e he
  simp only [List.mem_cons, List.not_mem_nil, or_false] at he
  rcases he with rfl | rfl | rfl | rfl | rfl | rfl | rfl | rfl | rfl <;> assumption) XI6.out)
 go_wp2_with (first | refine wpList_load_mid (by rfl) _ _ (by rfl) w1.heap.size 0 (by rfl) (cellsM [p1, q1, y1]) _ k1.r0 u79 row79 T79i ?_ | refine wpList_load_mid (by rfl) _ _ (by rfl) w4.heap.size 0 (by rfl) (cellsM [p4, q4, y4]) _ k4.r0 u79 row79 T79i ?_ | refine wpList_load_mid (by rfl) _ _ (by rfl) w3.heap.size 0 (by rfl) (cellsM [p3, q3, y3]) _ k3.r0 u79 row79 T79i ?_ | fail)
 refine HC6.out.mono ?_
 rintro e c6 ⟨lc_, rfl, hd_, hq_⟩
 go_wp2_with fail
 refine hd_.mono ?_
 rintro e d6 ⟨R6, t6, rfl, m6, hq2_⟩
 have n6 : w.heap.size + 1 < d6.heap.size := (zn1.below (bel_step hq_ hq2_)).lt
 go_upto_region 7 with fail
 refine enterI (P := fun u => Code.wp _ _ _ _ u) ?_
 intro v6 hv_ a6 b6 sz_ hsz
 have hvv_ := bel_step (bel_step hq_ hq2_) hv_
 have m6 := m6.below hv_
 have HB := bel_step HB hvv_
 have r1 := rng_below r1 hvv_
 have zn1 := zn1.below hvv_
 have l6 := cell_lt a6
 have k1 := k1.below hvv_
 have k2 := k2.below hvv_
 have k3 := k3.below hvv_
 have k4 := k4.below hvv_
 have a5 := keep_cell hvv_ a5
 have b5 := keep_cell hvv_ b5
 have m5 := m5.below hvv_
 have l5 := cell_lt a5
 clear HC6 hd_ hsz sz_ hv_ hq_ hq2_ hvv_
 obtain ⟨xb7, xn7, xL7, XI7⟩ := iz (detZ [p1.z, q1.z, y1.z, p2.z, q2.z, y2.z, p4.z, q4.z, y4.z])
 have HC7 := hid (HRcoldet k1 k2 k4 (k := 2 * k) (by omega) (by
  intro e he
  simp only [List.mem_cons, List.not_mem_nil, or_false] at he
  rcases he with rfl | rfl | rfl | rfl | rfl | rfl | rfl | rfl | rfl <;> assumption) XI7.out)
 go_wp2_with (first | refine wpList_load_mid (by rfl) _ _ (by rfl) w1.heap.size 0 (by rfl) (cellsM [p1, q1, y1]) _ k1.r0 u79 row79 T79i ?_ | refine wpList_load_mid (by rfl) _ _ (by rfl) w2.heap.size 0 (by rfl) (cellsM [p2, q2, y2]) _ k2.r0 u79 row79 T79i ?_ | refine wpList_load_mid (by rfl) _ _ (by rfl) w4.heap.size 0 (by rfl) (cellsM [p4, q4, y4]) _ k4.r0 u79 row79 T79i ?_ | fail)
 refine HC7.out.mono ?_
 rintro e c7 ⟨lc_, rfl, hd_, hq_⟩
 go_wp2_with fail
 refine hd_.mono ?_
 rintro e d7 ⟨R7, t7, rfl, m7, hq2_⟩
 have n7 : w.heap.size + 1 < d7.heap.size := (zn1.below (bel_step hq_ hq2_)).lt
 go_upto_region 8 with fail
 refine enterI (P := fun u => Code.wp _ _ _ _ u) ?_
 intro v7 hv_ a7 b7 sz_ hsz
 have hvv_ := bel_step (bel_step hq_ hq2_) hv_
 have m7 := m7.below hv_
 have HB := bel_step HB hvv_
 have r1 := rng_below r1 hvv_
 have zn1 := zn1.below hvv_
 have l7 := cell_lt a7
 have k1 := k1.below hvv_
 have k2 := k2.below hvv_
 have k3 := k3.below hvv_
 have k4 := k4.below hvv_
 have a5 := keep_cell hvv_ a5
 have a6 := keep_cell hvv_ a6
 have b5 := keep_cell hvv_ b5
 have b6 := keep_cell hvv_ b6
 have m5 := m5.below hvv_
 have m6 := m6.below hvv_
 have l5 := cell_lt a5
 have l6 := cell_lt a6
 clear HC7 hd_ hsz sz_ hv_ hq_ hq2_ hvv_
 have hFB : Hid (FB = (decide (detZ [p1.z, q1.z, y1.z, p2.z, q2.z, y2.z, p3.z, q3.z, y3.z] ≠ 0) && decide (detZ [p4.z, q4.z, y4.z, p2.z, q2.z, y2.z, p3.z, q3.z, y3.z] ≠ 0) && decide (detZ [p1.z, q1.z, y1.z, p4.z, q4.z, y4.z, p3.z, q3.z, y3.z] ≠ 0) && decide (detZ [p1.z, q1.z, y1.z, p2.z, q2.z, y2.z, p4.z, q4.z, y4.z] ≠ 0))) := hFB0.out.symm
 have hFZ : Hid (FZ = [detZ [p4.z, q4.z, y4.z, p2.z, q2.z, y2.z, p3.z, q3.z, y3.z] * p1.z, detZ [p1.z, q1.z, y1.z, p4.z, q4.z, y4.z, p3.z, q3.z, y3.z] * p2.z, detZ [p1.z, q1.z, y1.z, p2.z, q2.z, y2.z, p4.z, q4.z, y4.z] * p3.z, detZ [p4.z, q4.z, y4.z, p2.z, q2.z, y2.z, p3.z, q3.z, y3.z] * q1.z, detZ [p1.z, q1.z, y1.z, p4.z, q4.z, y4.z, p3.z, q3.z, y3.z] * q2.z, detZ [p1.z, q1.z, y1.z, p2.z, q2.z, y2.z, p4.z, q4.z, y4.z] * q3.z, detZ [p4.z, q4.z, y4.z, p2.z, q2.z, y2.z, p3.z, q3.z, y3.z] * y1.z, detZ [p1.z, q1.z, y1.z, p4.z, q4.z, y4.z, p3.z, q3.z, y3.z] * y2.z, detZ [p1.z, q1.z, y1.z, p2.z, q2.z, y2.z, p4.z, q4.z, y4.z] * y3.z]) := hFZ0.out.symm
 clear hFB0 hFZ0
 obtain ⟨xb8, xn8, xL8, XI8⟩ := iz (detZ [p1.z, q1.z, y1.z, p2.z, q2.z, y2.z, p3.z, q3.z, y3.z])
 have HC8 := hid fun (W : World) (h : Below v7.heap.size v7 W) => (HRcoldet (w := W) (k1.below h) (k2.below h) (k3.below h) (k := 2 * k) (by omega) (by
  intro e he
  simp only [List.mem_cons, List.not_mem_nil, or_false] at he
  rcases he with rfl | rfl | rfl | rfl | rfl | rfl | rfl | rfl | rfl <;> assumption) XI8.out)
 have D5 := detZ_bz (m := [p4.z, q4.z, y4.z, p2.z, q2.z, y2.z, p3.z, q3.z, y3.z]) rfl (k := 2 * k) (all9.2 ⟨bp4, bq4, by4, bp2, bq2, by2, bp3, bq3, by3⟩)
 have D6 := detZ_bz (m := [p1.z, q1.z, y1.z, p4.z, q4.z, y4.z, p3.z, q3.z, y3.z]) rfl (k := 2 * k) (all9.2 ⟨bp1, bq1, by1, bp4, bq4, by4, bp3, bq3, by3⟩)
 have D7 := detZ_bz (m := [p1.z, q1.z, y1.z, p2.z, q2.z, y2.z, p4.z, q4.z, y4.z]) rfl (k := 2 * k) (all9.2 ⟨bp1, bq1, by1, bp2, bq2, by2, bp4, bq4, by4⟩)
 generalize detZ [p4.z, q4.z, y4.z, p2.z, q2.z, y2.z, p3.z, q3.z, y3.z] = X5 at *
 generalize detZ [p1.z, q1.z, y1.z, p4.z, q4.z, y4.z, p3.z, q3.z, y3.z] = X6 at *
 generalize detZ [p1.z, q1.z, y1.z, p2.z, q2.z, y2.z, p4.z, q4.z, y4.z] = X7 at *
 generalize detZ [p1.z, q1.z, y1.z, p2.z, q2.z, y2.z, p3.z, q3.z, y3.z] = X8 at *
 have ez5 := XI5.out.zero
 have ez6 := XI6.out.zero
 have ez7 := XI7.out.zero
 have ez8 := XI8.out.zero
 rw [show decide (X5 ≠ 0) = !decide (xn5 = 0) by rw [← decide_not]; exact decide_eq_decide.2 (by rw [ez5]), show decide (X6 ≠ 0) = !decide (xn6 = 0) by rw [← decide_not]; exact decide_eq_decide.2 (by rw [ez6]), show decide (X7 ≠ 0) = !decide (xn7 = 0) by rw [← decide_not]; exact decide_eq_decide.2 (by rw [ez7]), show decide (X8 ≠ 0) = !decide (xn8 = 0) by rw [← decide_not]; exact decide_eq_decide.2 (by rw [ez8])] at hFB
 clear ez5 ez6 ez7 ez8
 obtain ⟨t5_, ht5⟩ : ∃ t, decide (xn5 = 0) = t := ⟨_, rfl⟩
 obtain ⟨t6_, ht6⟩ : ∃ t, decide (xn6 = 0) = t := ⟨_, rfl⟩
 obtain ⟨t7_, ht7⟩ : ∃ t, decide (xn7 = 0) = t := ⟨_, rfl⟩
 obtain ⟨t8_, ht8⟩ : ∃ t, decide (xn8 = 0) = t := ⟨_, rfl⟩
 have HZ5 := hid fun (W : World) (A : Option Addr) (c : Nat) => HRzero_g (b := xb5) (n := xn5) (c := c) (A := A) (w := W) t5_ ht5
 have HZ6 := hid fun (W : World) (A : Option Addr) (c : Nat) => HRzero_g (b := xb6) (n := xn6) (c := c) (A := A) (w := W) t6_ ht6
 have HZ7 := hid fun (W : World) (A : Option Addr) (c : Nat) => HRzero_g (b := xb7) (n := xn7) (c := c) (A := A) (w := W) t7_ ht7
 have HZ8 := hid fun (W : World) (A : Option Addr) (c : Nat) => HRzero_g (b := xb8) (n := xn8) (c := c) (A := A) (w := W) t8_ ht8
 rw [ht5, ht6, ht7, ht8] at hFB
 clear ht5 ht6 ht7 ht8
 have hB7 := Below.refl v7.heap.size v7
 cases t5_
 ·cases t6_
  ·cases t7_
   ·have hFB : Hid (FB = !t8_) := by unfold Hid at hFB ⊢; rw [hFB]; simp
    go_wp2_with fail
    refine (HZ5.out v7 _ _).mono ?_
    rintro e z5 ⟨rfl, hv_⟩
    have HB := bel_step HB hv_
    have hB7 := bel_step hB7 hv_
    have r1 := rng_below r1 hv_
    have zn1 := zn1.below hv_
    have k1 := k1.below hv_
    have k2 := k2.below hv_
    have k3 := k3.below hv_
    have a5 := keep_cell hv_ a5
    have a6 := keep_cell hv_ a6
    have a7 := keep_cell hv_ a7
    have b5 := keep_cell hv_ b5
    have b6 := keep_cell hv_ b6
    have b7 := keep_cell hv_ b7
    have m5 := m5.below hv_
    have m6 := m6.below hv_
    have m7 := m7.below hv_
    have l5 := cell_lt a5
    have l6 := cell_lt a6
    have l7 := cell_lt a7
    clear hv_
    go_wp2_with fail
    refine (HZ6.out z5 _ _).mono ?_
    rintro e z6 ⟨rfl, hv_⟩
    have HB := bel_step HB hv_
    have hB7 := bel_step hB7 hv_
    have r1 := rng_below r1 hv_
    have zn1 := zn1.below hv_
    have k1 := k1.below hv_
    have k2 := k2.below hv_
    have k3 := k3.below hv_
    have a5 := keep_cell hv_ a5
    have a6 := keep_cell hv_ a6
    have a7 := keep_cell hv_ a7
    have b5 := keep_cell hv_ b5
    have b6 := keep_cell hv_ b6
    have b7 := keep_cell hv_ b7
    have m5 := m5.below hv_
    have m6 := m6.below hv_
    have m7 := m7.below hv_
    have l5 := cell_lt a5
    have l6 := cell_lt a6
    have l7 := cell_lt a7
    clear hv_
    go_wp2_with fail
    refine (HZ7.out z6 _ _).mono ?_
    rintro e z7 ⟨rfl, hv_⟩
    have HB := bel_step HB hv_
    have hB7 := bel_step hB7 hv_
    have r1 := rng_below r1 hv_
    have zn1 := zn1.below hv_
    have k1 := k1.below hv_
    have k2 := k2.below hv_
    have k3 := k3.below hv_
    have a5 := keep_cell hv_ a5
    have a6 := keep_cell hv_ a6
    have a7 := keep_cell hv_ a7
    have b5 := keep_cell hv_ b5
    have b6 := keep_cell hv_ b6
    have b7 := keep_cell hv_ b7
    have m5 := m5.below hv_
    have m6 := m6.below hv_
    have m7 := m7.below hv_
    have l5 := cell_lt a5
    have l6 := cell_lt a6
    have l7 := cell_lt a7
    clear hv_
    go_wp2_with (first | refine wpList_load_g (by rfl) _ _ (by rfl) w1.heap.size 0 (by rfl) (cellsM [p1, q1, y1]) _ k1.r0 u79 row79 T79i ?_ | refine wpList_load_g (by rfl) _ _ (by rfl) w2.heap.size 0 (by rfl) (cellsM [p2, q2, y2]) _ k2.r0 u79 row79 T79i ?_ | refine wpList_load_g (by rfl) _ _ (by rfl) w3.heap.size 0 (by rfl) (cellsM [p3, q3, y3]) _ k3.r0 u79 row79 T79i ?_ | fail)
    refine (HC8.out _ hB7).mono ?_
    rintro e c8 ⟨lc_, rfl, hd_, hq_⟩
    go_wp2_with fail
    refine hd_.mono ?_
    rintro e d8 ⟨R8, s8, rfl, m8, hq2_⟩
    go_wp2_with fail
    refine (HZ8.out _ _ _).mono ?_
    rintro e v8 ⟨rfl, hq3_⟩
    have hv_ := bel_step (bel_step hq_ hq2_) hq3_
    have HB := bel_step HB hv_
    have r1 := rng_below r1 hv_
    have zn1 := zn1.below hv_
    have k1 := k1.below hv_
    have k2 := k2.below hv_
    have k3 := k3.below hv_
    have a5 := keep_cell hv_ a5
    have b5 := keep_cell hv_ b5
    have m5 := m5.below hv_
    have a6 := keep_cell hv_ a6
    have b6 := keep_cell hv_ b6
    have m6 := m6.below hv_
    have a7 := keep_cell hv_ a7
    have b7 := keep_cell hv_ b7
    have m7 := m7.below hv_
    clear hv_ hq_ hq2_ hq3_ hd_ HC8 m8
    cases t8_
    ·have hFB : Hid (FB = true) := hFB
     obtain ⟨u24_, hu24, row24⟩ := T24u
     have HT1 := hid fun (W : World) (h : Below v8.heap.size v8 W) => HRtimes_g (w := W) (f := ⟨X5, xb5, xn5, xL5, R5, t5⟩) (k1.o0.below h) (k1.o1.below h) (k1.o2.below h) ⟨XI5.out, m5.below h⟩ (by omega) bp1 bq1 by1 D5
     have HT2 := hid fun (W : World) (h : Below v8.heap.size v8 W) => HRtimes_g (w := W) (f := ⟨X6, xb6, xn6, xL6, R6, t6⟩) (k2.o0.below h) (k2.o1.below h) (k2.o2.below h) ⟨XI6.out, m6.below h⟩ (by omega) bp2 bq2 by2 D6
     have HT3 := hid fun (W : World) (h : Below v8.heap.size v8 W) => HRtimes_g (w := W) (f := ⟨X7, xb7, xn7, xL7, R7, t7⟩) (k3.o0.below h) (k3.o1.below h) (k3.o2.below h) ⟨XI7.out, m7.below h⟩ (by omega) bp3 bq3 by3 D7
     dsimp only at HT1 HT2 HT3
     have HB0 := Below.refl v8.heap.size v8
     have s1 := k1.r0
     have s2 := k2.r0
     have s3 := k3.r0
     have s5 := rng_two a5 b5
     have s6 := rng_two a6 b6
     have s7 := rng_two a7 b7
     clear HZ5 HZ6 HZ7 HZ8 a5 b5 a6 b6 a7 b7 m5 m6 m7 hB7 k1 k2 k3 k4
     go_upto_region 10 with fail
     refine wp_region_held_drew (S := fun w' => w'.rangeAt w1.heap.size 0 (cellsM [p1, q1, y1]) ∧ w'.rangeAt w2.heap.size 0 (cellsM [p2, q2, y2]) ∧ w'.rangeAt w3.heap.size 0 (cellsM [p3, q3, y3]) ∧ w'.rangeAt d5.heap.size 0 [.bool xb5, .slice R5 xn5 t5] ∧ w'.rangeAt d6.heap.size 0 [.bool xb6, .slice R6 xn6 t6] ∧ w'.rangeAt d7.heap.size 0 [.bool xb7, .slice R7 xn7 t7]) (by kernel_rfl) ?_ (fun hHeld => ?_)
     ·exact ⟨s1, s2, s3, s5, s6, s7⟩
     refine tk (i := 0) rfl (by decide +kernel) (yieldsIf_load_mid (by rfl) _ _ (by rfl) (w1.heap.size) (0) (by rfl) (cellsM [p1, q1, y1]) _ (fun w_ hS_ => hS_.1) u79 (by first | rfl | assumption) T79i) (by assumption) (fun _ _ _ h => h) ?_
     (try simp only [Act.put, Lp0, Lp1, Lp2])
     refine tk (i := 1) rfl (by decide +kernel) (yieldsIf_load_mid (by rfl) _ _ (by rfl) (d5.heap.size) (0) (by rfl) ([.bool xb5, .slice R5 xn5 t5]) _ (fun w_ hS_ => hS_.2.2.2.1) hu24 (by first | rfl | assumption) T24i) (by assumption) (fun _ _ _ h => h) ?_
     (try simp only [Act.put, Lp0, Lp1, Lp2])
     refine tk (i := 3) rfl (by decide +kernel) (yieldsIf_load_mid (by rfl) _ _ (by rfl) (w2.heap.size) (0) (by rfl) (cellsM [p2, q2, y2]) _ (fun w_ hS_ => hS_.2.1) u79 (by first | rfl | assumption) T79i) (by assumption) (fun _ _ _ h => h) ?_
     (try simp only [Act.put, Lp0, Lp1, Lp2])
     refine tk (i := 4) rfl (by decide +kernel) (yieldsIf_load_mid (by rfl) _ _ (by rfl) (d6.heap.size) (0) (by rfl) ([.bool xb6, .slice R6 xn6 t6]) _ (fun w_ hS_ => hS_.2.2.2.2.1) hu24 (by first | rfl | assumption) T24i) (by assumption) (fun _ _ _ h => h) ?_
     (try simp only [Act.put, Lp0, Lp1, Lp2])
     refine tk (i := 6) rfl (by decide +kernel) (yieldsIf_load_mid (by rfl) _ _ (by rfl) (w3.heap.size) (0) (by rfl) (cellsM [p3, q3, y3]) _ (fun w_ hS_ => hS_.2.2.1) u79 (by first | rfl | assumption) T79i) (by assumption) (fun _ _ _ h => h) ?_
     (try simp only [Act.put, Lp0, Lp1, Lp2])
     refine tk (i := 7) rfl (by decide +kernel) (yieldsIf_load_mid (by rfl) _ _ (by rfl) (d7.heap.size) (0) (by rfl) ([.bool xb7, .slice R7 xn7 t7]) _ (fun w_ hS_ => hS_.2.2.2.2.2) hu24 (by first | rfl | assumption) T24i) (by assumption) (fun _ _ _ h => h) ?_
     (try simp only [Act.put, Lp0, Lp1, Lp2])
     refine br1 (i := 2) (by decide +kernel) rfl (fun K hK => ?_)
     go_simp
     (go_at_call 79; (with_reducible refine (HT1.out _ (bel_step HB0 BG)).mono ?_); rintro e x1 ⟨ls1, rfl, hz1, ho1, hq_⟩; have qx1 : Below v8.heap.size v8 x1 := bel_step BG hq_; have hp_ : Below v8.heap.size v8 x1 := bel_step BG hq_; have s1 := rng_below s1 hp_; have s2 := rng_below s2 hp_; have s3 := rng_below s3 hp_; have s5 := rng_below s5 hp_; have s6 := rng_below s6 hp_; have s7 := rng_below s7 hp_)
     (try go_wp2_with fail)
     refine hK.out _ _ ?_ (fun hHeld => ?_)
     ·exact ⟨s1, s2, s3, s5, s6, s7⟩
     clear hK K
     (try simp only [Act.put, Lp0, Lp1, Lp2])
     refine br1 (i := 5) (by decide +kernel) rfl (fun K hK => ?_)
     go_simp
     (go_at_call 79; (with_reducible refine (HT2.out _ (bel_step HB0 BG)).mono ?_); rintro e x2 ⟨ls2, rfl, hz2, ho2, hq_⟩; have qx2 : Below v8.heap.size v8 x2 := bel_step BG hq_; have hp_ : Below x1.heap.size x1 x2 := bel_step BG hq_; have s1 := rng_below s1 hp_; have s2 := rng_below s2 hp_; have s3 := rng_below s3 hp_; have s5 := rng_below s5 hp_; have s6 := rng_below s6 hp_; have s7 := rng_below s7 hp_)
     (try go_wp2_with fail)
     refine hK.out _ _ ?_ (fun hHeld => ?_)
     ·exact ⟨s1, s2, s3, s5, s6, s7⟩
     clear hK K
     (try simp only [Act.put, Lp0, Lp1, Lp2])
     refine br1 (i := 8) (by decide +kernel) rfl (fun K hK => ?_)
     go_simp
     (go_at_call 79; (with_reducible refine (HT3.out _ (bel_step HB0 BG)).mono ?_); rintro e x3 ⟨ls3, rfl, hz3, ho3, hq_⟩; have qx3 : Below v8.heap.size v8 x3 := bel_step BG hq_; have hp_ : Below x2.heap.size x2 x3 := bel_step BG hq_; have s1 := rng_below s1 hp_; have s2 := rng_below s2 hp_; have s3 := rng_below s3 hp_; have s5 := rng_below s5 hp_; have s6 := rng_below s6 hp_; have s7 := rng_below s7 hp_)
     (try go_wp2_with fail)
     refine hK.out _ _ ?_ (fun hHeld => ?_)
     ·exact ⟨s1, s2, s3, s5, s6, s7⟩
     clear hK K
     (try simp only [Act.put, Lp0, Lp1, Lp2])
     obtain ⟨g0, g1, g2, rfl⟩ := three ls1 (by simpa using congrArg List.length hz1)
     obtain ⟨g3, g4, g5, rfl⟩ := three ls2 (by simpa using congrArg List.length hz2)
     obtain ⟨g6, g7, g8, rfl⟩ := three ls3 (by simpa using congrArg List.length hz3)
     simp only [List.map_cons, List.map_nil, List.cons.injEq, and_true] at hz1 hz2 hz3
     obtain ⟨i0, i1, i2⟩ := hz1
     obtain ⟨i3, i4, i5⟩ := hz2
     obtain ⟨i6, i7, i8⟩ := hz3
     have h12 : Below x1.heap.size x1 x2 := bel_step (Below.refl _ _) (by first | assumption | exact ‹Below x1.heap.size x1 x2›)
     have h23 : Below x2.heap.size x2 x3 := ‹Below x2.heap.size x2 x3›
     have h13 := bel_step h12 h23
     have HCo := hid (HRcolumns_g (w := x3) (a0 := g0) (a1 := g1) (a2 := g2) (b0 := g3) (b1 := g4) (b2 := g5) (c0 := g6) (c1 := g7) (c2 := g8) (by
      intro e he
      simp only [List.mem_cons, List.not_mem_nil, or_false] at he
      rcases he with rfl | rfl | rfl | rfl | rfl | rfl | rfl | rfl | rfl
      ·exact (ho1 _ (by simp)).below h13
      ·exact (ho2 _ (by simp)).below h23
      ·exact ho3 _ (by simp)
      ·exact (ho1 _ (by simp)).below h13
      ·exact (ho2 _ (by simp)).below h23
      ·exact ho3 _ (by simp)
      ·exact (ho1 _ (by simp)).below h13
      ·exact (ho2 _ (by simp)).below h23
      ·exact ho3 _ (by simp)))
     rw [i0, i1, i2, i3, i4, i5, i6, i7, i8] at HCo
     refine br1 (i := 9) (by decide +kernel) rfl (fun K hK => ?_)
     go_simp
     (go_at_call 78; (with_reducible refine (HCo.out).mono ?_); rintro e x4 ⟨lc, rfl, hzc, hoc, hq_⟩; have qx4 : Below v8.heap.size v8 x4 := bel_step qx3 hq_; have s1 := rng_below s1 hq_; have s2 := rng_below s2 hq_; have s3 := rng_below s3 hq_; have s5 := rng_below s5 hq_; have s6 := rng_below s6 hq_; have s7 := rng_below s7 hq_)
     (try go_wp2_with fail)
     refine hK.out _ _ ?_ (fun hHeld => ?_)
     ·exact ⟨s1, s2, s3, s5, s6, s7⟩
     clear hK K
     (try simp only [Act.put, Lp0, Lp1, Lp2])
     have hlc : lc.length = 9 := by rw [← List.length_map (·.z), hzc]; rfl
     have r1 := rng_below r1 qx4
     have zn1 := zn1.below qx4
     have HB := bel_step HB qx4
     have hic := hid (show (Tryz.prog.info? 54).map (·.size) = some (cellsM lc).length by rw [cellsM_len, hlc]; exact hi18.out)
     have hic' := hid (show (Tryz.prog.info? 54).map (·.size) = some (cellsM lc).toArray.size by rw [List.size_toArray, cellsM_len, hlc]; exact hi18.out)
     have ht := rng_there r1 zn1
     rw [show (cellsM zeros9).length = (cellsM lc).toArray.size by rw [List.size_toArray, cellsM_len, cellsM_len, hlc]; rfl] at ht
     refine wpAnyH_ready (rs := [10]) (by kernel_rfl) (by simp) ?_
     refine' AllReadyH.cons (o := _) (by simp only [List.getElem?_toArray, List.getElem?_cons_succ, List.getElem?_cons_zero]; rfl) (fun K hK => ?_) AllReadyH.nil
     rw [if_pos (by rfl)]
     refine wp_store_mid _ _ _ rfl (w.heap.size + 1) 0 (cellsM lc).toArray rfl rfl ht hic'.out (all_oneCell_toArray (cellsM_one lc)) ?_
     refine hK.out _ _ ?_ (fun hHeld => ?_)
     ·(exact ⟨rng_far s1 (by omega), rng_far s2 (by omega), rng_far s3 (by omega), rng_far s5 (by omega), rng_far s6 (by omega), rng_far s7 (by omega)⟩)
     clear hK K
     (try simp only [Act.put, Lp0, Lp1, Lp2])
     refine' tk (i := 11) rfl (by decide +kernel) (Or.inl ⟨by rfl, ?_⟩) (by assumption) (fun _ _ _ h => h) ?_
     rotate_left 1
     ·(intro w_ hSw_; (try dsimp only at hSw_); go_simp; (try with_reducible rfl))
     (try simp only [Act.put, Lp0, Lp1, Lp2])
     refine wpAnyH_done (by kernel_rfl) ?_ _
     obtain ⟨G1, G2, G3, G4⟩ := fin_N (w := w) (l := lc) (cs := zeros9) RT54 rfl hic.out HB (by omega) r1 zn1 (by rw [hlc]; rfl) hoc
     have HF := hid (And.intro G3 G4)
     have hzF : lc.map (·.z) = FZ := by
      rw [hzc, hFZ.out]
      simp only [List.cons.injEq, and_true]
      refine ⟨?_, ?_, ?_, ?_, ?_, ?_, ?_, ?_, ?_⟩ <;> exact Int.mul_comm _ _
     clear G1 G3 G4 hHeld r1 zn1 ht s1 s2 s3 s5 s6 s7
     go_wp2
     refine bodyPost_ret (v := .tuple #[.agg (cellsM lc).toArray, .bool true]) ?_ rfl ?_
     ·simp [results, Tryz.results38, Sem.run_bind, asAddr, Act.put, G2]
     ·rw [hFB.out]
      exact ⟨lc, hlc, rfl, fun _ => ⟨hzF, HF.out.2⟩, HF.out.1⟩
    ·have hFB : Hid (FB = false) := hFB
     clear hFZ
     have HR := hFB
     clear a5 b5 m5 a6 b6 m6 a7 b7 m7 HZ5 HZ6 HZ7
     go_upto_region 9 with fail
     have ht := rng_there r1 zn1
     have ho := all_oneCell_toArray (cellsM_one zeros9)
     obtain ⟨G1, G2, G3, G4⟩ := fin_N (w := w) (l := zeros9) (cs := zeros9) RT54 rfl (by kernel_rfl) HB (by omega) r1 zn1 rfl (fun e he => by rw [List.eq_of_mem_replicate he]; exact ZE.zero_ok _)
     clear G1 G4
     have HF := hid G3
     clear G3
     go_wp2_with (first | refine wpList_store_mid (by rfl) _ _ _ (by rfl) (w.heap.size + 1) 0 (cellsM zeros9).toArray (by rfl) (by rfl) ht hi18.out ho ?_ | fail)
     refine bodyPost_ret (v := .tuple #[.agg (cellsM zeros9).toArray, .bool false]) ?_ rfl ?_
     ·simp [results, Tryz.results38, Sem.run_bind, asAddr, G2]
     ·rw [HR.out]
      exact ⟨zeros9, rfl, rfl, fun h => by simp at h, HF.out⟩
   ·have hFB : Hid (FB = false) := by unfold Hid at hFB ⊢; rw [hFB]; simp
    clear hFZ HC8
    go_wp2_with fail
    refine (HZ5.out v7 _ _).mono ?_
    rintro e z5 ⟨rfl, hv_⟩
    have HB := bel_step HB hv_
    have hB7 := bel_step hB7 hv_
    have r1 := rng_below r1 hv_
    have zn1 := zn1.below hv_
    have k1 := k1.below hv_
    have a5 := keep_cell hv_ a5
    have a6 := keep_cell hv_ a6
    have a7 := keep_cell hv_ a7
    have b5 := keep_cell hv_ b5
    have b6 := keep_cell hv_ b6
    have b7 := keep_cell hv_ b7
    have m5 := m5.below hv_
    have m6 := m6.below hv_
    have m7 := m7.below hv_
    have l5 := cell_lt a5
    have l6 := cell_lt a6
    have l7 := cell_lt a7
    clear hv_
    go_wp2_with fail
    refine (HZ6.out z5 _ _).mono ?_
    rintro e z6 ⟨rfl, hv_⟩
    have HB := bel_step HB hv_
    have hB7 := bel_step hB7 hv_
    have r1 := rng_below r1 hv_
    have zn1 := zn1.below hv_
    have k1 := k1.below hv_
    have a5 := keep_cell hv_ a5
    have a6 := keep_cell hv_ a6
    have a7 := keep_cell hv_ a7
    have b5 := keep_cell hv_ b5
    have b6 := keep_cell hv_ b6
    have b7 := keep_cell hv_ b7
    have m5 := m5.below hv_
    have m6 := m6.below hv_
    have m7 := m7.below hv_
    have l5 := cell_lt a5
    have l6 := cell_lt a6
    have l7 := cell_lt a7
    clear hv_
    go_wp2_with fail
    refine (HZ7.out z6 _ _).mono ?_
    rintro e z7 ⟨rfl, hv_⟩
    have HB := bel_step HB hv_
    have hB7 := bel_step hB7 hv_
    have r1 := rng_below r1 hv_
    have zn1 := zn1.below hv_
    have k1 := k1.below hv_
    have a5 := keep_cell hv_ a5
    have a6 := keep_cell hv_ a6
    have a7 := keep_cell hv_ a7
    have b5 := keep_cell hv_ b5
    have b6 := keep_cell hv_ b6
    have b7 := keep_cell hv_ b7
    have m5 := m5.below hv_
    have m6 := m6.below hv_
    have m7 := m7.below hv_
    have l5 := cell_lt a5
    have l6 := cell_lt a6
    have l7 := cell_lt a7
    clear hv_
    have HR := hFB
    clear a5 b5 m5 a6 b6 m6 a7 b7 m7 HZ5 HZ6 HZ7
    go_upto_region 9 with fail
    have ht := rng_there r1 zn1
    have ho := all_oneCell_toArray (cellsM_one zeros9)
    obtain ⟨G1, G2, G3, G4⟩ := fin_N (w := w) (l := zeros9) (cs := zeros9) RT54 rfl (by kernel_rfl) HB (by omega) r1 zn1 rfl (fun e he => by rw [List.eq_of_mem_replicate he]; exact ZE.zero_ok _)
    clear G1 G4
    have HF := hid G3
    clear G3
    go_wp2_with (first | refine wpList_store_mid (by rfl) _ _ _ (by rfl) (w.heap.size + 1) 0 (cellsM zeros9).toArray (by rfl) (by rfl) ht hi18.out ho ?_ | fail)
    refine bodyPost_ret (v := .tuple #[.agg (cellsM zeros9).toArray, .bool false]) ?_ rfl ?_
    ·simp [results, Tryz.results38, Sem.run_bind, asAddr, G2]
    ·rw [HR.out]
     exact ⟨zeros9, rfl, rfl, fun h => by simp at h, HF.out⟩
  ·have hFB : Hid (FB = false) := by unfold Hid at hFB ⊢; rw [hFB]; simp
   clear hFZ HC8
   go_wp2_with fail
   refine (HZ5.out v7 _ _).mono ?_
   rintro e z5 ⟨rfl, hv_⟩
   have HB := bel_step HB hv_
   have hB7 := bel_step hB7 hv_
   have r1 := rng_below r1 hv_
   have zn1 := zn1.below hv_
   have k1 := k1.below hv_
   have a5 := keep_cell hv_ a5
   have a6 := keep_cell hv_ a6
   have a7 := keep_cell hv_ a7
   have b5 := keep_cell hv_ b5
   have b6 := keep_cell hv_ b6
   have b7 := keep_cell hv_ b7
   have m5 := m5.below hv_
   have m6 := m6.below hv_
   have m7 := m7.below hv_
   have l5 := cell_lt a5
   have l6 := cell_lt a6
   have l7 := cell_lt a7
   clear hv_
   go_wp2_with fail
   refine (HZ6.out z5 _ _).mono ?_
   rintro e z6 ⟨rfl, hv_⟩
   have HB := bel_step HB hv_
   have hB7 := bel_step hB7 hv_
   have r1 := rng_below r1 hv_
   have zn1 := zn1.below hv_
   have k1 := k1.below hv_
   have a5 := keep_cell hv_ a5
   have a6 := keep_cell hv_ a6
   have a7 := keep_cell hv_ a7
   have b5 := keep_cell hv_ b5
   have b6 := keep_cell hv_ b6
   have b7 := keep_cell hv_ b7
   have m5 := m5.below hv_
   have m6 := m6.below hv_
   have m7 := m7.below hv_
   have l5 := cell_lt a5
   have l6 := cell_lt a6
   have l7 := cell_lt a7
   clear hv_
   have HR := hFB
   clear a5 b5 m5 a6 b6 m6 a7 b7 m7 HZ5 HZ6 HZ7
   go_upto_region 9 with fail
   have ht := rng_there r1 zn1
   have ho := all_oneCell_toArray (cellsM_one zeros9)
   obtain ⟨G1, G2, G3, G4⟩ := fin_N (w := w) (l := zeros9) (cs := zeros9) RT54 rfl (by kernel_rfl) HB (by omega) r1 zn1 rfl (fun e he => by rw [List.eq_of_mem_replicate he]; exact ZE.zero_ok _)
   clear G1 G4
   have HF := hid G3
   clear G3
   go_wp2_with (first | refine wpList_store_mid (by rfl) _ _ _ (by rfl) (w.heap.size + 1) 0 (cellsM zeros9).toArray (by rfl) (by rfl) ht hi18.out ho ?_ | fail)
   refine bodyPost_ret (v := .tuple #[.agg (cellsM zeros9).toArray, .bool false]) ?_ rfl ?_
   ·simp [results, Tryz.results38, Sem.run_bind, asAddr, G2]
   ·rw [HR.out]
    exact ⟨zeros9, rfl, rfl, fun h => by simp at h, HF.out⟩
 ·have hFB : Hid (FB = false) := by unfold Hid at hFB ⊢; rw [hFB]; simp
  clear hFZ HC8
  go_wp2_with fail
  refine (HZ5.out v7 _ _).mono ?_
  rintro e z5 ⟨rfl, hv_⟩
  have HB := bel_step HB hv_
  have hB7 := bel_step hB7 hv_
  have r1 := rng_below r1 hv_
  have zn1 := zn1.below hv_
  have k1 := k1.below hv_
  have a5 := keep_cell hv_ a5
  have a6 := keep_cell hv_ a6
  have a7 := keep_cell hv_ a7
  have b5 := keep_cell hv_ b5
  have b6 := keep_cell hv_ b6
  have b7 := keep_cell hv_ b7
  have m5 := m5.below hv_
  have m6 := m6.below hv_
  have m7 := m7.below hv_
  have l5 := cell_lt a5
  have l6 := cell_lt a6
  have l7 := cell_lt a7
  clear hv_
  have HR := hFB
  clear a5 b5 m5 a6 b6 m6 a7 b7 m7 HZ5 HZ6 HZ7
  go_upto_region 9 with fail
  have ht := rng_there r1 zn1
  have ho := all_oneCell_toArray (cellsM_one zeros9)
  obtain ⟨G1, G2, G3, G4⟩ := fin_N (w := w) (l := zeros9) (cs := zeros9) RT54 rfl (by kernel_rfl) HB (by omega) r1 zn1 rfl (fun e he => by rw [List.eq_of_mem_replicate he]; exact ZE.zero_ok _)
  clear G1 G4
  have HF := hid G3
  clear G3
  go_wp2_with (first | refine wpList_store_mid (by rfl) _ _ _ (by rfl) (w.heap.size + 1) 0 (cellsM zeros9).toArray (by rfl) (by rfl) ht hi18.out ho ?_ | fail)
  refine bodyPost_ret (v := .tuple #[.agg (cellsM zeros9).toArray, .bool false]) ?_ rfl ?_
  ·simp [results, Tryz.results38, Sem.run_bind, asAddr, G2]
  ·rw [HR.out]
   exact ⟨zeros9, rfl, rfl, fun h => by simp at h, HF.out⟩
end Go.Proofs.YtgnfobnkhjlbbaaGreat
