/- The laws on homographies: the chapter's examples hold. Conditions: none. -/
import Derived.Test.YtgnfobnkhjlbbaaZYI
import Derived.Test.YtgnfobnkhjlbbaaZXA
set_option linter.unusedVariables false
set_option linter.unusedSimpArgs false
namespace Go.Proofs.Ytgnfobnkhjlbbaa
open Go.RowKit Big

theorem hom_at2 {w : World} {rf : List Rf} {zs : List Int} (h9 : rf.length = 9) (hz : (zl rf).map (·.z) = homZ zs) (ok : ∀ e ∈ zl rf, e.ok w) (k : Nat) (hk : k < 9) (v : Int) (hv : zs[k]? = some v) :
    ∃ e f : ZE, e.z = v ∧ f.z = 1 ∧ e.ok w ∧ f.ok w ∧ ∀ (W : World) (g : Nat), W.rangeAt g 0 (cellsM (zl rf)) → W.rangeAt g (k * 4) [.bool e.b, .slice e.A e.n e.c, .bool f.b, .slice f.A f.n f.c] := by
  have hl : (zl rf).length = 18 := by rw [zl_len, h9]
  rw [homZ_fr] at hz
  have hk' : k < (zs.map fun z => (z, 1)).length := by
    rw [List.length_map]; exact (List.getElem?_eq_some_iff.1 hv).1
  obtain ⟨h1, h2, h3, h4⟩ := frZ_at hz k hk'
  have e1 : (zs.map fun z => ((z, 1) : Int × Nat))[k] = (v, 1) := by
    obtain ⟨h, rfl⟩ := List.getElem?_eq_some_iff.1 hv
    simp
  rw [e1] at h3 h4
  refine ⟨_, _, h3, h4, ok _ (List.getElem_mem h1), ok _ (List.getElem_mem h2), fun W g hr j v hv => ?_⟩
  obtain ⟨c0, c1⟩ := rng_cell hr h1
  obtain ⟨c2, c3⟩ := rng_cell hr h2
  rw [show 2 * k * 2 = k * 4 by omega] at c0 c1
  rw [show (2 * k + 1) * 2 = k * 4 + 2 by omega] at c2 c3
  match j, hv with
  | 0, hv => obtain rfl := Option.some.inj hv; exact c0
  | 1, hv => obtain rfl := Option.some.inj hv; exact c1
  | 2, hv => obtain rfl := Option.some.inj hv; exact c2
  | 3, hv => obtain rfl := Option.some.inj hv; exact c3
theorem rng_four {w : World} {g : Nat} {a b c d : Value} (h0 : w.cell? ⟨g, 0, none⟩ = some a) (h1 : w.cell? ⟨g, 1, none⟩ = some b) (h2 : w.cell? ⟨g, 2, none⟩ = some c) (h3 : w.cell? ⟨g, 3, none⟩ = some d) : w.rangeAt g 0 [a, b, c, d] := fun j v hv => by
  match j, hv with
  | 0, hv => obtain rfl := Option.some.inj hv; exact h0
  | 1, hv => obtain rfl := Option.some.inj hv; exact h1
  | 2, hv => obtain rfl := Option.some.inj hv; exact h2
  | 3, hv => obtain rfl := Option.some.inj hv; exact h3
theorem T26u : ∃ d, Try.prog.underlying 26 = some d ∧ d.isRow = true := ⟨_, Try.underlying26, rfl⟩
theorem T26i : (Try.prog.info? 26).map (·.size) = some 4 := by kernel_rfl
set_option maxRecDepth 100000 in
set_option maxHeartbeats 16000000 in
theorem Lex40_ok (w : World) : Calls Try.prog 8 #[] w (RetB w true) := by
  have HO01 := hid fun (W : World) => Lof_h (w := W) (x := 0) (y := 1) (by omega) (by omega) (by omega) (by omega) n_0_1
  have HO11 := hid fun (W : World) => Lof_h (w := W) (x := 1) (y := 1) (by omega) (by omega) (by omega) (by omega) n_1_1
  have HO10 := hid fun (W : World) => Lof_h (w := W) (x := 10) (y := 1) (by omega) (by omega) (by omega) (by omega) n_10_1
  have HO20 := hid fun (W : World) => Lof_h (w := W) (x := 20) (y := 1) (by omega) (by omega) (by omega) (by omega) n_20_1
  have HO12 := hid fun (W : World) => Lof_h (w := W) (x := 1) (y := 2) (by omega) (by omega) (by omega) (by omega) n_1_2
  have HO15 := hid fun (W : World) => Lof_h (w := W) (x := 15) (y := 1) (by omega) (by omega) (by omega) (by omega) n_15_1
  have HO21 := hid fun (W : World) => Lof_h (w := W) (x := 2) (y := 1) (by omega) (by omega) (by omega) (by omega) n_2_1
  have HB : Below w.heap.size w w := Below.refl _ _
  go_enter Try.func8, Try.ntmps8
  go_wp2_with fail
  refine (HO01.out _).mono ?_
  rintro e w1 ⟨o0, o1, rfl, zo0, zo1, oo0, oo1, h1⟩
  (try dsimp only at zo0 zo1)
  simp only [cellsM, ZE.cells, List.cons_append, List.nil_append]
  go_wp2_with fail
  refine (HO11.out _).mono ?_
  rintro e w2 ⟨n0, n1, rfl, zn0, zn1, on0, on1, h2⟩
  (try dsimp only at zn0 zn1)
  simp only [cellsM, ZE.cells, List.cons_append, List.nil_append]
  go_wp2_with fail
  refine (HO10.out _).mono ?_
  rintro e w3 ⟨t0, t1, rfl, zt0, zt1, ot0, ot1, h3⟩
  (try dsimp only at zt0 zt1)
  simp only [cellsM, ZE.cells, List.cons_append, List.nil_append]
  go_wp2_with fail
  refine (HO20.out _).mono ?_
  rintro e w4 ⟨s0, s1, rfl, zs0, zs1, os0, os1, h4⟩
  (try dsimp only at zs0 zs1)
  simp only [cellsM, ZE.cells, List.cons_append, List.nil_append]
  go_upto_region 2 with fail
  refine enterR4 (P := fun u => Code.wp _ _ _ _ u) (c0 := cellsM [o0, o1]) (c1 := cellsM [n0, n1]) (c2 := cellsM [t0, t1]) (c3 := cellsM [s0, s1]) ?_
  intro u hu r0 r1 r2 r3 zz hsz
  clear hsz HO10 HO20
  have lt3 := zz.lt
  have hHB := bel_step (bel_step (bel_step (bel_step (bel_step HB h1) h2) h3) h4) hu
  have oo0 := oo0.below (bel_step (bel_step (bel_step h2 h3) h4) hu)
  have oo1 := oo1.below (bel_step (bel_step (bel_step h2 h3) h4) hu)
  have on0 := on0.below (bel_step (bel_step h3 h4) hu)
  have on1 := on1.below (bel_step (bel_step h3 h4) hu)
  have ot0 := ot0.below (bel_step h4 hu)
  have ot1 := ot1.below (bel_step h4 hu)
  have os0 := os0.below hu
  have os1 := os1.below hu
  have HB := hHB
  clear hHB h1 h2 h3 h4 hu zz
  have HA1 := hid fun (W : World) (h : Below u.heap.size u W) => Lat_g (w := W) (oo0.below h) (oo1.below h) (oo0.below h) (oo1.below h)
  have HA2 := hid fun (W : World) (h : Below u.heap.size u W) => Lat_g (w := W) (on0.below h) (on1.below h) (oo0.below h) (oo1.below h)
  have HA3 := hid fun (W : World) (h : Below u.heap.size u W) => Lat_g (w := W) (on0.below h) (on1.below h) (on0.below h) (on1.below h)
  have HA4 := hid fun (W : World) (h : Below u.heap.size u W) => Lat_g (w := W) (oo0.below h) (oo1.below h) (on0.below h) (on1.below h)
  have HA5 := hid fun (W : World) (h : Below u.heap.size u W) => Lat_g (w := W) (ot0.below h) (ot1.below h) (ot0.below h) (ot1.below h)
  have HA6 := hid fun (W : World) (h : Below u.heap.size u W) => Lat_g (w := W) (os0.below h) (os1.below h) (ot0.below h) (ot1.below h)
  have HA7 := hid fun (W : World) (h : Below u.heap.size u W) => Lat_g (w := W) (os0.below h) (os1.below h) (os0.below h) (os1.below h)
  have HA8 := hid fun (W : World) (h : Below u.heap.size u W) => Lat_g (w := W) (ot0.below h) (ot1.below h) (os0.below h) (os1.below h)
  have zA : [o0, o1, o0, o1, n0, n1, o0, o1, n0, n1, n0, n1, o0, o1, n0, n1].map (·.z) = frZ exA := by simp only [List.map_cons, List.map_nil, zo0, zo1, zn0, zn1]; rfl
  have zB : [t0, t1, t0, t1, s0, s1, t0, t1, s0, s1, s0, s1, t0, t1, s0, s1].map (·.z) = frZ exB := by simp only [List.map_cons, List.map_nil, zt0, zt1, zs0, zs1]; rfl
  have HFP := hid fun (W : World) (h : Below u.heap.size u W) => (show Calls Try.prog 7 #[.agg (cellsM [o0, o1, o0, o1, n0, n1, o0, o1, n0, n1, n0, n1, o0, o1, n0, n1]).toArray, .agg (cellsM [t0, t1, t0, t1, s0, s1, t0, t1, s0, s1, s0, s1, t0, t1, s0, s1]).toArray] W (RetH W (homZ exH, 0)) from by
    obtain ⟨a1, a2, a3, a4⟩ := rfG_of zA (w := W) (by
      intro e he
      simp only [List.mem_cons, List.not_mem_nil, or_false] at he
      rcases he with rfl | rfl | rfl | rfl | rfl | rfl | rfl | rfl | rfl | rfl | rfl | rfl | rfl | rfl | rfl | rfl <;> first | exact oo0.below h | exact oo1.below h | exact on0.below h | exact on1.below h) exA_ok
    obtain ⟨b1, b2, b3, b4⟩ := rfG_of zB (w := W) (by
      intro e he
      simp only [List.mem_cons, List.not_mem_nil, or_false] at he
      rcases he with rfl | rfl | rfl | rfl | rfl | rfl | rfl | rfl | rfl | rfl | rfl | rfl | rfl | rfl | rfl | rfl <;> first | exact ot0.below h | exact ot1.below h | exact os0.below h | exact os1.below h) exB_ok
    have := LFromPoints_h (w := W) a2 b2 a3 b3
    rwa [a1, b1, ex_fp a2 b2 a4 b4 a3 b3] at this)
  simp only [cellsM, ZE.cells, List.cons_append, List.nil_append] at HA1 HA2 HA3 HA4 HA5 HA6 HA7 HA8 HFP
  have p00 : u.cell? ⟨w4.heap.size, 0, none⟩ = some (.bool o0.b) := r0 0 _ rfl
  have p01 : u.cell? ⟨w4.heap.size, 1, none⟩ = some (.slice o0.A o0.n o0.c) := r0 1 _ rfl
  have p02 : u.cell? ⟨w4.heap.size, 2, none⟩ = some (.bool o1.b) := r0 2 _ rfl
  have p03 : u.cell? ⟨w4.heap.size, 3, none⟩ = some (.slice o1.A o1.n o1.c) := r0 3 _ rfl
  have p10 : u.cell? ⟨w4.heap.size + 1, 0, none⟩ = some (.bool n0.b) := r1 0 _ rfl
  have p11 : u.cell? ⟨w4.heap.size + 1, 1, none⟩ = some (.slice n0.A n0.n n0.c) := r1 1 _ rfl
  have p12 : u.cell? ⟨w4.heap.size + 1, 2, none⟩ = some (.bool n1.b) := r1 2 _ rfl
  have p13 : u.cell? ⟨w4.heap.size + 1, 3, none⟩ = some (.slice n1.A n1.n n1.c) := r1 3 _ rfl
  have p20 : u.cell? ⟨w4.heap.size + 1 + 1, 0, none⟩ = some (.bool t0.b) := r2 0 _ rfl
  have p21 : u.cell? ⟨w4.heap.size + 1 + 1, 1, none⟩ = some (.slice t0.A t0.n t0.c) := r2 1 _ rfl
  have p22 : u.cell? ⟨w4.heap.size + 1 + 1, 2, none⟩ = some (.bool t1.b) := r2 2 _ rfl
  have p23 : u.cell? ⟨w4.heap.size + 1 + 1, 3, none⟩ = some (.slice t1.A t1.n t1.c) := r2 3 _ rfl
  have p30 : u.cell? ⟨w4.heap.size + 1 + 1 + 1, 0, none⟩ = some (.bool s0.b) := r3 0 _ rfl
  have p31 : u.cell? ⟨w4.heap.size + 1 + 1 + 1, 1, none⟩ = some (.slice s0.A s0.n s0.c) := r3 1 _ rfl
  have p32 : u.cell? ⟨w4.heap.size + 1 + 1 + 1, 2, none⟩ = some (.bool s1.b) := r3 2 _ rfl
  have p33 : u.cell? ⟨w4.heap.size + 1 + 1 + 1, 3, none⟩ = some (.slice s1.A s1.n s1.c) := r3 3 _ rfl
  clear zA zB
  have hFl : ∀ (v : World) (rf : List Rf), rf.length = 9 → (storeCells ⟨v.heap.size, 0, none⟩ (cellsM (zl rf))).run Try.prog (v.alloc (.cells (cellsM zeros18).toArray 32)) = .ok () (v.alloc (.cells (cellsM (zl rf)).toArray 32)) := fun v rf h => store_newN (P := Try.prog) (w := v) (l := zl rf) (zs := cellsM zeros18) 32 (by rw [cellsM_len, zl_len, h]; rfl) T32i
  simp only [zeros18, List.replicate, cellsM, ZE.cells, ZE.zero, List.cons_append, List.nil_append] at hFl
  have hFl := hid hFl
  go_cut [5, 6] (fun s5 s6 wx => s6 = .int .i64 0 ∧ ∃ (g : Nat) (rf : List Rf), s5 = .pointer (some ⟨g, 0, none⟩) ∧ rf.length = 9 ∧ (zl rf).map (·.z) = homZ exH ∧ BlkR u g rf wx)
  case first =>
    have HBu := Below.refl u.heap.size u
    go_region_held3 (fun w' => (w'.cell? ⟨w4.heap.size, 0, none⟩ = some (.bool o0.b) ∧ w'.cell? ⟨w4.heap.size, 1, none⟩ = some (.slice o0.A o0.n o0.c) ∧ w'.cell? ⟨w4.heap.size, 2, none⟩ = some (.bool o1.b) ∧ w'.cell? ⟨w4.heap.size, 3, none⟩ = some (.slice o1.A o1.n o1.c)) ∧ (w'.cell? ⟨w4.heap.size + 1, 0, none⟩ = some (.bool n0.b) ∧ w'.cell? ⟨w4.heap.size + 1, 1, none⟩ = some (.slice n0.A n0.n n0.c) ∧ w'.cell? ⟨w4.heap.size + 1, 2, none⟩ = some (.bool n1.b) ∧ w'.cell? ⟨w4.heap.size + 1, 3, none⟩ = some (.slice n1.A n1.n n1.c)) ∧ (w'.cell? ⟨w4.heap.size + 1 + 1, 0, none⟩ = some (.bool t0.b) ∧ w'.cell? ⟨w4.heap.size + 1 + 1, 1, none⟩ = some (.slice t0.A t0.n t0.c) ∧ w'.cell? ⟨w4.heap.size + 1 + 1, 2, none⟩ = some (.bool t1.b) ∧ w'.cell? ⟨w4.heap.size + 1 + 1, 3, none⟩ = some (.slice t1.A t1.n t1.c)) ∧ (w'.cell? ⟨w4.heap.size + 1 + 1 + 1, 0, none⟩ = some (.bool s0.b) ∧ w'.cell? ⟨w4.heap.size + 1 + 1 + 1, 1, none⟩ = some (.slice s0.A s0.n s0.c) ∧ w'.cell? ⟨w4.heap.size + 1 + 1 + 1, 2, none⟩ = some (.bool s1.b) ∧ w'.cell? ⟨w4.heap.size + 1 + 1 + 1, 3, none⟩ = some (.slice s1.A s1.n s1.c))) (first | ((try dsimp only); repeat' (first | with_reducible assumption | apply And.intro | (with_reducible refine keep_alloc ?_) | (with_reducible refine keep_drew ?_) | (with_reducible refine keep_set (by omega) ?_) | (with_reducible refine keep_sets (by omega) ?_) | (with_reducible refine keep_cell (W := u) ?_ ?_) | fail))) (first | (go_at_call 27; (with_reducible refine (HA1.out _ BG).mono ?_); rintro e v1 ⟨rfl, _, hq_⟩; (try simp only [cellsM, ZE.cells, List.cons_append, List.nil_append]); have qv1 : Below u.heap.size u v1 := bel_step BG hq_; have hsv1 := qv1.size; have wv1 : Below u.heap.size u v1 := bel_step BG hq_; (try refine (fun ra za => ?_ : _ → _ → _) (rng_below ra wv1) (Zn.below za wv1)); (try refine And.elim (fun ra za => ?_) (alloc_drew hq_)); (try refine And.elim (fun ra za => ?_) (alloc_plain hq_))) | (go_at_call 27; (with_reducible refine (HA2.out _ BG).mono ?_); rintro e v2 ⟨rfl, _, hq_⟩; (try simp only [cellsM, ZE.cells, List.cons_append, List.nil_append]); have qv2 : Below u.heap.size u v2 := bel_step BG hq_; have hsv2 := qv2.size; have wv2 : Below v1.heap.size v1 v2 := bel_step BG hq_; (try refine (fun ra za => ?_ : _ → _ → _) (rng_below ra wv2) (Zn.below za wv2)); (try refine And.elim (fun ra za => ?_) (alloc_drew hq_)); (try refine And.elim (fun ra za => ?_) (alloc_plain hq_))) | (go_at_call 27; (with_reducible refine (HA3.out _ BG).mono ?_); rintro e v3 ⟨rfl, _, hq_⟩; (try simp only [cellsM, ZE.cells, List.cons_append, List.nil_append]); have qv3 : Below u.heap.size u v3 := bel_step BG hq_; have hsv3 := qv3.size; have wv3 : Below v2.heap.size v2 v3 := bel_step BG hq_; (try refine (fun ra za => ?_ : _ → _ → _) (rng_below ra wv3) (Zn.below za wv3)); (try refine And.elim (fun ra za => ?_) (alloc_drew hq_)); (try refine And.elim (fun ra za => ?_) (alloc_plain hq_))) | (go_at_call 27; (with_reducible refine (HA4.out _ BG).mono ?_); rintro e v4 ⟨rfl, _, hq_⟩; (try simp only [cellsM, ZE.cells, List.cons_append, List.nil_append]); have qv4 : Below u.heap.size u v4 := bel_step BG hq_; have hsv4 := qv4.size; have wv4 : Below v3.heap.size v3 v4 := bel_step BG hq_; (try refine (fun ra za => ?_ : _ → _ → _) (rng_below ra wv4) (Zn.below za wv4)); (try refine And.elim (fun ra za => ?_) (alloc_drew hq_)); (try refine And.elim (fun ra za => ?_) (alloc_plain hq_))) | (go_at_call 27; (with_reducible refine (HA5.out _ BG).mono ?_); rintro e v5 ⟨rfl, _, hq_⟩; (try simp only [cellsM, ZE.cells, List.cons_append, List.nil_append]); have qv5 : Below u.heap.size u v5 := bel_step BG hq_; have hsv5 := qv5.size; have wv5 : Below v4.heap.size v4 v5 := bel_step BG hq_; (try refine (fun ra za => ?_ : _ → _ → _) (rng_below ra wv5) (Zn.below za wv5)); (try refine And.elim (fun ra za => ?_) (alloc_drew hq_)); (try refine And.elim (fun ra za => ?_) (alloc_plain hq_))) | (go_at_call 27; (with_reducible refine (HA6.out _ BG).mono ?_); rintro e v6 ⟨rfl, _, hq_⟩; (try simp only [cellsM, ZE.cells, List.cons_append, List.nil_append]); have qv6 : Below u.heap.size u v6 := bel_step BG hq_; have hsv6 := qv6.size; have wv6 : Below v5.heap.size v5 v6 := bel_step BG hq_; (try refine (fun ra za => ?_ : _ → _ → _) (rng_below ra wv6) (Zn.below za wv6)); (try refine And.elim (fun ra za => ?_) (alloc_drew hq_)); (try refine And.elim (fun ra za => ?_) (alloc_plain hq_))) | (go_at_call 27; (with_reducible refine (HA7.out _ BG).mono ?_); rintro e v7 ⟨rfl, _, hq_⟩; (try simp only [cellsM, ZE.cells, List.cons_append, List.nil_append]); have qv7 : Below u.heap.size u v7 := bel_step BG hq_; have hsv7 := qv7.size; have wv7 : Below v6.heap.size v6 v7 := bel_step BG hq_; (try refine (fun ra za => ?_ : _ → _ → _) (rng_below ra wv7) (Zn.below za wv7)); (try refine And.elim (fun ra za => ?_) (alloc_drew hq_)); (try refine And.elim (fun ra za => ?_) (alloc_plain hq_))) | (go_at_call 27; (with_reducible refine (HA8.out _ BG).mono ?_); rintro e v8 ⟨rfl, _, hq_⟩; (try simp only [cellsM, ZE.cells, List.cons_append, List.nil_append]); have qv8 : Below u.heap.size u v8 := bel_step BG hq_; have hsv8 := qv8.size; have wv8 : Below v7.heap.size v7 v8 := bel_step BG hq_; (try refine (fun ra za => ?_ : _ → _ → _) (rng_below ra wv8) (Zn.below za wv8)); (try refine And.elim (fun ra za => ?_) (alloc_drew hq_)); (try refine And.elim (fun ra za => ?_) (alloc_plain hq_))) | (go_at_call 7; (with_reducible refine (HFP.out _ BG).mono ?_); rintro e v9 ⟨rf, h9, rfl, hz, ok, mg, hq_⟩; have qv9 : Below u.heap.size u v9 := bel_step BG hq_; have hsv9 := qv9.size; have wv9 : Below v8.heap.size v8 v9 := bel_step BG hq_; (try refine (fun ra za => ?_ : _ → _ → _) (rng_below ra wv9) (Zn.below za wv9)); (try refine And.elim (fun ra za => ?_) (alloc_drew hq_)); (try refine And.elim (fun ra za => ?_) (alloc_plain hq_)); have h36 : (cellsM (zl rf)).length = 36 := (by rw [cellsM_len, zl_len, h9]); have F1 := hFl.out v9 rf h9; (try refine (fun F2 => ?_ : _ → _) (run_store_cs (P := Try.prog) (vs := cellsM (zl rf)) ra za h36 (cellsM_one _)))))
    all_goals
      go_wp2_with fail
      go_meet
    all_goals
      first
      | exact ⟨rfl, _, rf, rfl, h9, hz, BlkR.new qv9 ok⟩
      | exact ⟨rfl, _, rf, rfl, h9, hz, BlkR.set (cs := zeros18) ra za qv9 (by omega) (by rw [zl_len, h9]; rfl) ok⟩
  case rest =>
    obtain ⟨rfl, gH, rH, rfl, h9H, hzH, kH⟩ := hcut
    have HHr := homR_rf (X := exH) rfl le_exH (by rw [red_exH]; exact hzH) kH.ok
    have hqu := kH.b
    have HB := bel_step HB hqu
    have ltgH : w4.heap.size + 1 + 1 + 1 < gH := Nat.lt_of_lt_of_le lt3 kH.hg
    have h36H : (cellsM (zl rH)).length = 36 := by rw [cellsM_len, zl_len, h9H]
    obtain ⟨d32, hU32, row32⟩ := T32u
    obtain ⟨d28, hU28, row28⟩ := T28u
    have hi36H := hid (show (Try.prog.info? 32).map (·.size) = some (cellsM (zl rH)).length by rw [h36H]; exact T32i)
    have p00 := keep_cell hqu p00
    have p01 := keep_cell hqu p01
    have p02 := keep_cell hqu p02
    have p03 := keep_cell hqu p03
    have p10 := keep_cell hqu p10
    have p11 := keep_cell hqu p11
    have p12 := keep_cell hqu p12
    have p13 := keep_cell hqu p13
    have p20 := keep_cell hqu p20
    have p21 := keep_cell hqu p21
    have p22 := keep_cell hqu p22
    have p23 := keep_cell hqu p23
    have oo0 := oo0.below hqu
    have oo1 := oo1.below hqu
    have on0 := on0.below hqu
    have on1 := on1.below hqu
    have ot0 := ot0.below hqu
    have ot1 := ot1.below hqu
    have HAp := hid fun (W : World) (h : Below wc.heap.size wc W) (e0 e1 e2 e3 : ZE) (hz : [e0, e1, e2, e3].map (·.z) = frZ [(1, 2), (1, 2)]) (ho : ∀ e ∈ [e0, e1, e2, e3], e.ok W) => (show Calls Try.prog 9 #[.agg (cellsM (zl rH)).toArray, .agg (cellsM [e0, e1, e2, e3]).toArray] W (RetP W (frZ [(15, 1), (15, 1)], 0)) from by
      obtain ⟨a1, a2, a3, a4⟩ := rfG_of hz ho (by unfold Nf; decide)
      have := LApply_h (w := W) h9H a2 (fun f hf => (kH.m f hf).below h) a3
      rwa [a1, ex_apl HHr a4 a3] at this)
    have HAt := hid fun (W : World) (e0 e1 e2 e3 : ZE) (o0 : e0.ok W) (o1 : e1.ok W) (o2 : e2.ok W) (o3 : e3.ok W) => Lat_g (w := W) o0 o1 o2 o3
    simp only [cellsM, ZE.cells, List.cons_append, List.nil_append] at HAp HAt
    clear HA1 HA2 HA3 HA4 HA5 HA6 HA7 HA8 HFP os0 os1 zs0 zs1 p30 p31 p32 p33 hqu
    go_upto_region 3 with fail
    go_cut [7, 8] (fun s7 s8 wx => s8 = .int .i64 0 ∧ ∃ (g : Nat) (rf : List Rf), s7 = .pointer (some ⟨g, 0, none⟩) ∧ rf.length = 2 ∧ (zl rf).map (·.z) = frZ [(15, 1), (15, 1)] ∧ BlkR wc g rf wx)
    case first =>
      as_aux_lemma =>
        have HBu := Below.refl wc.heap.size wc
        have P0 := kH.r
        have ltH := kH.z.lt
        clear p00 p01 p02 p03 p10 p11 p12 p13 p20 p21 p22 p23 oo0 oo1 on0 on1 ot0 ot1
        refine wp_region_held_drew (S := fun w' => w'.rangeAt gH 0 (cellsM (zl rH))) (by kernel_rfl) ?_ (fun hHeld => ?_)
        · exact P0
        refine tk (i := 0) rfl (by decide +kernel) (yieldsIf_load_mid (by rfl) _ _ (by rfl) (gH) (0) (by rfl) (cellsM (zl rH)) _ (fun w_ hS_ => hS_) hU32 (by first | rfl | assumption) hi36H.out) (by assumption) (fun _ _ _ h => h) ?_
        (try simp only [Act.put, Lp0, Lp1, Lp2])
        refine br2 (i := 1) (j := 8) (by decide +kernel) rfl rfl (fun K hK => ?_) (fun K hK => ?_)
        · go_simp
          (go_at_call 26; (with_reducible refine (HO12.out _).mono ?_); rintro e a1 ⟨e0, e1, rfl, y0, y1, x0, x1, hq_⟩; (try simp only [cellsM, ZE.cells, List.cons_append, List.nil_append]); have qa1 : Below wc.heap.size wc a1 := bel_step BG hq_; have wq_ : Below wc.heap.size wc a1 := bel_step BG hq_; have hs1 := qa1.size; have P0 := rng_below P0 wq_; (try refine (fun ra za => ?_ : _ → _ → _) (rng_below ra wq_) (Zn.below za wq_)); (try refine And.elim (fun ra za => ?_) (alloc_drew hq_)); (try refine And.elim (fun ra za => ?_) (alloc_plain hq_)))
          (try go_wp2_with fail)
          refine hK.out _ _ ?_ (fun hHeld => ?_)
          · (first | exact P0 | exact rng_below P0 BG)
          clear hK K
          (try simp only [Act.put, Lp0, Lp1, Lp2])
          refine br2 (i := 2) (j := 8) (by decide +kernel) rfl rfl (fun K hK => ?_) (fun K hK => ?_)
          · go_simp
            (go_at_call 26; (with_reducible refine (HO12.out _).mono ?_); rintro e a2 ⟨e2, e3, rfl, y2, y3, x2, x3, hq_⟩; (try simp only [cellsM, ZE.cells, List.cons_append, List.nil_append]); have qa2 : Below wc.heap.size wc a2 := bel_step BG hq_; have wq_ : Below a1.heap.size a1 a2 := bel_step BG hq_; have hs2 := qa2.size; have hs12 := wq_.size; have x0 := x0.below wq_; have x1 := x1.below wq_; have P0 := rng_below P0 wq_; (try refine (fun ra za => ?_ : _ → _ → _) (rng_below ra wq_) (Zn.below za wq_)); (try refine And.elim (fun ra za => ?_) (alloc_drew hq_)); (try refine And.elim (fun ra za => ?_) (alloc_plain hq_)))
            (try go_wp2_with fail)
            refine hK.out _ _ ?_ (fun hHeld => ?_)
            · (first | exact P0 | exact rng_below P0 BG)
            clear hK K
            (try simp only [Act.put, Lp0, Lp1, Lp2])
            refine br2 (i := 3) (j := 8) (by decide +kernel) rfl rfl (fun K hK => ?_) (fun K hK => ?_)
            · go_simp
              (go_at_call 27; (refine (HAt.out _ e0 e1 e2 e3 (x0.below BG) (x1.below BG) (x2.below BG) (x3.below BG)).mono ?_); rintro e a3 ⟨rfl, ⟨x0, x1, x2, x3⟩, hq_⟩; (try simp only [cellsM, ZE.cells, List.cons_append, List.nil_append]); have qa3 : Below wc.heap.size wc a3 := bel_step BG hq_; have wq_ : Below a2.heap.size a2 a3 := bel_step BG hq_; have hs3 := qa3.size; have P0 := rng_below P0 wq_; (try refine (fun ra za => ?_ : _ → _ → _) (rng_below ra wq_) (Zn.below za wq_)); (try refine And.elim (fun ra za => ?_) (alloc_drew hq_)); (try refine And.elim (fun ra za => ?_) (alloc_plain hq_)))
              (try go_wp2_with fail)
              refine hK.out _ _ ?_ (fun hHeld => ?_)
              · (first | exact P0 | exact rng_below P0 BG)
              clear hK K
              (try simp only [Act.put, Lp0, Lp1, Lp2])
              refine br2 (i := 4) (j := 8) (by decide +kernel) rfl rfl (fun K hK => ?_) (fun K hK => ?_)
              · go_simp
                (go_at_call 9; (refine (HAp.out _ BG e0 e1 e2 e3 (by simp only [List.map_cons, List.map_nil, y0, y1, y2, y3]; rfl) (by intro e he; simp only [List.mem_cons, List.not_mem_nil, or_false] at he; rcases he with rfl | rfl | rfl | rfl <;> first | exact x0.below BG | exact x1.below BG | exact x2.below BG | exact x3.below BG)).mono ?_); rintro e a4 ⟨rP, h2P, rfl, hzP, ok4, mg4, hq_⟩; have qa4 : Below wc.heap.size wc a4 := bel_step BG hq_; have wq_ : Below a3.heap.size a3 a4 := bel_step BG hq_; have hs4 := qa4.size; have P0 := rng_below P0 wq_; (try refine (fun ra za => ?_ : _ → _ → _) (rng_below ra wq_) (Zn.below za wq_)); (try refine And.elim (fun ra za => ?_) (alloc_drew hq_)); (try refine And.elim (fun ra za => ?_) (alloc_plain hq_)))
                (try go_wp2_with fail)
                refine hK.out _ _ ?_ (fun hHeld => ?_)
                · (first | exact P0 | exact rng_below P0 BG)
                clear hK K
                (try simp only [Act.put, Lp0, Lp1, Lp2])
                refine' tk (i := 5) rfl (by decide +kernel) (Or.inl ⟨by rfl, ?_⟩) (by assumption) (fun _ _ _ h => h) ?_
                rotate_left 1
                · (intro w_ hSw_; (try dsimp only at hSw_); go_simp; (try with_reducible rfl))
                (try simp only [Act.put, Lp0, Lp1, Lp2])
                refine' tk (i := 6) rfl (by decide +kernel) (Or.inl ⟨by rfl, ?_⟩) (by assumption) (fun _ _ _ h => h) ?_
                rotate_left 1
                · (intro w_ hSw_; (try dsimp only at hSw_); go_simp; (try with_reducible rfl))
                (try simp only [Act.put, Lp0, Lp1, Lp2])
                refine' tk (i := 7) rfl (by decide +kernel) (Or.inl ⟨by rfl, ?_⟩) (by assumption) (fun _ _ _ h => h) ?_
                rotate_left 1
                · (intro w_ hSw_; (try dsimp only at hSw_); go_simp; (try with_reducible rfl))
                (try simp only [Act.put, Lp0, Lp1, Lp2])
                refine br1 (i := 8) (by decide +kernel) rfl (fun K hK => ?_)
                go_simp
                skip
                (try go_wp2_with fail)
                refine hK.out _ _ ?_ (fun hHeld => ?_)
                · (first | exact P0 | exact rng_below P0 BG)
                clear hK K
                (try simp only [Act.put, Lp0, Lp1, Lp2])
                have ra : (a4.alloc (.cells (cellsM zeros4).toArray 28)).rangeAt a4.heap.size 0 (cellsM zeros4) := rng_alloc
                have za : Zn (a4.alloc (.cells (cellsM zeros4).toArray 28)) a4.heap.size := Zn.new_
                have ok4 : ∀ e ∈ zl rP, e.ok (a4.alloc (.cells (cellsM zeros4).toArray 28)) := fun e he => (ok4 e he).below ((Below.refl _ _).alloc (Nat.le_refl _) _)
                have ra : (a4.alloc (.cells (cellsM zeros4).toArray 28)).rangeAt (a4.heap.size) 0 (cellsM zeros4) := ra
                have za : Zn (a4.alloc (.cells (cellsM zeros4).toArray 28)) (a4.heap.size) := za
                have h8P : (cellsM (zl rP)).length = 8 := by rw [cellsM_len, zl_len, h2P]
                have hi8 : (Try.prog.info? 28).map (·.size) = some (cellsM (zl rP)).toArray.size := by rw [List.size_toArray, h8P]; exact T28i
                have ht8 := rng_there ra za
                rw [show (cellsM zeros4).length = (cellsM (zl rP)).toArray.size by rw [List.size_toArray, h8P]; rfl] at ht8
                refine br1 (i := 9) (by decide +kernel) rfl (fun K hK => ?_)
                rw [if_pos (by rfl)]
                refine wp_store_mid _ _ _ rfl (a4.heap.size) 0 (cellsM (zl rP)).toArray rfl rfl ht8 hi8 (all_oneCell_toArray (cellsM_one _)) ?_
                refine hK.out _ _ ?_ (fun hHeld => ?_)
                · (refine rng_far ?_ (by omega); (first | exact P0 | exact rng_below P0 BG))
                clear hK K
                (try simp only [Act.put, Lp0, Lp1, Lp2])
                refine' tk (i := 10) rfl (by decide +kernel) (Or.inl ⟨by rfl, ?_⟩) (by assumption) (fun _ _ _ h => h) ?_
                rotate_left 1
                · (intro w_ hSw_; (try dsimp only at hSw_); go_simp; (try with_reducible rfl))
                (try simp only [Act.put, Lp0, Lp1, Lp2])
                refine wpAnyH_done (by kernel_rfl) ?_ _
                go_wp2_with fail
                go_meet
                exact ⟨rfl, _, rP, rfl, h2P, hzP, BlkR.set (cs := zeros4) ra za BG (by omega) (by rw [zl_len, h2P]; rfl) ok4⟩
              · go_simp
                skip
                (try go_wp2_with fail)
                refine hK.out _ _ ?_ (fun hHeld => ?_)
                · (first | exact P0 | exact rng_below P0 BG)
                clear hK K
                (try simp only [Act.put, Lp0, Lp1, Lp2])
                refine br1 (i := 4) (by decide +kernel) rfl (fun K hK => ?_)
                go_simp
                (go_at_call 9; (refine (HAp.out _ BG e0 e1 e2 e3 (by simp only [List.map_cons, List.map_nil, y0, y1, y2, y3]; rfl) (by intro e he; simp only [List.mem_cons, List.not_mem_nil, or_false] at he; rcases he with rfl | rfl | rfl | rfl <;> first | exact x0.below BG | exact x1.below BG | exact x2.below BG | exact x3.below BG)).mono ?_); rintro e a4 ⟨rP, h2P, rfl, hzP, ok4, mg4, hq_⟩; have qa4 : Below wc.heap.size wc a4 := bel_step BG hq_; have wq_ : Below a3.heap.size a3 a4 := bel_step BG hq_; have hs4 := qa4.size; have P0 := rng_below P0 wq_; (try refine (fun ra za => ?_ : _ → _ → _) (rng_below ra wq_) (Zn.below za wq_)); (try refine And.elim (fun ra za => ?_) (alloc_drew hq_)); (try refine And.elim (fun ra za => ?_) (alloc_plain hq_)))
                (try go_wp2_with fail)
                refine hK.out _ _ ?_ (fun hHeld => ?_)
                · (first | exact P0 | exact rng_below P0 BG)
                clear hK K
                (try simp only [Act.put, Lp0, Lp1, Lp2])
                refine' tk (i := 5) rfl (by decide +kernel) (Or.inl ⟨by rfl, ?_⟩) (by assumption) (fun _ _ _ h => h) ?_
                rotate_left 1
                · (intro w_ hSw_; (try dsimp only at hSw_); go_simp; (try with_reducible rfl))
                (try simp only [Act.put, Lp0, Lp1, Lp2])
                refine' tk (i := 6) rfl (by decide +kernel) (Or.inl ⟨by rfl, ?_⟩) (by assumption) (fun _ _ _ h => h) ?_
                rotate_left 1
                · (intro w_ hSw_; (try dsimp only at hSw_); go_simp; (try with_reducible rfl))
                (try simp only [Act.put, Lp0, Lp1, Lp2])
                refine' tk (i := 7) rfl (by decide +kernel) (Or.inl ⟨by rfl, ?_⟩) (by assumption) (fun _ _ _ h => h) ?_
                rotate_left 1
                · (intro w_ hSw_; (try dsimp only at hSw_); go_simp; (try with_reducible rfl))
                (try simp only [Act.put, Lp0, Lp1, Lp2])
                have ra : (a4).rangeAt (a3.heap.size) 0 (cellsM zeros4) := ra
                have za : Zn (a4) (a3.heap.size) := za
                have h8P : (cellsM (zl rP)).length = 8 := by rw [cellsM_len, zl_len, h2P]
                have hi8 : (Try.prog.info? 28).map (·.size) = some (cellsM (zl rP)).toArray.size := by rw [List.size_toArray, h8P]; exact T28i
                have ht8 := rng_there ra za
                rw [show (cellsM zeros4).length = (cellsM (zl rP)).toArray.size by rw [List.size_toArray, h8P]; rfl] at ht8
                refine br1 (i := 9) (by decide +kernel) rfl (fun K hK => ?_)
                rw [if_pos (by rfl)]
                refine wp_store_mid _ _ _ rfl (a3.heap.size) 0 (cellsM (zl rP)).toArray rfl rfl ht8 hi8 (all_oneCell_toArray (cellsM_one _)) ?_
                refine hK.out _ _ ?_ (fun hHeld => ?_)
                · (refine rng_far ?_ (by omega); (first | exact P0 | exact rng_below P0 BG))
                clear hK K
                (try simp only [Act.put, Lp0, Lp1, Lp2])
                refine' tk (i := 10) rfl (by decide +kernel) (Or.inl ⟨by rfl, ?_⟩) (by assumption) (fun _ _ _ h => h) ?_
                rotate_left 1
                · (intro w_ hSw_; (try dsimp only at hSw_); go_simp; (try with_reducible rfl))
                (try simp only [Act.put, Lp0, Lp1, Lp2])
                refine wpAnyH_done (by kernel_rfl) ?_ _
                go_wp2_with fail
                go_meet
                exact ⟨rfl, _, rP, rfl, h2P, hzP, BlkR.set (cs := zeros4) ra za BG (by omega) (by rw [zl_len, h2P]; rfl) ok4⟩
            · go_simp
              skip
              (try go_wp2_with fail)
              refine hK.out _ _ ?_ (fun hHeld => ?_)
              · (first | exact P0 | exact rng_below P0 BG)
              clear hK K
              (try simp only [Act.put, Lp0, Lp1, Lp2])
              refine br1 (i := 3) (by decide +kernel) rfl (fun K hK => ?_)
              go_simp
              (go_at_call 27; (refine (HAt.out _ e0 e1 e2 e3 (x0.below BG) (x1.below BG) (x2.below BG) (x3.below BG)).mono ?_); rintro e a3 ⟨rfl, ⟨x0, x1, x2, x3⟩, hq_⟩; (try simp only [cellsM, ZE.cells, List.cons_append, List.nil_append]); have qa3 : Below wc.heap.size wc a3 := bel_step BG hq_; have wq_ : Below a2.heap.size a2 a3 := bel_step BG hq_; have hs3 := qa3.size; have P0 := rng_below P0 wq_; (try refine (fun ra za => ?_ : _ → _ → _) (rng_below ra wq_) (Zn.below za wq_)); (try refine And.elim (fun ra za => ?_) (alloc_drew hq_)); (try refine And.elim (fun ra za => ?_) (alloc_plain hq_)))
              (try go_wp2_with fail)
              refine hK.out _ _ ?_ (fun hHeld => ?_)
              · (first | exact P0 | exact rng_below P0 BG)
              clear hK K
              (try simp only [Act.put, Lp0, Lp1, Lp2])
              refine br1 (i := 4) (by decide +kernel) rfl (fun K hK => ?_)
              go_simp
              (go_at_call 9; (refine (HAp.out _ BG e0 e1 e2 e3 (by simp only [List.map_cons, List.map_nil, y0, y1, y2, y3]; rfl) (by intro e he; simp only [List.mem_cons, List.not_mem_nil, or_false] at he; rcases he with rfl | rfl | rfl | rfl <;> first | exact x0.below BG | exact x1.below BG | exact x2.below BG | exact x3.below BG)).mono ?_); rintro e a4 ⟨rP, h2P, rfl, hzP, ok4, mg4, hq_⟩; have qa4 : Below wc.heap.size wc a4 := bel_step BG hq_; have wq_ : Below a3.heap.size a3 a4 := bel_step BG hq_; have hs4 := qa4.size; have P0 := rng_below P0 wq_; (try refine (fun ra za => ?_ : _ → _ → _) (rng_below ra wq_) (Zn.below za wq_)); (try refine And.elim (fun ra za => ?_) (alloc_drew hq_)); (try refine And.elim (fun ra za => ?_) (alloc_plain hq_)))
              (try go_wp2_with fail)
              refine hK.out _ _ ?_ (fun hHeld => ?_)
              · (first | exact P0 | exact rng_below P0 BG)
              clear hK K
              (try simp only [Act.put, Lp0, Lp1, Lp2])
              refine' tk (i := 5) rfl (by decide +kernel) (Or.inl ⟨by rfl, ?_⟩) (by assumption) (fun _ _ _ h => h) ?_
              rotate_left 1
              · (intro w_ hSw_; (try dsimp only at hSw_); go_simp; (try with_reducible rfl))
              (try simp only [Act.put, Lp0, Lp1, Lp2])
              refine' tk (i := 6) rfl (by decide +kernel) (Or.inl ⟨by rfl, ?_⟩) (by assumption) (fun _ _ _ h => h) ?_
              rotate_left 1
              · (intro w_ hSw_; (try dsimp only at hSw_); go_simp; (try with_reducible rfl))
              (try simp only [Act.put, Lp0, Lp1, Lp2])
              refine' tk (i := 7) rfl (by decide +kernel) (Or.inl ⟨by rfl, ?_⟩) (by assumption) (fun _ _ _ h => h) ?_
              rotate_left 1
              · (intro w_ hSw_; (try dsimp only at hSw_); go_simp; (try with_reducible rfl))
              (try simp only [Act.put, Lp0, Lp1, Lp2])
              have ra : (a4).rangeAt (a2.heap.size) 0 (cellsM zeros4) := ra
              have za : Zn (a4) (a2.heap.size) := za
              have h8P : (cellsM (zl rP)).length = 8 := by rw [cellsM_len, zl_len, h2P]
              have hi8 : (Try.prog.info? 28).map (·.size) = some (cellsM (zl rP)).toArray.size := by rw [List.size_toArray, h8P]; exact T28i
              have ht8 := rng_there ra za
              rw [show (cellsM zeros4).length = (cellsM (zl rP)).toArray.size by rw [List.size_toArray, h8P]; rfl] at ht8
              refine br1 (i := 9) (by decide +kernel) rfl (fun K hK => ?_)
              rw [if_pos (by rfl)]
              refine wp_store_mid _ _ _ rfl (a2.heap.size) 0 (cellsM (zl rP)).toArray rfl rfl ht8 hi8 (all_oneCell_toArray (cellsM_one _)) ?_
              refine hK.out _ _ ?_ (fun hHeld => ?_)
              · (refine rng_far ?_ (by omega); (first | exact P0 | exact rng_below P0 BG))
              clear hK K
              (try simp only [Act.put, Lp0, Lp1, Lp2])
              refine' tk (i := 10) rfl (by decide +kernel) (Or.inl ⟨by rfl, ?_⟩) (by assumption) (fun _ _ _ h => h) ?_
              rotate_left 1
              · (intro w_ hSw_; (try dsimp only at hSw_); go_simp; (try with_reducible rfl))
              (try simp only [Act.put, Lp0, Lp1, Lp2])
              refine wpAnyH_done (by kernel_rfl) ?_ _
              go_wp2_with fail
              go_meet
              exact ⟨rfl, _, rP, rfl, h2P, hzP, BlkR.set (cs := zeros4) ra za BG (by omega) (by rw [zl_len, h2P]; rfl) ok4⟩
          · go_simp
            skip
            (try go_wp2_with fail)
            refine hK.out _ _ ?_ (fun hHeld => ?_)
            · (first | exact P0 | exact rng_below P0 BG)
            clear hK K
            (try simp only [Act.put, Lp0, Lp1, Lp2])
            refine br1 (i := 2) (by decide +kernel) rfl (fun K hK => ?_)
            go_simp
            (go_at_call 26; (with_reducible refine (HO12.out _).mono ?_); rintro e a2 ⟨e2, e3, rfl, y2, y3, x2, x3, hq_⟩; (try simp only [cellsM, ZE.cells, List.cons_append, List.nil_append]); have qa2 : Below wc.heap.size wc a2 := bel_step BG hq_; have wq_ : Below a1.heap.size a1 a2 := bel_step BG hq_; have hs2 := qa2.size; have hs12 := wq_.size; have x0 := x0.below wq_; have x1 := x1.below wq_; have P0 := rng_below P0 wq_; (try refine (fun ra za => ?_ : _ → _ → _) (rng_below ra wq_) (Zn.below za wq_)); (try refine And.elim (fun ra za => ?_) (alloc_drew hq_)); (try refine And.elim (fun ra za => ?_) (alloc_plain hq_)))
            (try go_wp2_with fail)
            refine hK.out _ _ ?_ (fun hHeld => ?_)
            · (first | exact P0 | exact rng_below P0 BG)
            clear hK K
            (try simp only [Act.put, Lp0, Lp1, Lp2])
            refine br1 (i := 3) (by decide +kernel) rfl (fun K hK => ?_)
            go_simp
            (go_at_call 27; (refine (HAt.out _ e0 e1 e2 e3 (x0.below BG) (x1.below BG) (x2.below BG) (x3.below BG)).mono ?_); rintro e a3 ⟨rfl, ⟨x0, x1, x2, x3⟩, hq_⟩; (try simp only [cellsM, ZE.cells, List.cons_append, List.nil_append]); have qa3 : Below wc.heap.size wc a3 := bel_step BG hq_; have wq_ : Below a2.heap.size a2 a3 := bel_step BG hq_; have hs3 := qa3.size; have P0 := rng_below P0 wq_; (try refine (fun ra za => ?_ : _ → _ → _) (rng_below ra wq_) (Zn.below za wq_)); (try refine And.elim (fun ra za => ?_) (alloc_drew hq_)); (try refine And.elim (fun ra za => ?_) (alloc_plain hq_)))
            (try go_wp2_with fail)
            refine hK.out _ _ ?_ (fun hHeld => ?_)
            · (first | exact P0 | exact rng_below P0 BG)
            clear hK K
            (try simp only [Act.put, Lp0, Lp1, Lp2])
            refine br1 (i := 4) (by decide +kernel) rfl (fun K hK => ?_)
            go_simp
            (go_at_call 9; (refine (HAp.out _ BG e0 e1 e2 e3 (by simp only [List.map_cons, List.map_nil, y0, y1, y2, y3]; rfl) (by intro e he; simp only [List.mem_cons, List.not_mem_nil, or_false] at he; rcases he with rfl | rfl | rfl | rfl <;> first | exact x0.below BG | exact x1.below BG | exact x2.below BG | exact x3.below BG)).mono ?_); rintro e a4 ⟨rP, h2P, rfl, hzP, ok4, mg4, hq_⟩; have qa4 : Below wc.heap.size wc a4 := bel_step BG hq_; have wq_ : Below a3.heap.size a3 a4 := bel_step BG hq_; have hs4 := qa4.size; have P0 := rng_below P0 wq_; (try refine (fun ra za => ?_ : _ → _ → _) (rng_below ra wq_) (Zn.below za wq_)); (try refine And.elim (fun ra za => ?_) (alloc_drew hq_)); (try refine And.elim (fun ra za => ?_) (alloc_plain hq_)))
            (try go_wp2_with fail)
            refine hK.out _ _ ?_ (fun hHeld => ?_)
            · (first | exact P0 | exact rng_below P0 BG)
            clear hK K
            (try simp only [Act.put, Lp0, Lp1, Lp2])
            refine' tk (i := 5) rfl (by decide +kernel) (Or.inl ⟨by rfl, ?_⟩) (by assumption) (fun _ _ _ h => h) ?_
            rotate_left 1
            · (intro w_ hSw_; (try dsimp only at hSw_); go_simp; (try with_reducible rfl))
            (try simp only [Act.put, Lp0, Lp1, Lp2])
            refine' tk (i := 6) rfl (by decide +kernel) (Or.inl ⟨by rfl, ?_⟩) (by assumption) (fun _ _ _ h => h) ?_
            rotate_left 1
            · (intro w_ hSw_; (try dsimp only at hSw_); go_simp; (try with_reducible rfl))
            (try simp only [Act.put, Lp0, Lp1, Lp2])
            refine' tk (i := 7) rfl (by decide +kernel) (Or.inl ⟨by rfl, ?_⟩) (by assumption) (fun _ _ _ h => h) ?_
            rotate_left 1
            · (intro w_ hSw_; (try dsimp only at hSw_); go_simp; (try with_reducible rfl))
            (try simp only [Act.put, Lp0, Lp1, Lp2])
            have ra : (a4).rangeAt (a1.heap.size) 0 (cellsM zeros4) := ra
            have za : Zn (a4) (a1.heap.size) := za
            have h8P : (cellsM (zl rP)).length = 8 := by rw [cellsM_len, zl_len, h2P]
            have hi8 : (Try.prog.info? 28).map (·.size) = some (cellsM (zl rP)).toArray.size := by rw [List.size_toArray, h8P]; exact T28i
            have ht8 := rng_there ra za
            rw [show (cellsM zeros4).length = (cellsM (zl rP)).toArray.size by rw [List.size_toArray, h8P]; rfl] at ht8
            refine br1 (i := 9) (by decide +kernel) rfl (fun K hK => ?_)
            rw [if_pos (by rfl)]
            refine wp_store_mid _ _ _ rfl (a1.heap.size) 0 (cellsM (zl rP)).toArray rfl rfl ht8 hi8 (all_oneCell_toArray (cellsM_one _)) ?_
            refine hK.out _ _ ?_ (fun hHeld => ?_)
            · (refine rng_far ?_ (by omega); (first | exact P0 | exact rng_below P0 BG))
            clear hK K
            (try simp only [Act.put, Lp0, Lp1, Lp2])
            refine' tk (i := 10) rfl (by decide +kernel) (Or.inl ⟨by rfl, ?_⟩) (by assumption) (fun _ _ _ h => h) ?_
            rotate_left 1
            · (intro w_ hSw_; (try dsimp only at hSw_); go_simp; (try with_reducible rfl))
            (try simp only [Act.put, Lp0, Lp1, Lp2])
            refine wpAnyH_done (by kernel_rfl) ?_ _
            go_wp2_with fail
            go_meet
            exact ⟨rfl, _, rP, rfl, h2P, hzP, BlkR.set (cs := zeros4) ra za BG (by omega) (by rw [zl_len, h2P]; rfl) ok4⟩
        · go_simp
          skip
          (try go_wp2_with fail)
          refine hK.out _ _ ?_ (fun hHeld => ?_)
          · (first | exact P0 | exact rng_below P0 BG)
          clear hK K
          (try simp only [Act.put, Lp0, Lp1, Lp2])
          refine br1 (i := 1) (by decide +kernel) rfl (fun K hK => ?_)
          go_simp
          (go_at_call 26; (with_reducible refine (HO12.out _).mono ?_); rintro e a1 ⟨e0, e1, rfl, y0, y1, x0, x1, hq_⟩; (try simp only [cellsM, ZE.cells, List.cons_append, List.nil_append]); have qa1 : Below wc.heap.size wc a1 := bel_step BG hq_; have wq_ : Below wc.heap.size wc a1 := bel_step BG hq_; have hs1 := qa1.size; have P0 := rng_below P0 wq_; (try refine (fun ra za => ?_ : _ → _ → _) (rng_below ra wq_) (Zn.below za wq_)); (try refine And.elim (fun ra za => ?_) (alloc_drew hq_)); (try refine And.elim (fun ra za => ?_) (alloc_plain hq_)))
          (try go_wp2_with fail)
          refine hK.out _ _ ?_ (fun hHeld => ?_)
          · (first | exact P0 | exact rng_below P0 BG)
          clear hK K
          (try simp only [Act.put, Lp0, Lp1, Lp2])
          refine br1 (i := 2) (by decide +kernel) rfl (fun K hK => ?_)
          go_simp
          (go_at_call 26; (with_reducible refine (HO12.out _).mono ?_); rintro e a2 ⟨e2, e3, rfl, y2, y3, x2, x3, hq_⟩; (try simp only [cellsM, ZE.cells, List.cons_append, List.nil_append]); have qa2 : Below wc.heap.size wc a2 := bel_step BG hq_; have wq_ : Below a1.heap.size a1 a2 := bel_step BG hq_; have hs2 := qa2.size; have hs12 := wq_.size; have x0 := x0.below wq_; have x1 := x1.below wq_; have P0 := rng_below P0 wq_; (try refine (fun ra za => ?_ : _ → _ → _) (rng_below ra wq_) (Zn.below za wq_)); (try refine And.elim (fun ra za => ?_) (alloc_drew hq_)); (try refine And.elim (fun ra za => ?_) (alloc_plain hq_)))
          (try go_wp2_with fail)
          refine hK.out _ _ ?_ (fun hHeld => ?_)
          · (first | exact P0 | exact rng_below P0 BG)
          clear hK K
          (try simp only [Act.put, Lp0, Lp1, Lp2])
          refine br1 (i := 3) (by decide +kernel) rfl (fun K hK => ?_)
          go_simp
          (go_at_call 27; (refine (HAt.out _ e0 e1 e2 e3 (x0.below BG) (x1.below BG) (x2.below BG) (x3.below BG)).mono ?_); rintro e a3 ⟨rfl, ⟨x0, x1, x2, x3⟩, hq_⟩; (try simp only [cellsM, ZE.cells, List.cons_append, List.nil_append]); have qa3 : Below wc.heap.size wc a3 := bel_step BG hq_; have wq_ : Below a2.heap.size a2 a3 := bel_step BG hq_; have hs3 := qa3.size; have P0 := rng_below P0 wq_; (try refine (fun ra za => ?_ : _ → _ → _) (rng_below ra wq_) (Zn.below za wq_)); (try refine And.elim (fun ra za => ?_) (alloc_drew hq_)); (try refine And.elim (fun ra za => ?_) (alloc_plain hq_)))
          (try go_wp2_with fail)
          refine hK.out _ _ ?_ (fun hHeld => ?_)
          · (first | exact P0 | exact rng_below P0 BG)
          clear hK K
          (try simp only [Act.put, Lp0, Lp1, Lp2])
          refine br1 (i := 4) (by decide +kernel) rfl (fun K hK => ?_)
          go_simp
          (go_at_call 9; (refine (HAp.out _ BG e0 e1 e2 e3 (by simp only [List.map_cons, List.map_nil, y0, y1, y2, y3]; rfl) (by intro e he; simp only [List.mem_cons, List.not_mem_nil, or_false] at he; rcases he with rfl | rfl | rfl | rfl <;> first | exact x0.below BG | exact x1.below BG | exact x2.below BG | exact x3.below BG)).mono ?_); rintro e a4 ⟨rP, h2P, rfl, hzP, ok4, mg4, hq_⟩; have qa4 : Below wc.heap.size wc a4 := bel_step BG hq_; have wq_ : Below a3.heap.size a3 a4 := bel_step BG hq_; have hs4 := qa4.size; have P0 := rng_below P0 wq_; (try refine (fun ra za => ?_ : _ → _ → _) (rng_below ra wq_) (Zn.below za wq_)); (try refine And.elim (fun ra za => ?_) (alloc_drew hq_)); (try refine And.elim (fun ra za => ?_) (alloc_plain hq_)))
          (try go_wp2_with fail)
          refine hK.out _ _ ?_ (fun hHeld => ?_)
          · (first | exact P0 | exact rng_below P0 BG)
          clear hK K
          (try simp only [Act.put, Lp0, Lp1, Lp2])
          refine' tk (i := 5) rfl (by decide +kernel) (Or.inl ⟨by rfl, ?_⟩) (by assumption) (fun _ _ _ h => h) ?_
          rotate_left 1
          · (intro w_ hSw_; (try dsimp only at hSw_); go_simp; (try with_reducible rfl))
          (try simp only [Act.put, Lp0, Lp1, Lp2])
          refine' tk (i := 6) rfl (by decide +kernel) (Or.inl ⟨by rfl, ?_⟩) (by assumption) (fun _ _ _ h => h) ?_
          rotate_left 1
          · (intro w_ hSw_; (try dsimp only at hSw_); go_simp; (try with_reducible rfl))
          (try simp only [Act.put, Lp0, Lp1, Lp2])
          refine' tk (i := 7) rfl (by decide +kernel) (Or.inl ⟨by rfl, ?_⟩) (by assumption) (fun _ _ _ h => h) ?_
          rotate_left 1
          · (intro w_ hSw_; (try dsimp only at hSw_); go_simp; (try with_reducible rfl))
          (try simp only [Act.put, Lp0, Lp1, Lp2])
          have ra : (a4).rangeAt (wc.heap.size) 0 (cellsM zeros4) := ra
          have za : Zn (a4) (wc.heap.size) := za
          have h8P : (cellsM (zl rP)).length = 8 := by rw [cellsM_len, zl_len, h2P]
          have hi8 : (Try.prog.info? 28).map (·.size) = some (cellsM (zl rP)).toArray.size := by rw [List.size_toArray, h8P]; exact T28i
          have ht8 := rng_there ra za
          rw [show (cellsM zeros4).length = (cellsM (zl rP)).toArray.size by rw [List.size_toArray, h8P]; rfl] at ht8
          refine br1 (i := 9) (by decide +kernel) rfl (fun K hK => ?_)
          rw [if_pos (by rfl)]
          refine wp_store_mid _ _ _ rfl (wc.heap.size) 0 (cellsM (zl rP)).toArray rfl rfl ht8 hi8 (all_oneCell_toArray (cellsM_one _)) ?_
          refine hK.out _ _ ?_ (fun hHeld => ?_)
          · (refine rng_far ?_ (by omega); (first | exact P0 | exact rng_below P0 BG))
          clear hK K
          (try simp only [Act.put, Lp0, Lp1, Lp2])
          refine' tk (i := 10) rfl (by decide +kernel) (Or.inl ⟨by rfl, ?_⟩) (by assumption) (fun _ _ _ h => h) ?_
          rotate_left 1
          · (intro w_ hSw_; (try dsimp only at hSw_); go_simp; (try with_reducible rfl))
          (try simp only [Act.put, Lp0, Lp1, Lp2])
          refine wpAnyH_done (by kernel_rfl) ?_ _
          go_wp2_with fail
          go_meet
          exact ⟨rfl, _, rP, rfl, h2P, hzP, BlkR.set (cs := zeros4) ra za BG (by omega) (by rw [zl_len, h2P]; rfl) ok4⟩
    case rest =>
      obtain ⟨rfl, gP, rP, rfl, h2P, hzP, kP⟩ := hcut
      have hqu := kP.b
      have kH := kH.below hqu
      have HB := bel_step HB hqu
      have P0 : wc.rangeAt w4.heap.size 0 [.bool o0.b, .slice o0.A o0.n o0.c, .bool o1.b, .slice o1.A o1.n o1.c] := fun j v hv => by
        match j, hv with
        | 0, hv => obtain rfl := Option.some.inj hv; exact keep_cell hqu p00
        | 1, hv => obtain rfl := Option.some.inj hv; exact keep_cell hqu p01
        | 2, hv => obtain rfl := Option.some.inj hv; exact keep_cell hqu p02
        | 3, hv => obtain rfl := Option.some.inj hv; exact keep_cell hqu p03
      have oo0 := oo0.below hqu
      have oo1 := oo1.below hqu
      have on0 := on0.below hqu
      have on1 := on1.below hqu
      have ot0 := ot0.below hqu
      have ot1 := ot1.below hqu
      have p10 := keep_cell hqu p10
      have p11 := keep_cell hqu p11
      have p12 := keep_cell hqu p12
      have p13 := keep_cell hqu p13
      have p20 := keep_cell hqu p20
      have p21 := keep_cell hqu p21
      have p22 := keep_cell hqu p22
      have p23 := keep_cell hqu p23
      obtain ⟨d26, hU26, row26⟩ := T26u
      have HAf := hid fun (W : World) (h : Below wc.heap.size wc W) (e0 e1 e2 e3 : ZE) (y0 : e0.z = 1) (y1 : e1.z = ((2 : Nat) : Int)) (y2 : e2.z = 1) (y3 : e3.z = ((2 : Nat) : Int)) (x0 : e0.ok W) (x1 : e1.ok W) (x2 : e2.ok W) (x3 : e3.ok W) => (show Calls Try.prog 28 #[.agg (cellsM [e0, e1]).toArray, .agg (cellsM [o0, o1]).toArray, .agg (cellsM [o0, o1]).toArray, .agg (cellsM [o0, o1]).toArray, .agg (cellsM [e2, e3]).toArray, .agg (cellsM [o0, o1]).toArray] W (RetH W (homZ exM, 0)) from by
        have ho : ∀ e ∈ [e0, e1, o0, o1, o0, o1, o0, o1, e2, e3, o0, o1], e.ok W := by
          intro e he
          simp only [List.mem_cons, List.not_mem_nil, or_false] at he
          rcases he with rfl | rfl | rfl | rfl | rfl | rfl | rfl | rfl | rfl | rfl | rfl | rfl <;> first | assumption | exact oo0.below h | exact oo1.below h
        obtain ⟨a1, a2, a3, a4⟩ := rfG_of (qs := [(1, 2), (0, 1), (0, 1), (0, 1), (1, 2), (0, 1)]) (l := [e0, e1, o0, o1, o0, o1, o0, o1, e2, e3, o0, o1]) (by simp only [List.map_cons, List.map_nil, y0, y1, y2, y3, zo0, zo1]; rfl) ho (by unfold Nf; decide)
        exact LAffine_z ho (ex_aff a4 a3) rfl)
      have HA0 := hid fun (W : World) (h : Below wc.heap.size wc W) => (show Calls Try.prog 28 #[.agg (cellsM [o0, o1]).toArray, .agg (cellsM [o0, o1]).toArray, .agg (cellsM [o0, o1]).toArray, .agg (cellsM [o0, o1]).toArray, .agg (cellsM [o0, o1]).toArray, .agg (cellsM [o0, o1]).toArray] W (RetH W (List.replicate 18 0, 24)) from by
        have ho : ∀ e ∈ [o0, o1, o0, o1, o0, o1, o0, o1, o0, o1, o0, o1], e.ok W := by
          intro e he
          simp only [List.mem_cons, List.not_mem_nil, or_false] at he
          rcases he with rfl | rfl | rfl | rfl | rfl | rfl | rfl | rfl | rfl | rfl | rfl | rfl <;> first | exact oo0.below h | exact oo1.below h
        obtain ⟨a1, a2, a3, a4⟩ := rfG_of (qs := [(0, 1), (0, 1), (0, 1), (0, 1), (0, 1), (0, 1)]) (l := [o0, o1, o0, o1, o0, o1, o0, o1, o0, o1, o0, o1]) (by simp only [List.map_cons, List.map_nil, zo0, zo1]; rfl) ho (by unfold Nf; decide)
        exact LAffine_z ho (ex_aff0 a4 a3) rfl)
      simp only [cellsM, ZE.cells, List.cons_append, List.nil_append] at HAf HA0
      have ltO : w4.heap.size < wc.heap.size := cell_lt (P0 0 _ rfl)
      have KH := hid kH
      have KP := hid kP
      have KO := hid P0
      clear p00 p01 p02 p03 hqu
      go_upto_region 4 with fail
      go_cut [9, 10] (fun s9 s10 wx => s10 = .int .i64 0 ∧ ∃ (g : Nat) (rf : List Rf), s9 = .pointer (some ⟨g, 0, none⟩) ∧ rf.length = 9 ∧ (zl rf).map (·.z) = homZ exM ∧ BlkR wc g rf wx)
      case first =>
        as_aux_lemma =>
          have HBu := Below.refl wc.heap.size wc
          clear p10 p11 p12 p13 p20 p21 p22 p23 oo0 oo1 on0 on1 ot0 ot1 kH kP
          refine wp_region_held_drew (S := fun w' => w'.rangeAt w4.heap.size 0 [.bool o0.b, .slice o0.A o0.n o0.c, .bool o1.b, .slice o1.A o1.n o1.c]) (by kernel_rfl) ?_ (fun hHeld => ?_)
          · exact P0
          refine tk (i := 1) rfl (by decide +kernel) (yieldsIf_load_mid (by rfl) _ _ (by rfl) (w4.heap.size) (0) (by rfl) ([.bool o0.b, .slice o0.A o0.n o0.c, .bool o1.b, .slice o1.A o1.n o1.c]) _ (fun w_ hS_ => hS_) hU26 (by first | rfl | assumption) T26i) (by assumption) (fun _ _ _ h => h) ?_
          (try simp only [Act.put, Lp0, Lp1, Lp2])
          refine tk (i := 2) rfl (by decide +kernel) (yieldsIf_load_mid (by rfl) _ _ (by rfl) (w4.heap.size) (0) (by rfl) ([.bool o0.b, .slice o0.A o0.n o0.c, .bool o1.b, .slice o1.A o1.n o1.c]) _ (fun w_ hS_ => hS_) hU26 (by first | rfl | assumption) T26i) (by assumption) (fun _ _ _ h => h) ?_
          (try simp only [Act.put, Lp0, Lp1, Lp2])
          refine tk (i := 3) rfl (by decide +kernel) (yieldsIf_load_mid (by rfl) _ _ (by rfl) (w4.heap.size) (0) (by rfl) ([.bool o0.b, .slice o0.A o0.n o0.c, .bool o1.b, .slice o1.A o1.n o1.c]) _ (fun w_ hS_ => hS_) hU26 (by first | rfl | assumption) T26i) (by assumption) (fun _ _ _ h => h) ?_
          (try simp only [Act.put, Lp0, Lp1, Lp2])
          refine tk (i := 5) rfl (by decide +kernel) (yieldsIf_load_mid (by rfl) _ _ (by rfl) (w4.heap.size) (0) (by rfl) ([.bool o0.b, .slice o0.A o0.n o0.c, .bool o1.b, .slice o1.A o1.n o1.c]) _ (fun w_ hS_ => hS_) hU26 (by first | rfl | assumption) T26i) (by assumption) (fun _ _ _ h => h) ?_
          (try simp only [Act.put, Lp0, Lp1, Lp2])
          refine br2 (i := 0) (j := 10) (by decide +kernel) rfl rfl (fun K hK => ?_) (fun K hK => ?_)
          · go_simp
            (go_at_call 26; (with_reducible refine (HO12.out _).mono ?_); rintro e a1 ⟨e0, e1, rfl, y0, y1, x0, x1, hq_⟩; (try simp only [cellsM, ZE.cells, List.cons_append, List.nil_append]); have qa1 : Below wc.heap.size wc a1 := bel_step BG hq_; have wq_ : Below wc.heap.size wc a1 := bel_step BG hq_; have hs1 := qa1.size; have P0 := rng_below P0 wq_; (try refine (fun ra za => ?_ : _ → _ → _) (rng_below ra wq_) (Zn.below za wq_)); (try refine And.elim (fun ra za => ?_) (alloc_drew hq_)); (try refine And.elim (fun ra za => ?_) (alloc_plain hq_)))
            (try go_wp2_with fail)
            refine hK.out _ _ ?_ (fun hHeld => ?_)
            · (first | exact P0 | exact rng_below P0 BG)
            clear hK K
            (try simp only [Act.put, Lp0, Lp1, Lp2])
            refine br2 (i := 4) (j := 10) (by decide +kernel) rfl rfl (fun K hK => ?_) (fun K hK => ?_)
            · go_simp
              (go_at_call 26; (with_reducible refine (HO12.out _).mono ?_); rintro e a2 ⟨e2, e3, rfl, y2, y3, x2, x3, hq_⟩; (try simp only [cellsM, ZE.cells, List.cons_append, List.nil_append]); have qa2 : Below wc.heap.size wc a2 := bel_step BG hq_; have wq_ : Below a1.heap.size a1 a2 := bel_step BG hq_; have hs2 := qa2.size; have hs12 := wq_.size; have x0 := x0.below wq_; have x1 := x1.below wq_; have P0 := rng_below P0 wq_; (try refine (fun ra za => ?_ : _ → _ → _) (rng_below ra wq_) (Zn.below za wq_)); (try refine And.elim (fun ra za => ?_) (alloc_drew hq_)); (try refine And.elim (fun ra za => ?_) (alloc_plain hq_)))
              (try go_wp2_with fail)
              refine hK.out _ _ ?_ (fun hHeld => ?_)
              · (first | exact P0 | exact rng_below P0 BG)
              clear hK K
              (try simp only [Act.put, Lp0, Lp1, Lp2])
              refine br2 (i := 6) (j := 10) (by decide +kernel) rfl rfl (fun K hK => ?_) (fun K hK => ?_)
              · go_simp
                (go_at_call 28; (refine (HAf.out _ BG e0 e1 e2 e3 y0 y1 y2 y3 (x0.below BG) (x1.below BG) (x2.below BG) (x3.below BG)).mono ?_); rintro e a3 ⟨rP, h2P, rfl, hzP, ok4, mg4, hq_⟩; have qa3 : Below wc.heap.size wc a3 := bel_step BG hq_; have wq_ : Below a2.heap.size a2 a3 := bel_step BG hq_; have hs3 := qa3.size; have P0 := rng_below P0 wq_; (try refine (fun ra za => ?_ : _ → _ → _) (rng_below ra wq_) (Zn.below za wq_)); (try refine And.elim (fun ra za => ?_) (alloc_drew hq_)); (try refine And.elim (fun ra za => ?_) (alloc_plain hq_)))
                (try go_wp2_with fail)
                refine hK.out _ _ ?_ (fun hHeld => ?_)
                · (first | exact P0 | exact rng_below P0 BG)
                clear hK K
                (try simp only [Act.put, Lp0, Lp1, Lp2])
                refine' tk (i := 7) rfl (by decide +kernel) (Or.inl ⟨by rfl, ?_⟩) (by assumption) (fun _ _ _ h => h) ?_
                rotate_left 1
                · (intro w_ hSw_; (try dsimp only at hSw_); go_simp; (try with_reducible rfl))
                (try simp only [Act.put, Lp0, Lp1, Lp2])
                refine' tk (i := 8) rfl (by decide +kernel) (Or.inl ⟨by rfl, ?_⟩) (by assumption) (fun _ _ _ h => h) ?_
                rotate_left 1
                · (intro w_ hSw_; (try dsimp only at hSw_); go_simp; (try with_reducible rfl))
                (try simp only [Act.put, Lp0, Lp1, Lp2])
                refine' tk (i := 9) rfl (by decide +kernel) (Or.inl ⟨by rfl, ?_⟩) (by assumption) (fun _ _ _ h => h) ?_
                rotate_left 1
                · (intro w_ hSw_; (try dsimp only at hSw_); go_simp; (try with_reducible rfl))
                (try simp only [Act.put, Lp0, Lp1, Lp2])
                refine br1 (i := 10) (by decide +kernel) rfl (fun K hK => ?_)
                go_simp
                skip
                (try go_wp2_with fail)
                refine hK.out _ _ ?_ (fun hHeld => ?_)
                · (first | exact P0 | exact rng_below P0 BG)
                clear hK K
                (try simp only [Act.put, Lp0, Lp1, Lp2])
                have ra : (a3.alloc (.cells (cellsM zeros18).toArray 32)).rangeAt a3.heap.size 0 (cellsM zeros18) := rng_alloc
                have za : Zn (a3.alloc (.cells (cellsM zeros18).toArray 32)) a3.heap.size := Zn.new_
                have ok4 : ∀ e ∈ zl rP, e.ok (a3.alloc (.cells (cellsM zeros18).toArray 32)) := fun e he => (ok4 e he).below ((Below.refl _ _).alloc (Nat.le_refl _) _)
                have ra : (a3.alloc (.cells (cellsM zeros18).toArray 32)).rangeAt (a3.heap.size) 0 (cellsM zeros18) := ra
                have za : Zn (a3.alloc (.cells (cellsM zeros18).toArray 32)) (a3.heap.size) := za
                have h8P : (cellsM (zl rP)).length = 36 := by rw [cellsM_len, zl_len, h2P]
                have hi8 : (Try.prog.info? 32).map (·.size) = some (cellsM (zl rP)).toArray.size := by rw [List.size_toArray, h8P]; exact T32i
                have ht8 := rng_there ra za
                rw [show (cellsM zeros18).length = (cellsM (zl rP)).toArray.size by rw [List.size_toArray, h8P]; rfl] at ht8
                refine br1 (i := 11) (by decide +kernel) rfl (fun K hK => ?_)
                rw [if_pos (by rfl)]
                refine wp_store_mid _ _ _ rfl (a3.heap.size) 0 (cellsM (zl rP)).toArray rfl rfl ht8 hi8 (all_oneCell_toArray (cellsM_one _)) ?_
                refine hK.out _ _ ?_ (fun hHeld => ?_)
                · (refine rng_far ?_ (by omega); (first | exact P0 | exact rng_below P0 BG))
                clear hK K
                (try simp only [Act.put, Lp0, Lp1, Lp2])
                refine' tk (i := 12) rfl (by decide +kernel) (Or.inl ⟨by rfl, ?_⟩) (by assumption) (fun _ _ _ h => h) ?_
                rotate_left 1
                · (intro w_ hSw_; (try dsimp only at hSw_); go_simp; (try with_reducible rfl))
                (try simp only [Act.put, Lp0, Lp1, Lp2])
                refine wpAnyH_done (by kernel_rfl) ?_ _
                go_wp2_with fail
                go_meet
                exact ⟨rfl, _, rP, rfl, h2P, hzP, BlkR.set (cs := zeros18) ra za BG (by omega) (by rw [zl_len, h2P]; rfl) ok4⟩
              · go_simp
                skip
                (try go_wp2_with fail)
                refine hK.out _ _ ?_ (fun hHeld => ?_)
                · (first | exact P0 | exact rng_below P0 BG)
                clear hK K
                (try simp only [Act.put, Lp0, Lp1, Lp2])
                refine br1 (i := 6) (by decide +kernel) rfl (fun K hK => ?_)
                go_simp
                (go_at_call 28; (refine (HAf.out _ BG e0 e1 e2 e3 y0 y1 y2 y3 (x0.below BG) (x1.below BG) (x2.below BG) (x3.below BG)).mono ?_); rintro e a3 ⟨rP, h2P, rfl, hzP, ok4, mg4, hq_⟩; have qa3 : Below wc.heap.size wc a3 := bel_step BG hq_; have wq_ : Below a2.heap.size a2 a3 := bel_step BG hq_; have hs3 := qa3.size; have P0 := rng_below P0 wq_; (try refine (fun ra za => ?_ : _ → _ → _) (rng_below ra wq_) (Zn.below za wq_)); (try refine And.elim (fun ra za => ?_) (alloc_drew hq_)); (try refine And.elim (fun ra za => ?_) (alloc_plain hq_)))
                (try go_wp2_with fail)
                refine hK.out _ _ ?_ (fun hHeld => ?_)
                · (first | exact P0 | exact rng_below P0 BG)
                clear hK K
                (try simp only [Act.put, Lp0, Lp1, Lp2])
                refine' tk (i := 7) rfl (by decide +kernel) (Or.inl ⟨by rfl, ?_⟩) (by assumption) (fun _ _ _ h => h) ?_
                rotate_left 1
                · (intro w_ hSw_; (try dsimp only at hSw_); go_simp; (try with_reducible rfl))
                (try simp only [Act.put, Lp0, Lp1, Lp2])
                refine' tk (i := 8) rfl (by decide +kernel) (Or.inl ⟨by rfl, ?_⟩) (by assumption) (fun _ _ _ h => h) ?_
                rotate_left 1
                · (intro w_ hSw_; (try dsimp only at hSw_); go_simp; (try with_reducible rfl))
                (try simp only [Act.put, Lp0, Lp1, Lp2])
                refine' tk (i := 9) rfl (by decide +kernel) (Or.inl ⟨by rfl, ?_⟩) (by assumption) (fun _ _ _ h => h) ?_
                rotate_left 1
                · (intro w_ hSw_; (try dsimp only at hSw_); go_simp; (try with_reducible rfl))
                (try simp only [Act.put, Lp0, Lp1, Lp2])
                have ra : (a3).rangeAt (a2.heap.size) 0 (cellsM zeros18) := ra
                have za : Zn (a3) (a2.heap.size) := za
                have h8P : (cellsM (zl rP)).length = 36 := by rw [cellsM_len, zl_len, h2P]
                have hi8 : (Try.prog.info? 32).map (·.size) = some (cellsM (zl rP)).toArray.size := by rw [List.size_toArray, h8P]; exact T32i
                have ht8 := rng_there ra za
                rw [show (cellsM zeros18).length = (cellsM (zl rP)).toArray.size by rw [List.size_toArray, h8P]; rfl] at ht8
                refine br1 (i := 11) (by decide +kernel) rfl (fun K hK => ?_)
                rw [if_pos (by rfl)]
                refine wp_store_mid _ _ _ rfl (a2.heap.size) 0 (cellsM (zl rP)).toArray rfl rfl ht8 hi8 (all_oneCell_toArray (cellsM_one _)) ?_
                refine hK.out _ _ ?_ (fun hHeld => ?_)
                · (refine rng_far ?_ (by omega); (first | exact P0 | exact rng_below P0 BG))
                clear hK K
                (try simp only [Act.put, Lp0, Lp1, Lp2])
                refine' tk (i := 12) rfl (by decide +kernel) (Or.inl ⟨by rfl, ?_⟩) (by assumption) (fun _ _ _ h => h) ?_
                rotate_left 1
                · (intro w_ hSw_; (try dsimp only at hSw_); go_simp; (try with_reducible rfl))
                (try simp only [Act.put, Lp0, Lp1, Lp2])
                refine wpAnyH_done (by kernel_rfl) ?_ _
                go_wp2_with fail
                go_meet
                exact ⟨rfl, _, rP, rfl, h2P, hzP, BlkR.set (cs := zeros18) ra za BG (by omega) (by rw [zl_len, h2P]; rfl) ok4⟩
            · go_simp
              skip
              (try go_wp2_with fail)
              refine hK.out _ _ ?_ (fun hHeld => ?_)
              · (first | exact P0 | exact rng_below P0 BG)
              clear hK K
              (try simp only [Act.put, Lp0, Lp1, Lp2])
              refine br1 (i := 4) (by decide +kernel) rfl (fun K hK => ?_)
              go_simp
              (go_at_call 26; (with_reducible refine (HO12.out _).mono ?_); rintro e a2 ⟨e2, e3, rfl, y2, y3, x2, x3, hq_⟩; (try simp only [cellsM, ZE.cells, List.cons_append, List.nil_append]); have qa2 : Below wc.heap.size wc a2 := bel_step BG hq_; have wq_ : Below a1.heap.size a1 a2 := bel_step BG hq_; have hs2 := qa2.size; have hs12 := wq_.size; have x0 := x0.below wq_; have x1 := x1.below wq_; have P0 := rng_below P0 wq_; (try refine (fun ra za => ?_ : _ → _ → _) (rng_below ra wq_) (Zn.below za wq_)); (try refine And.elim (fun ra za => ?_) (alloc_drew hq_)); (try refine And.elim (fun ra za => ?_) (alloc_plain hq_)))
              (try go_wp2_with fail)
              refine hK.out _ _ ?_ (fun hHeld => ?_)
              · (first | exact P0 | exact rng_below P0 BG)
              clear hK K
              (try simp only [Act.put, Lp0, Lp1, Lp2])
              refine br1 (i := 6) (by decide +kernel) rfl (fun K hK => ?_)
              go_simp
              (go_at_call 28; (refine (HAf.out _ BG e0 e1 e2 e3 y0 y1 y2 y3 (x0.below BG) (x1.below BG) (x2.below BG) (x3.below BG)).mono ?_); rintro e a3 ⟨rP, h2P, rfl, hzP, ok4, mg4, hq_⟩; have qa3 : Below wc.heap.size wc a3 := bel_step BG hq_; have wq_ : Below a2.heap.size a2 a3 := bel_step BG hq_; have hs3 := qa3.size; have P0 := rng_below P0 wq_; (try refine (fun ra za => ?_ : _ → _ → _) (rng_below ra wq_) (Zn.below za wq_)); (try refine And.elim (fun ra za => ?_) (alloc_drew hq_)); (try refine And.elim (fun ra za => ?_) (alloc_plain hq_)))
              (try go_wp2_with fail)
              refine hK.out _ _ ?_ (fun hHeld => ?_)
              · (first | exact P0 | exact rng_below P0 BG)
              clear hK K
              (try simp only [Act.put, Lp0, Lp1, Lp2])
              refine' tk (i := 7) rfl (by decide +kernel) (Or.inl ⟨by rfl, ?_⟩) (by assumption) (fun _ _ _ h => h) ?_
              rotate_left 1
              · (intro w_ hSw_; (try dsimp only at hSw_); go_simp; (try with_reducible rfl))
              (try simp only [Act.put, Lp0, Lp1, Lp2])
              refine' tk (i := 8) rfl (by decide +kernel) (Or.inl ⟨by rfl, ?_⟩) (by assumption) (fun _ _ _ h => h) ?_
              rotate_left 1
              · (intro w_ hSw_; (try dsimp only at hSw_); go_simp; (try with_reducible rfl))
              (try simp only [Act.put, Lp0, Lp1, Lp2])
              refine' tk (i := 9) rfl (by decide +kernel) (Or.inl ⟨by rfl, ?_⟩) (by assumption) (fun _ _ _ h => h) ?_
              rotate_left 1
              · (intro w_ hSw_; (try dsimp only at hSw_); go_simp; (try with_reducible rfl))
              (try simp only [Act.put, Lp0, Lp1, Lp2])
              have ra : (a3).rangeAt (a1.heap.size) 0 (cellsM zeros18) := ra
              have za : Zn (a3) (a1.heap.size) := za
              have h8P : (cellsM (zl rP)).length = 36 := by rw [cellsM_len, zl_len, h2P]
              have hi8 : (Try.prog.info? 32).map (·.size) = some (cellsM (zl rP)).toArray.size := by rw [List.size_toArray, h8P]; exact T32i
              have ht8 := rng_there ra za
              rw [show (cellsM zeros18).length = (cellsM (zl rP)).toArray.size by rw [List.size_toArray, h8P]; rfl] at ht8
              refine br1 (i := 11) (by decide +kernel) rfl (fun K hK => ?_)
              rw [if_pos (by rfl)]
              refine wp_store_mid _ _ _ rfl (a1.heap.size) 0 (cellsM (zl rP)).toArray rfl rfl ht8 hi8 (all_oneCell_toArray (cellsM_one _)) ?_
              refine hK.out _ _ ?_ (fun hHeld => ?_)
              · (refine rng_far ?_ (by omega); (first | exact P0 | exact rng_below P0 BG))
              clear hK K
              (try simp only [Act.put, Lp0, Lp1, Lp2])
              refine' tk (i := 12) rfl (by decide +kernel) (Or.inl ⟨by rfl, ?_⟩) (by assumption) (fun _ _ _ h => h) ?_
              rotate_left 1
              · (intro w_ hSw_; (try dsimp only at hSw_); go_simp; (try with_reducible rfl))
              (try simp only [Act.put, Lp0, Lp1, Lp2])
              refine wpAnyH_done (by kernel_rfl) ?_ _
              go_wp2_with fail
              go_meet
              exact ⟨rfl, _, rP, rfl, h2P, hzP, BlkR.set (cs := zeros18) ra za BG (by omega) (by rw [zl_len, h2P]; rfl) ok4⟩
          · go_simp
            skip
            (try go_wp2_with fail)
            refine hK.out _ _ ?_ (fun hHeld => ?_)
            · (first | exact P0 | exact rng_below P0 BG)
            clear hK K
            (try simp only [Act.put, Lp0, Lp1, Lp2])
            refine br1 (i := 0) (by decide +kernel) rfl (fun K hK => ?_)
            go_simp
            (go_at_call 26; (with_reducible refine (HO12.out _).mono ?_); rintro e a1 ⟨e0, e1, rfl, y0, y1, x0, x1, hq_⟩; (try simp only [cellsM, ZE.cells, List.cons_append, List.nil_append]); have qa1 : Below wc.heap.size wc a1 := bel_step BG hq_; have wq_ : Below wc.heap.size wc a1 := bel_step BG hq_; have hs1 := qa1.size; have P0 := rng_below P0 wq_; (try refine (fun ra za => ?_ : _ → _ → _) (rng_below ra wq_) (Zn.below za wq_)); (try refine And.elim (fun ra za => ?_) (alloc_drew hq_)); (try refine And.elim (fun ra za => ?_) (alloc_plain hq_)))
            (try go_wp2_with fail)
            refine hK.out _ _ ?_ (fun hHeld => ?_)
            · (first | exact P0 | exact rng_below P0 BG)
            clear hK K
            (try simp only [Act.put, Lp0, Lp1, Lp2])
            refine br1 (i := 4) (by decide +kernel) rfl (fun K hK => ?_)
            go_simp
            (go_at_call 26; (with_reducible refine (HO12.out _).mono ?_); rintro e a2 ⟨e2, e3, rfl, y2, y3, x2, x3, hq_⟩; (try simp only [cellsM, ZE.cells, List.cons_append, List.nil_append]); have qa2 : Below wc.heap.size wc a2 := bel_step BG hq_; have wq_ : Below a1.heap.size a1 a2 := bel_step BG hq_; have hs2 := qa2.size; have hs12 := wq_.size; have x0 := x0.below wq_; have x1 := x1.below wq_; have P0 := rng_below P0 wq_; (try refine (fun ra za => ?_ : _ → _ → _) (rng_below ra wq_) (Zn.below za wq_)); (try refine And.elim (fun ra za => ?_) (alloc_drew hq_)); (try refine And.elim (fun ra za => ?_) (alloc_plain hq_)))
            (try go_wp2_with fail)
            refine hK.out _ _ ?_ (fun hHeld => ?_)
            · (first | exact P0 | exact rng_below P0 BG)
            clear hK K
            (try simp only [Act.put, Lp0, Lp1, Lp2])
            refine br1 (i := 6) (by decide +kernel) rfl (fun K hK => ?_)
            go_simp
            (go_at_call 28; (refine (HAf.out _ BG e0 e1 e2 e3 y0 y1 y2 y3 (x0.below BG) (x1.below BG) (x2.below BG) (x3.below BG)).mono ?_); rintro e a3 ⟨rP, h2P, rfl, hzP, ok4, mg4, hq_⟩; have qa3 : Below wc.heap.size wc a3 := bel_step BG hq_; have wq_ : Below a2.heap.size a2 a3 := bel_step BG hq_; have hs3 := qa3.size; have P0 := rng_below P0 wq_; (try refine (fun ra za => ?_ : _ → _ → _) (rng_below ra wq_) (Zn.below za wq_)); (try refine And.elim (fun ra za => ?_) (alloc_drew hq_)); (try refine And.elim (fun ra za => ?_) (alloc_plain hq_)))
            (try go_wp2_with fail)
            refine hK.out _ _ ?_ (fun hHeld => ?_)
            · (first | exact P0 | exact rng_below P0 BG)
            clear hK K
            (try simp only [Act.put, Lp0, Lp1, Lp2])
            refine' tk (i := 7) rfl (by decide +kernel) (Or.inl ⟨by rfl, ?_⟩) (by assumption) (fun _ _ _ h => h) ?_
            rotate_left 1
            · (intro w_ hSw_; (try dsimp only at hSw_); go_simp; (try with_reducible rfl))
            (try simp only [Act.put, Lp0, Lp1, Lp2])
            refine' tk (i := 8) rfl (by decide +kernel) (Or.inl ⟨by rfl, ?_⟩) (by assumption) (fun _ _ _ h => h) ?_
            rotate_left 1
            · (intro w_ hSw_; (try dsimp only at hSw_); go_simp; (try with_reducible rfl))
            (try simp only [Act.put, Lp0, Lp1, Lp2])
            refine' tk (i := 9) rfl (by decide +kernel) (Or.inl ⟨by rfl, ?_⟩) (by assumption) (fun _ _ _ h => h) ?_
            rotate_left 1
            · (intro w_ hSw_; (try dsimp only at hSw_); go_simp; (try with_reducible rfl))
            (try simp only [Act.put, Lp0, Lp1, Lp2])
            have ra : (a3).rangeAt (wc.heap.size) 0 (cellsM zeros18) := ra
            have za : Zn (a3) (wc.heap.size) := za
            have h8P : (cellsM (zl rP)).length = 36 := by rw [cellsM_len, zl_len, h2P]
            have hi8 : (Try.prog.info? 32).map (·.size) = some (cellsM (zl rP)).toArray.size := by rw [List.size_toArray, h8P]; exact T32i
            have ht8 := rng_there ra za
            rw [show (cellsM zeros18).length = (cellsM (zl rP)).toArray.size by rw [List.size_toArray, h8P]; rfl] at ht8
            refine br1 (i := 11) (by decide +kernel) rfl (fun K hK => ?_)
            rw [if_pos (by rfl)]
            refine wp_store_mid _ _ _ rfl (wc.heap.size) 0 (cellsM (zl rP)).toArray rfl rfl ht8 hi8 (all_oneCell_toArray (cellsM_one _)) ?_
            refine hK.out _ _ ?_ (fun hHeld => ?_)
            · (refine rng_far ?_ (by omega); (first | exact P0 | exact rng_below P0 BG))
            clear hK K
            (try simp only [Act.put, Lp0, Lp1, Lp2])
            refine' tk (i := 12) rfl (by decide +kernel) (Or.inl ⟨by rfl, ?_⟩) (by assumption) (fun _ _ _ h => h) ?_
            rotate_left 1
            · (intro w_ hSw_; (try dsimp only at hSw_); go_simp; (try with_reducible rfl))
            (try simp only [Act.put, Lp0, Lp1, Lp2])
            refine wpAnyH_done (by kernel_rfl) ?_ _
            go_wp2_with fail
            go_meet
            exact ⟨rfl, _, rP, rfl, h2P, hzP, BlkR.set (cs := zeros18) ra za BG (by omega) (by rw [zl_len, h2P]; rfl) ok4⟩
      case rest =>
        obtain ⟨rfl, gA, rA, rfl, h9A, hzA, kA⟩ := hcut
        have hqu := kA.b
        have kH := kH.below hqu
        have kP := kP.below hqu
        have HB := bel_step HB hqu
        have HMr := homR_rf (X := exM) rfl le_exM (by rw [red_exM]; exact hzA) kA.ok
        have P0 := rng_below KO.out hqu
        have oo0 := oo0.below hqu
        have oo1 := oo1.below hqu
        have on0 := on0.below hqu
        have on1 := on1.below hqu
        have ot0 := ot0.below hqu
        have ot1 := ot1.below hqu
        have p10 := keep_cell hqu p10
        have p11 := keep_cell hqu p11
        have p12 := keep_cell hqu p12
        have p13 := keep_cell hqu p13
        have p20 := keep_cell hqu p20
        have p21 := keep_cell hqu p21
        have p22 := keep_cell hqu p22
        have p23 := keep_cell hqu p23
        have h36A : (cellsM (zl rA)).length = 36 := by rw [cellsM_len, zl_len, h9A]
        have hi36A := hid (show (Try.prog.info? 32).map (·.size) = some (cellsM (zl rA)).length by rw [h36A]; exact T32i)
        have HIn := hid (LInverse_h (w := wc) h9A kA.m)
        rw [ex_inv HMr] at HIn
        have HA0 := hid fun (W : World) (h : Below wc.heap.size wc W) => HA0.out W (bel_step hqu h)
        have rA0 := kA.r
        clear HAf HAp KH KP KO hqu
        go_upto_region 5 with fail
        go_wp2_with (first | refine wpList_load_mid (by rfl) _ _ (by rfl) gA 0 (by rfl) (cellsM (zl rA)) _ rA0 hU32 row32 hi36A.out ?_ | fail)
        refine HIn.out.mono ?_
        rintro e x1 ⟨rI, h9I, rfl, hzI, okI, mgI, hx1⟩
        have F1 := hFl.out x1 rI h9I
        have h36I : (cellsM (zl rI)).length = 36 := by rw [cellsM_len, zl_len, h9I]
        go_upto_region 6 with fail
        refine enterR (P := fun u => Code.wp _ _ _ _ u) ?_
        intro y1 hy1 sI zI hsz
        have hqy := bel_step hx1 hy1
        have kI : BlkR x1 x1.heap.size rI y1 := ⟨hy1, Nat.le_refl _, sI, zI, fun e he => (okI e he).below hy1, fun f hf => (mgI f hf).below hy1⟩
        have kH := kH.below hqy
        have kP := kP.below hqy
        have kA := kA.below hqy
        have HB := bel_step HB hqy
        have HMI := homR_rf (X := exI) rfl le_exI (by rw [red_exI]; exact hzI) kI.ok
        have HMr := HMr.below hqy
        have P0 := rng_below P0 hqy
        have on0 := on0.below hqy
        have on1 := on1.below hqy
        have ot0 := ot0.below hqy
        have ot1 := ot1.below hqy
        have p10 := keep_cell hqy p10
        have p11 := keep_cell hqy p11
        have p12 := keep_cell hqy p12
        have p13 := keep_cell hqy p13
        have p20 := keep_cell hqy p20
        have p21 := keep_cell hqy p21
        have p22 := keep_cell hqy p22
        have p23 := keep_cell hqy p23
        have p00 : y1.cell? ⟨w4.heap.size, 0, none⟩ = some (.bool o0.b) := P0 0 _ rfl
        have p01 : y1.cell? ⟨w4.heap.size, 1, none⟩ = some (.slice o0.A o0.n o0.c) := P0 1 _ rfl
        have p02 : y1.cell? ⟨w4.heap.size, 2, none⟩ = some (.bool o1.b) := P0 2 _ rfl
        have p03 : y1.cell? ⟨w4.heap.size, 3, none⟩ = some (.slice o1.A o1.n o1.c) := P0 3 _ rfl
        obtain ⟨eA, fA, ezA, fzA, eoA, foA, subA⟩ := hom_at2 h9H hzH kH.ok 0 (by omega) 10 rfl
        simp only [Nat.reduceMul, Nat.zero_mul] at subA
        have subA := hid subA
        obtain ⟨eB, fB, ezB, fzB, eoB, foB, subB⟩ := hom_at2 h9H hzH kH.ok 2 (by omega) 10 rfl
        simp only [Nat.reduceMul, Nat.zero_mul] at subB
        have subB := hid subB
        obtain ⟨eC, fC, ezC, fzC, eoC, foC, subC⟩ := hom_at2 h9H hzH kH.ok 8 (by omega) 1 rfl
        simp only [Nat.reduceMul, Nat.zero_mul] at subC
        have subC := hid subC
        obtain ⟨eD, fD, ezD, fzD, eoD, foD, subD⟩ := hom_at2 h9A hzA kA.ok 0 (by omega) 1 rfl
        simp only [Nat.reduceMul, Nat.zero_mul] at subD
        have subD := hid subD
        obtain ⟨eE, fE, ezE, fzE, eoE, foE, subE⟩ := hom_at2 h9A hzA kA.ok 8 (by omega) 2 rfl
        simp only [Nat.reduceMul, Nat.zero_mul] at subE
        have subE := hid subE
        obtain ⟨eF, fF, ezF, fzF, eoF, foF, subF⟩ := hom_at2 h9I hzI kI.ok 0 (by omega) 2 rfl
        simp only [Nat.reduceMul, Nat.zero_mul] at subF
        have subF := hid subF
        have HS1 := hid fun (W : World) (h : Below y1.heap.size y1 W) => Lsame_g (w := W) (eoA.below h) (foA.below h) (ot0.below h) (ot1.below h) true (by rw [ezA, fzA, zt0, zt1]; rfl)
        have HS2 := hid fun (W : World) (h : Below y1.heap.size y1 W) => Lsame_g (w := W) (eoB.below h) (foB.below h) (ot0.below h) (ot1.below h) true (by rw [ezB, fzB, zt0, zt1]; rfl)
        have HS3 := hid fun (W : World) (h : Below y1.heap.size y1 W) => Lsame_g (w := W) (eoC.below h) (foC.below h) (on0.below h) (on1.below h) true (by rw [ezC, fzC, zn0, zn1]; rfl)
        have HS4 := hid fun (W : World) (h : Below y1.heap.size y1 W) => Lsame_g (w := W) (eoD.below h) (foD.below h) (on0.below h) (on1.below h) true (by rw [ezD, fzD, zn0, zn1]; rfl)
        have HS5 := hid fun (W : World) (h : Below y1.heap.size y1 W) (a b : ZE) (za : a.z = 2) (zb : b.z = ((1 : Nat) : Int)) (oa : a.ok W) (ob : b.ok W) => Lsame_g (w := W) (eoE.below h) (foE.below h) oa ob true (by rw [ezE, fzE, za, zb]; rfl)
        have HS6 := hid fun (W : World) (h : Below y1.heap.size y1 W) (a b : ZE) (za : a.z = 2) (zb : b.z = ((1 : Nat) : Int)) (oa : a.ok W) (ob : b.ok W) => Lsame_g (w := W) (eoF.below h) (foF.below h) oa ob true (by rw [ezF, fzF, za, zb]; rfl)
        have HPt := hid fun (W : World) (h : Below y1.heap.size y1 W) (e0 e1 e2 e3 : ZE) (hz : [e0, e1, e2, e3].map (·.z) = frZ [(15, 1), (15, 1)]) (ho : ∀ e ∈ [e0, e1, e2, e3], e.ok W) => (show Calls Try.prog 10 #[.agg (cellsM (zl rP)).toArray, .agg (cellsM [e0, e1, e2, e3]).toArray] W (RetB W true) from by
          obtain ⟨a1, a2, a3, a4⟩ := rfG_of hz ho (by unfold Nf; decide)
          have := Lpoint_g (w := W) (rf := rP) (rg := toRf [e0, e1, e2, e3]) h2P a2 (fun e he => (kP.ok e he).below h) (by rw [a1]; exact ho) true (by rw [a1, hz, hzP]; decide)
          rwa [a1] at this)
        have HEq := hid fun (W : World) (h : Below y1.heap.size y1 W) => (show Calls Try.prog 15 #[.agg (cellsM (zl rA)).toArray, .agg (cellsM (zl rI)).toArray] W (RetB W false) from by
          have := HEqual_g rA rI h9A h9I (w := W) (fun f hf => (kA.m f hf).below h) (fun f hf => (kI.m f hf).below h)
          rwa [ex_eq HMr HMI] at this)
        simp only [cellsM, ZE.cells, List.cons_append, List.nil_append] at HS1 HS2 HS3 HS4 HS5 HS6 HPt
        have HA0 := hid fun (W : World) (h : Below y1.heap.size y1 W) => HA0.out W (bel_step hqy h)
        have RH := kH.r
        have RN := rng_four p10 p11 p12 p13
        have RT := rng_four p20 p21 p22 p23
        have RP := kP.r
        have RA := kA.r
        have RI := kI.r
        have h8P : (cellsM (zl rP)).length = 8 := by rw [cellsM_len, zl_len, h2P]
        have hi8P := hid (show (Try.prog.info? 28).map (·.size) = some (cellsM (zl rP)).length by rw [h8P]; exact T28i)
        have hi36I := hid (show (Try.prog.info? 32).map (·.size) = some (cellsM (zl rI)).length by rw [h36I]; exact T32i)
        obtain ⟨gI, hgI⟩ : ∃ g, g = x1.heap.size := ⟨_, rfl⟩
        rw [← hgI] at RI ⊢
        have HBy := Below.refl y1.heap.size y1
        clear kH kP kA kI F1 HMr HMI sI zI hsz hx1 hy1 hqy rA0 P0 HIn hgI oo0 oo1 on0 on1 ot0 ot1 okI mgI h36H h36A h36I
        go_wp2_with fail
        refine (HA0.out _ HBy).mono ?_
        rintro e x2 ⟨rZ, h9Z, rfl, hzZ, okZ, mgZ, hx2⟩
        have F1 := hFl.out x2 rZ h9Z
        have h36Z : (cellsM (zl rZ)).length = 36 := by rw [cellsM_len, zl_len, h9Z]
        go_upto_region 7 with fail
        refine enterR (P := fun u => Code.wp _ _ _ _ u) ?_
        intro y2 hy2 sZ zZ hsz
        have hq2 := bel_step hx2 hy2
        have hBy2 : Below y1.heap.size y1 y2 := hq2
        have RH := rng_below RH hq2
        have RP := rng_below RP hq2
        have RA := rng_below RA hq2
        have RI := rng_below RI hq2
        have RN := rng_below RN hq2
        have RT := rng_below RT hq2
        have HB := bel_step HB hq2
        have hRH := hid RH
        have hRP := hid RP
        have hRA := hid RA
        have hRI := hid RI
        have hRN := hid RN
        have hRT := hid RT
        have HS1 := hid fun (W : World) (h : Below y2.heap.size y2 W) => HS1.out W (bel_step hq2 h)
        have HS2 := hid fun (W : World) (h : Below y2.heap.size y2 W) => HS2.out W (bel_step hq2 h)
        have HS3 := hid fun (W : World) (h : Below y2.heap.size y2 W) => HS3.out W (bel_step hq2 h)
        have HS4 := hid fun (W : World) (h : Below y2.heap.size y2 W) => HS4.out W (bel_step hq2 h)
        have HS5 := hid fun (W : World) (h : Below y2.heap.size y2 W) => HS5.out W (bel_step hq2 h)
        have HS6 := hid fun (W : World) (h : Below y2.heap.size y2 W) => HS6.out W (bel_step hq2 h)
        have HPt := hid fun (W : World) (h : Below y2.heap.size y2 W) => HPt.out W (bel_step hq2 h)
        have HEq := hid fun (W : World) (h : Below y2.heap.size y2 W) => HEq.out W (bel_step hq2 h)
        clear p00 p01 p02 p03 p10 p11 p12 p13 p20 p21 p22 p23 okZ mgZ hzZ sZ zZ hsz F1 hx2 hy2 hq2 HA0 h36Z HBy
        have HBu := Below.refl y2.heap.size y2
        simp only [List.append]
        as_aux_lemma =>
          refine wp_region_held_drew (S := fun w' => w'.rangeAt gH 0 (cellsM (zl rH)) ∧ w'.rangeAt gP 0 (cellsM (zl rP)) ∧ w'.rangeAt gA 0 (cellsM (zl rA)) ∧ w'.rangeAt gI 0 (cellsM (zl rI)) ∧ w'.rangeAt (w4.heap.size + 1) 0 [.bool n0.b, .slice n0.A n0.n n0.c, .bool n1.b, .slice n1.A n1.n n1.c] ∧ w'.rangeAt (w4.heap.size + 1 + 1) 0 [.bool t0.b, .slice t0.A t0.n t0.c, .bool t1.b, .slice t1.A t1.n t1.c]) (by kernel_rfl) ?_ (fun hHeld => ?_)
          · exact ⟨RH, RP, RA, RI, RN, RT⟩
          refine' tk (i := 0) rfl (by decide +kernel) (Or.inl ⟨by rfl, ?_⟩) (by assumption) (fun _ _ _ h => h) ?_
          rotate_left 1
          · (intro w_ hSw_; (try dsimp only at hSw_); go_simp; (try with_reducible rfl))
          (try simp only [Act.put, Lp0, Lp1, Lp2])
          refine' tk (i := 1) rfl (by decide +kernel) (Or.inl ⟨by rfl, ?_⟩) (by assumption) (fun _ _ _ h => h) ?_
          rotate_left 1
          · (intro w_ hSw_; (try dsimp only at hSw_); go_simp; (try with_reducible rfl))
          (try simp only [Act.put, Lp0, Lp1, Lp2])
          refine' tk (i := 2) rfl (by decide +kernel) (Or.inl ⟨by rfl, ?_⟩) (by assumption) (fun _ _ _ h => h) ?_
          rotate_left 1
          · (intro w_ hSw_; (try dsimp only at hSw_); go_simp; (try with_reducible rfl))
          (try simp only [Act.put, Lp0, Lp1, Lp2])
          refine' tk (i := 3) rfl (by decide +kernel) (Or.inl ⟨by rfl, ?_⟩) (by assumption) (fun _ _ _ h => h) ?_
          rotate_left 1
          · (intro w_ hSw_; (try dsimp only at hSw_); go_simp; (try with_reducible rfl))
          (try simp only [Act.put, Lp0, Lp1, Lp2])
          refine' tk (i := 4) rfl (by decide +kernel) (Or.inl ⟨by rfl, ?_⟩) (by assumption) (fun _ _ _ h => h) ?_
          rotate_left 1
          · (intro w_ hSw_; (try dsimp only at hSw_); go_simp; (try with_reducible rfl))
          (try simp only [Act.put, Lp0, Lp1, Lp2])
          refine' tk (i := 5) rfl (by decide +kernel) (Or.inl ⟨by rfl, ?_⟩) (by assumption) (fun _ _ _ h => h) ?_
          rotate_left 1
          · (intro w_ hSw_; (try dsimp only at hSw_); go_simp; (try with_reducible rfl))
          (try simp only [Act.put, Lp0, Lp1, Lp2])
          refine' tk (i := 6) rfl (by decide +kernel) (Or.inl ⟨by rfl, ?_⟩) (by assumption) (fun _ _ _ h => h) ?_
          rotate_left 1
          · (intro w_ hSw_; (try dsimp only at hSw_); go_simp; (try with_reducible rfl))
          (try simp only [Act.put, Lp0, Lp1, Lp2])
          refine' tk (i := 7) rfl (by decide +kernel) (Or.inl ⟨by rfl, ?_⟩) (by assumption) (fun _ _ _ h => h) ?_
          rotate_left 1
          · (intro w_ hSw_; (try dsimp only at hSw_); go_simp; (try with_reducible rfl))
          (try simp only [Act.put, Lp0, Lp1, Lp2])
          refine' tk (i := 8) rfl (by decide +kernel) (Or.inl ⟨by rfl, ?_⟩) (by assumption) (fun _ _ _ h => h) ?_
          rotate_left 1
          · (intro w_ hSw_; (try dsimp only at hSw_); go_simp; (try with_reducible rfl))
          (try simp only [Act.put, Lp0, Lp1, Lp2])
          refine' tk (i := 9) rfl (by decide +kernel) (Or.inl ⟨by rfl, ?_⟩) (by assumption) (fun _ _ _ h => h) ?_
          rotate_left 1
          · (intro w_ hSw_; (try dsimp only at hSw_); go_simp; (try with_reducible rfl))
          (try simp only [Act.put, Lp0, Lp1, Lp2])
          refine' tk (i := 10) rfl (by decide +kernel) (Or.inl ⟨by rfl, ?_⟩) (by assumption) (fun _ _ _ h => h) ?_
          rotate_left 1
          · (intro w_ hSw_; (try dsimp only at hSw_); go_simp; (try with_reducible rfl))
          (try simp only [Act.put, Lp0, Lp1, Lp2])
          refine' tk (i := 11) rfl (by decide +kernel) (Or.inl ⟨by rfl, ?_⟩) (by assumption) (fun _ _ _ h => h) ?_
          rotate_left 1
          · (intro w_ hSw_; (try dsimp only at hSw_); go_simp; (try with_reducible rfl))
          (try simp only [Act.put, Lp0, Lp1, Lp2])
          refine' tk (i := 12) rfl (by decide +kernel) (Or.inl ⟨by rfl, ?_⟩) (by assumption) (fun _ _ _ h => h) ?_
          rotate_left 1
          · (intro w_ hSw_; (try dsimp only at hSw_); go_simp; (try with_reducible rfl))
          (try simp only [Act.put, Lp0, Lp1, Lp2])
          refine' tk (i := 13) rfl (by decide +kernel) (Or.inl ⟨by rfl, ?_⟩) (by assumption) (fun _ _ _ h => h) ?_
          rotate_left 1
          · (intro w_ hSw_; (try dsimp only at hSw_); go_simp; (try with_reducible rfl))
          (try simp only [Act.put, Lp0, Lp1, Lp2])
          refine' tk (i := 14) rfl (by decide +kernel) (Or.inl ⟨by rfl, ?_⟩) (by assumption) (fun _ _ _ h => h) ?_
          rotate_left 1
          · (intro w_ hSw_; (try dsimp only at hSw_); go_simp; (try with_reducible rfl))
          (try simp only [Act.put, Lp0, Lp1, Lp2])
          refine' tk (i := 15) rfl (by decide +kernel) (Or.inl ⟨by rfl, ?_⟩) (by assumption) (fun _ _ _ h => h) ?_
          rotate_left 1
          · (intro w_ hSw_; (try dsimp only at hSw_); go_simp; (try with_reducible rfl))
          (try simp only [Act.put, Lp0, Lp1, Lp2])
          refine' tk (i := 16) rfl (by decide +kernel) (Or.inl ⟨by rfl, ?_⟩) (by assumption) (fun _ _ _ h => h) ?_
          rotate_left 1
          · (intro w_ hSw_; (try dsimp only at hSw_); go_simp; (try with_reducible rfl))
          (try simp only [Act.put, Lp0, Lp1, Lp2])
          refine' tk (i := 17) rfl (by decide +kernel) (Or.inl ⟨by rfl, ?_⟩) (by assumption) (fun _ _ _ h => h) ?_
          rotate_left 1
          · (intro w_ hSw_; (try dsimp only at hSw_); go_simp; (try with_reducible rfl))
          (try simp only [Act.put, Lp0, Lp1, Lp2])
          refine' tk (i := 18) rfl (by decide +kernel) (Or.inl ⟨by rfl, ?_⟩) (by assumption) (fun _ _ _ h => h) ?_
          rotate_left 1
          · (intro w_ hSw_; (try dsimp only at hSw_); go_simp; (try with_reducible rfl))
          (try simp only [Act.put, Lp0, Lp1, Lp2])
          refine' tk (i := 19) rfl (by decide +kernel) (Or.inl ⟨by rfl, ?_⟩) (by assumption) (fun _ _ _ h => h) ?_
          rotate_left 1
          · (intro w_ hSw_; (try dsimp only at hSw_); go_simp; (try with_reducible rfl))
          (try simp only [Act.put, Lp0, Lp1, Lp2])
          refine' tk (i := 20) rfl (by decide +kernel) (Or.inl ⟨by rfl, ?_⟩) (by assumption) (fun _ _ _ h => h) ?_
          rotate_left 1
          · (intro w_ hSw_; (try dsimp only at hSw_); go_simp; (try with_reducible rfl))
          (try simp only [Act.put, Lp0, Lp1, Lp2])
          refine tk (i := 21) rfl (by decide +kernel) (yieldsIf_load_mid (by rfl) _ _ (by rfl) (gH) (0) (by rfl) ([.bool eA.b, .slice eA.A eA.n eA.c, .bool fA.b, .slice fA.A fA.n fA.c]) _ (fun w_ hS_ => subA.out w_ gH hS_.1) hU26 (by first | rfl | assumption) T26i) (by assumption) (fun _ _ _ h => h) ?_
          (try simp only [Act.put, Lp0, Lp1, Lp2])
          refine tk (i := 22) rfl (by decide +kernel) (yieldsIf_load_mid (by rfl) _ _ (by rfl) (w4.heap.size + 1 + 1) (0) (by rfl) ([.bool t0.b, .slice t0.A t0.n t0.c, .bool t1.b, .slice t1.A t1.n t1.c]) _ (fun w_ hS_ => hS_.2.2.2.2.2) hU26 (by first | rfl | assumption) T26i) (by assumption) (fun _ _ _ h => h) ?_
          (try simp only [Act.put, Lp0, Lp1, Lp2])
          refine br1 (i := 23) (by decide +kernel) rfl (fun K hK => ?_)
          go_simp
          ((refine (HS1.out _ BG).mono ?_); rintro e v1 ⟨rfl, hq_⟩; have qv1 : Below y2.heap.size y2 v1 := bel_step BG hq_; have RH := rng_below hRH.out qv1; have RP := rng_below hRP.out qv1; have RA := rng_below hRA.out qv1; have RI := rng_below hRI.out qv1; have RN := rng_below hRN.out qv1; have RT := rng_below hRT.out qv1)
          (try go_wp2_with fail)
          refine hK.out _ _ ?_ (fun hHeld => ?_)
          · (exact ⟨RH, RP, RA, RI, RN, RT⟩)
          clear hK K
          (try simp only [Act.put, Lp0, Lp1, Lp2])
          refine' tk (i := 24) rfl (by decide +kernel) (Or.inl ⟨by rfl, ?_⟩) (by assumption) (fun _ _ _ h => h) ?_
          rotate_left 1
          · (intro w_ hSw_; (try dsimp only at hSw_); go_simp; (try with_reducible rfl))
          (try simp only [Act.put, Lp0, Lp1, Lp2])
          refine' tk (i := 25) rfl (by decide +kernel) (Or.inl ⟨by rfl, ?_⟩) (by assumption) (fun _ _ _ h => h) ?_
          rotate_left 1
          · (intro w_ hSw_; (try dsimp only at hSw_); go_simp; (try with_reducible rfl))
          (try simp only [Act.put, Lp0, Lp1, Lp2])
          refine' tk (i := 26) rfl (by decide +kernel) (Or.inl ⟨by rfl, ?_⟩) (by assumption) (fun _ _ _ h => h) ?_
          rotate_left 1
          · (intro w_ hSw_; (try dsimp only at hSw_); go_simp; (try with_reducible rfl))
          (try simp only [Act.put, Lp0, Lp1, Lp2])
          refine' tk (i := 27) rfl (by decide +kernel) (Or.inl ⟨by rfl, ?_⟩) (by assumption) (fun _ _ _ h => h) ?_
          rotate_left 1
          · (intro w_ hSw_; (try dsimp only at hSw_); go_simp; (try with_reducible rfl))
          (try simp only [Act.put, Lp0, Lp1, Lp2])
          refine tk (i := 28) rfl (by decide +kernel) (yieldsIf_load_mid (by rfl) _ _ (by rfl) (gH) (8) (by rfl) ([.bool eB.b, .slice eB.A eB.n eB.c, .bool fB.b, .slice fB.A fB.n fB.c]) _ (fun w_ hS_ => subB.out w_ gH hS_.1) hU26 (by first | rfl | assumption) T26i) (by assumption) (fun _ _ _ h => h) ?_
          (try simp only [Act.put, Lp0, Lp1, Lp2])
          refine tk (i := 29) rfl (by decide +kernel) (yieldsIf_load_mid (by rfl) _ _ (by rfl) (w4.heap.size + 1 + 1) (0) (by rfl) ([.bool t0.b, .slice t0.A t0.n t0.c, .bool t1.b, .slice t1.A t1.n t1.c]) _ (fun w_ hS_ => hS_.2.2.2.2.2) hU26 (by first | rfl | assumption) T26i) (by assumption) (fun _ _ _ h => h) ?_
          (try simp only [Act.put, Lp0, Lp1, Lp2])
          refine br1 (i := 30) (by decide +kernel) rfl (fun K hK => ?_)
          go_simp
          ((refine (HS2.out _ BG).mono ?_); rintro e v2 ⟨rfl, hq_⟩; have qv2 : Below y2.heap.size y2 v2 := bel_step BG hq_; have RH := rng_below hRH.out qv2; have RP := rng_below hRP.out qv2; have RA := rng_below hRA.out qv2; have RI := rng_below hRI.out qv2; have RN := rng_below hRN.out qv2; have RT := rng_below hRT.out qv2)
          (try go_wp2_with fail)
          refine hK.out _ _ ?_ (fun hHeld => ?_)
          · (exact ⟨RH, RP, RA, RI, RN, RT⟩)
          clear hK K
          (try simp only [Act.put, Lp0, Lp1, Lp2])
          refine' tk (i := 31) rfl (by decide +kernel) (Or.inl ⟨by rfl, ?_⟩) (by assumption) (fun _ _ _ h => h) ?_
          rotate_left 1
          · (intro w_ hSw_; (try dsimp only at hSw_); go_simp; (try with_reducible rfl))
          (try simp only [Act.put, Lp0, Lp1, Lp2])
          refine' tk (i := 32) rfl (by decide +kernel) (Or.inl ⟨by rfl, ?_⟩) (by assumption) (fun _ _ _ h => h) ?_
          rotate_left 1
          · (intro w_ hSw_; (try dsimp only at hSw_); go_simp; (try with_reducible rfl))
          (try simp only [Act.put, Lp0, Lp1, Lp2])
          refine' tk (i := 33) rfl (by decide +kernel) (Or.inl ⟨by rfl, ?_⟩) (by assumption) (fun _ _ _ h => h) ?_
          rotate_left 1
          · (intro w_ hSw_; (try dsimp only at hSw_); go_simp; (try with_reducible rfl))
          (try simp only [Act.put, Lp0, Lp1, Lp2])
          refine' tk (i := 34) rfl (by decide +kernel) (Or.inl ⟨by rfl, ?_⟩) (by assumption) (fun _ _ _ h => h) ?_
          rotate_left 1
          · (intro w_ hSw_; (try dsimp only at hSw_); go_simp; (try with_reducible rfl))
          (try simp only [Act.put, Lp0, Lp1, Lp2])
          refine tk (i := 35) rfl (by decide +kernel) (yieldsIf_load_mid (by rfl) _ _ (by rfl) (gH) (32) (by rfl) ([.bool eC.b, .slice eC.A eC.n eC.c, .bool fC.b, .slice fC.A fC.n fC.c]) _ (fun w_ hS_ => subC.out w_ gH hS_.1) hU26 (by first | rfl | assumption) T26i) (by assumption) (fun _ _ _ h => h) ?_
          (try simp only [Act.put, Lp0, Lp1, Lp2])
          refine tk (i := 36) rfl (by decide +kernel) (yieldsIf_load_mid (by rfl) _ _ (by rfl) (w4.heap.size + 1) (0) (by rfl) ([.bool n0.b, .slice n0.A n0.n n0.c, .bool n1.b, .slice n1.A n1.n n1.c]) _ (fun w_ hS_ => hS_.2.2.2.2.1) hU26 (by first | rfl | assumption) T26i) (by assumption) (fun _ _ _ h => h) ?_
          (try simp only [Act.put, Lp0, Lp1, Lp2])
          refine br1 (i := 37) (by decide +kernel) rfl (fun K hK => ?_)
          go_simp
          ((refine (HS3.out _ BG).mono ?_); rintro e v3 ⟨rfl, hq_⟩; have qv3 : Below y2.heap.size y2 v3 := bel_step BG hq_; have RH := rng_below hRH.out qv3; have RP := rng_below hRP.out qv3; have RA := rng_below hRA.out qv3; have RI := rng_below hRI.out qv3; have RN := rng_below hRN.out qv3; have RT := rng_below hRT.out qv3)
          (try go_wp2_with fail)
          refine hK.out _ _ ?_ (fun hHeld => ?_)
          · (exact ⟨RH, RP, RA, RI, RN, RT⟩)
          clear hK K
          (try simp only [Act.put, Lp0, Lp1, Lp2])
          refine' tk (i := 38) rfl (by decide +kernel) (Or.inl ⟨by rfl, ?_⟩) (by assumption) (fun _ _ _ h => h) ?_
          rotate_left 1
          · (intro w_ hSw_; (try dsimp only at hSw_); go_simp; (try with_reducible rfl))
          (try simp only [Act.put, Lp0, Lp1, Lp2])
          refine' tk (i := 39) rfl (by decide +kernel) (Or.inl ⟨by rfl, ?_⟩) (by assumption) (fun _ _ _ h => h) ?_
          rotate_left 1
          · (intro w_ hSw_; (try dsimp only at hSw_); go_simp; (try with_reducible rfl))
          (try simp only [Act.put, Lp0, Lp1, Lp2])
          refine tk (i := 40) rfl (by decide +kernel) (yieldsIf_load_mid (by rfl) _ _ (by rfl) (gP) (0) (by rfl) (cellsM (zl rP)) _ (fun w_ hS_ => hS_.2.1) hU28 (by first | rfl | assumption) hi8P.out) (by assumption) (fun _ _ _ h => h) ?_
          (try simp only [Act.put, Lp0, Lp1, Lp2])
          refine br1 (i := 41) (by decide +kernel) rfl (fun K hK => ?_)
          go_simp
          ((with_reducible refine (HO15.out _).mono ?_); rintro e v4 ⟨a0, a1, rfl, za0, za1, oa0, oa1, hq_⟩; (try simp only [cellsM, ZE.cells, List.cons_append, List.nil_append]); have qv4 : Below y2.heap.size y2 v4 := bel_step BG hq_; have wv4 : Below v3.heap.size v3 v4 := bel_step BG hq_; have RH := rng_below hRH.out qv4; have RP := rng_below hRP.out qv4; have RA := rng_below hRA.out qv4; have RI := rng_below hRI.out qv4; have RN := rng_below hRN.out qv4; have RT := rng_below hRT.out qv4)
          (try go_wp2_with fail)
          refine hK.out _ _ ?_ (fun hHeld => ?_)
          · (exact ⟨RH, RP, RA, RI, RN, RT⟩)
          clear hK K
          (try simp only [Act.put, Lp0, Lp1, Lp2])
          refine br1 (i := 42) (by decide +kernel) rfl (fun K hK => ?_)
          go_simp
          ((with_reducible refine (HO15.out _).mono ?_); rintro e v5 ⟨a2, a3, rfl, za2, za3, oa2, oa3, hq_⟩; (try simp only [cellsM, ZE.cells, List.cons_append, List.nil_append]); have qv5 : Below y2.heap.size y2 v5 := bel_step BG hq_; have wv5 : Below v4.heap.size v4 v5 := bel_step BG hq_; have RH := rng_below hRH.out qv5; have RP := rng_below hRP.out qv5; have RA := rng_below hRA.out qv5; have RI := rng_below hRI.out qv5; have RN := rng_below hRN.out qv5; have RT := rng_below hRT.out qv5)
          (try go_wp2_with fail)
          refine hK.out _ _ ?_ (fun hHeld => ?_)
          · (exact ⟨RH, RP, RA, RI, RN, RT⟩)
          clear hK K
          (try simp only [Act.put, Lp0, Lp1, Lp2])
          refine br1 (i := 43) (by decide +kernel) rfl (fun K hK => ?_)
          go_simp
          ((refine (HAt.out _ a0 a1 a2 a3 (oa0.below wv5) (oa1.below wv5) oa2 oa3).mono ?_); rintro e v6 ⟨rfl, ⟨oa0, oa1, oa2, oa3⟩, hq_⟩; (try simp only [cellsM, ZE.cells, List.cons_append, List.nil_append]); have qv6 : Below y2.heap.size y2 v6 := bel_step BG hq_; have RH := rng_below hRH.out qv6; have RP := rng_below hRP.out qv6; have RA := rng_below hRA.out qv6; have RI := rng_below hRI.out qv6; have RN := rng_below hRN.out qv6; have RT := rng_below hRT.out qv6)
          (try go_wp2_with fail)
          refine hK.out _ _ ?_ (fun hHeld => ?_)
          · (exact ⟨RH, RP, RA, RI, RN, RT⟩)
          clear hK K
          (try simp only [Act.put, Lp0, Lp1, Lp2])
          refine br1 (i := 44) (by decide +kernel) rfl (fun K hK => ?_)
          go_simp
          ((refine (HPt.out _ qv6 a0 a1 a2 a3 (by simp only [List.map_cons, List.map_nil, za0, za1, za2, za3]; rfl) (by intro e he; simp only [List.mem_cons, List.not_mem_nil, or_false] at he; rcases he with rfl | rfl | rfl | rfl <;> assumption)).mono ?_); rintro e v7 ⟨rfl, hq_⟩; have qv7 : Below y2.heap.size y2 v7 := bel_step qv6 hq_; have RH := rng_below hRH.out qv7; have RP := rng_below hRP.out qv7; have RA := rng_below hRA.out qv7; have RI := rng_below hRI.out qv7; have RN := rng_below hRN.out qv7; have RT := rng_below hRT.out qv7)
          (try go_wp2_with fail)
          refine hK.out _ _ ?_ (fun hHeld => ?_)
          · (exact ⟨RH, RP, RA, RI, RN, RT⟩)
          clear hK K
          (try simp only [Act.put, Lp0, Lp1, Lp2])
          refine' tk (i := 45) rfl (by decide +kernel) (Or.inl ⟨by rfl, ?_⟩) (by assumption) (fun _ _ _ h => h) ?_
          rotate_left 1
          · (intro w_ hSw_; (try dsimp only at hSw_); go_simp; (try with_reducible rfl))
          (try simp only [Act.put, Lp0, Lp1, Lp2])
          refine' tk (i := 46) rfl (by decide +kernel) (Or.inl ⟨by rfl, ?_⟩) (by assumption) (fun _ _ _ h => h) ?_
          rotate_left 1
          · (intro w_ hSw_; (try dsimp only at hSw_); go_simp; (try with_reducible rfl))
          (try simp only [Act.put, Lp0, Lp1, Lp2])
          refine' tk (i := 47) rfl (by decide +kernel) (Or.inl ⟨by rfl, ?_⟩) (by assumption) (fun _ _ _ h => h) ?_
          rotate_left 1
          · (intro w_ hSw_; (try dsimp only at hSw_); go_simp; (try with_reducible rfl))
          (try simp only [Act.put, Lp0, Lp1, Lp2])
          refine' tk (i := 48) rfl (by decide +kernel) (Or.inl ⟨by rfl, ?_⟩) (by assumption) (fun _ _ _ h => h) ?_
          rotate_left 1
          · (intro w_ hSw_; (try dsimp only at hSw_); go_simp; (try with_reducible rfl))
          (try simp only [Act.put, Lp0, Lp1, Lp2])
          refine tk (i := 49) rfl (by decide +kernel) (yieldsIf_load_mid (by rfl) _ _ (by rfl) (gA) (0) (by rfl) ([.bool eD.b, .slice eD.A eD.n eD.c, .bool fD.b, .slice fD.A fD.n fD.c]) _ (fun w_ hS_ => subD.out w_ gA hS_.2.2.1) hU26 (by first | rfl | assumption) T26i) (by assumption) (fun _ _ _ h => h) ?_
          (try simp only [Act.put, Lp0, Lp1, Lp2])
          refine tk (i := 50) rfl (by decide +kernel) (yieldsIf_load_mid (by rfl) _ _ (by rfl) (w4.heap.size + 1) (0) (by rfl) ([.bool n0.b, .slice n0.A n0.n n0.c, .bool n1.b, .slice n1.A n1.n n1.c]) _ (fun w_ hS_ => hS_.2.2.2.2.1) hU26 (by first | rfl | assumption) T26i) (by assumption) (fun _ _ _ h => h) ?_
          (try simp only [Act.put, Lp0, Lp1, Lp2])
          refine br1 (i := 51) (by decide +kernel) rfl (fun K hK => ?_)
          go_simp
          ((refine (HS4.out _ BG).mono ?_); rintro e v8 ⟨rfl, hq_⟩; have qv8 : Below y2.heap.size y2 v8 := bel_step BG hq_; have RH := rng_below hRH.out qv8; have RP := rng_below hRP.out qv8; have RA := rng_below hRA.out qv8; have RI := rng_below hRI.out qv8; have RN := rng_below hRN.out qv8; have RT := rng_below hRT.out qv8)
          (try go_wp2_with fail)
          refine hK.out _ _ ?_ (fun hHeld => ?_)
          · (exact ⟨RH, RP, RA, RI, RN, RT⟩)
          clear hK K
          (try simp only [Act.put, Lp0, Lp1, Lp2])
          refine' tk (i := 52) rfl (by decide +kernel) (Or.inl ⟨by rfl, ?_⟩) (by assumption) (fun _ _ _ h => h) ?_
          rotate_left 1
          · (intro w_ hSw_; (try dsimp only at hSw_); go_simp; (try with_reducible rfl))
          (try simp only [Act.put, Lp0, Lp1, Lp2])
          refine' tk (i := 53) rfl (by decide +kernel) (Or.inl ⟨by rfl, ?_⟩) (by assumption) (fun _ _ _ h => h) ?_
          rotate_left 1
          · (intro w_ hSw_; (try dsimp only at hSw_); go_simp; (try with_reducible rfl))
          (try simp only [Act.put, Lp0, Lp1, Lp2])
          refine' tk (i := 54) rfl (by decide +kernel) (Or.inl ⟨by rfl, ?_⟩) (by assumption) (fun _ _ _ h => h) ?_
          rotate_left 1
          · (intro w_ hSw_; (try dsimp only at hSw_); go_simp; (try with_reducible rfl))
          (try simp only [Act.put, Lp0, Lp1, Lp2])
          refine' tk (i := 55) rfl (by decide +kernel) (Or.inl ⟨by rfl, ?_⟩) (by assumption) (fun _ _ _ h => h) ?_
          rotate_left 1
          · (intro w_ hSw_; (try dsimp only at hSw_); go_simp; (try with_reducible rfl))
          (try simp only [Act.put, Lp0, Lp1, Lp2])
          refine tk (i := 56) rfl (by decide +kernel) (yieldsIf_load_mid (by rfl) _ _ (by rfl) (gA) (32) (by rfl) ([.bool eE.b, .slice eE.A eE.n eE.c, .bool fE.b, .slice fE.A fE.n fE.c]) _ (fun w_ hS_ => subE.out w_ gA hS_.2.2.1) hU26 (by first | rfl | assumption) T26i) (by assumption) (fun _ _ _ h => h) ?_
          (try simp only [Act.put, Lp0, Lp1, Lp2])
          refine br1 (i := 57) (by decide +kernel) rfl (fun K hK => ?_)
          go_simp
          ((with_reducible refine (HO21.out _).mono ?_); rintro e v9 ⟨b0, b1, rfl, zb0, zb1, ob0, ob1, hq_⟩; (try simp only [cellsM, ZE.cells, List.cons_append, List.nil_append]); have qv9 : Below y2.heap.size y2 v9 := bel_step BG hq_; have wv9 : Below v8.heap.size v8 v9 := bel_step BG hq_; have RH := rng_below hRH.out qv9; have RP := rng_below hRP.out qv9; have RA := rng_below hRA.out qv9; have RI := rng_below hRI.out qv9; have RN := rng_below hRN.out qv9; have RT := rng_below hRT.out qv9)
          (try go_wp2_with fail)
          refine hK.out _ _ ?_ (fun hHeld => ?_)
          · (exact ⟨RH, RP, RA, RI, RN, RT⟩)
          clear hK K
          (try simp only [Act.put, Lp0, Lp1, Lp2])
          refine br1 (i := 58) (by decide +kernel) rfl (fun K hK => ?_)
          go_simp
          ((refine (HS5.out _ qv9 b0 b1 zb0 zb1 ob0 ob1).mono ?_); rintro e v10 ⟨rfl, hq_⟩; have qv10 : Below y2.heap.size y2 v10 := bel_step qv9 hq_; have RH := rng_below hRH.out qv10; have RP := rng_below hRP.out qv10; have RA := rng_below hRA.out qv10; have RI := rng_below hRI.out qv10; have RN := rng_below hRN.out qv10; have RT := rng_below hRT.out qv10)
          (try go_wp2_with fail)
          refine hK.out _ _ ?_ (fun hHeld => ?_)
          · (exact ⟨RH, RP, RA, RI, RN, RT⟩)
          clear hK K
          (try simp only [Act.put, Lp0, Lp1, Lp2])
          refine' tk (i := 59) rfl (by decide +kernel) (Or.inl ⟨by rfl, ?_⟩) (by assumption) (fun _ _ _ h => h) ?_
          rotate_left 1
          · (intro w_ hSw_; (try dsimp only at hSw_); go_simp; (try with_reducible rfl))
          (try simp only [Act.put, Lp0, Lp1, Lp2])
          refine' tk (i := 60) rfl (by decide +kernel) (Or.inl ⟨by rfl, ?_⟩) (by assumption) (fun _ _ _ h => h) ?_
          rotate_left 1
          · (intro w_ hSw_; (try dsimp only at hSw_); go_simp; (try with_reducible rfl))
          (try simp only [Act.put, Lp0, Lp1, Lp2])
          refine' tk (i := 61) rfl (by decide +kernel) (Or.inl ⟨by rfl, ?_⟩) (by assumption) (fun _ _ _ h => h) ?_
          rotate_left 1
          · (intro w_ hSw_; (try dsimp only at hSw_); go_simp; (try with_reducible rfl))
          (try simp only [Act.put, Lp0, Lp1, Lp2])
          refine' tk (i := 62) rfl (by decide +kernel) (Or.inl ⟨by rfl, ?_⟩) (by assumption) (fun _ _ _ h => h) ?_
          rotate_left 1
          · (intro w_ hSw_; (try dsimp only at hSw_); go_simp; (try with_reducible rfl))
          (try simp only [Act.put, Lp0, Lp1, Lp2])
          refine tk (i := 63) rfl (by decide +kernel) (yieldsIf_load_mid (by rfl) _ _ (by rfl) (gI) (0) (by rfl) ([.bool eF.b, .slice eF.A eF.n eF.c, .bool fF.b, .slice fF.A fF.n fF.c]) _ (fun w_ hS_ => subF.out w_ gI hS_.2.2.2.1) hU26 (by first | rfl | assumption) T26i) (by assumption) (fun _ _ _ h => h) ?_
          (try simp only [Act.put, Lp0, Lp1, Lp2])
          refine br1 (i := 64) (by decide +kernel) rfl (fun K hK => ?_)
          go_simp
          ((with_reducible refine (HO21.out _).mono ?_); rintro e v11 ⟨d0, d1, rfl, zd0, zd1, od0, od1, hq_⟩; (try simp only [cellsM, ZE.cells, List.cons_append, List.nil_append]); have qv11 : Below y2.heap.size y2 v11 := bel_step BG hq_; have wv11 : Below v10.heap.size v10 v11 := bel_step BG hq_; have RH := rng_below hRH.out qv11; have RP := rng_below hRP.out qv11; have RA := rng_below hRA.out qv11; have RI := rng_below hRI.out qv11; have RN := rng_below hRN.out qv11; have RT := rng_below hRT.out qv11)
          (try go_wp2_with fail)
          refine hK.out _ _ ?_ (fun hHeld => ?_)
          · (exact ⟨RH, RP, RA, RI, RN, RT⟩)
          clear hK K
          (try simp only [Act.put, Lp0, Lp1, Lp2])
          refine br1 (i := 65) (by decide +kernel) rfl (fun K hK => ?_)
          go_simp
          ((refine (HS6.out _ qv11 d0 d1 zd0 zd1 od0 od1).mono ?_); rintro e v12 ⟨rfl, hq_⟩; have qv12 : Below y2.heap.size y2 v12 := bel_step qv11 hq_; have RH := rng_below hRH.out qv12; have RP := rng_below hRP.out qv12; have RA := rng_below hRA.out qv12; have RI := rng_below hRI.out qv12; have RN := rng_below hRN.out qv12; have RT := rng_below hRT.out qv12)
          (try go_wp2_with fail)
          refine hK.out _ _ ?_ (fun hHeld => ?_)
          · (exact ⟨RH, RP, RA, RI, RN, RT⟩)
          clear hK K
          (try simp only [Act.put, Lp0, Lp1, Lp2])
          refine' tk (i := 66) rfl (by decide +kernel) (Or.inl ⟨by rfl, ?_⟩) (by assumption) (fun _ _ _ h => h) ?_
          rotate_left 1
          · (intro w_ hSw_; (try dsimp only at hSw_); go_simp; (try with_reducible rfl))
          (try simp only [Act.put, Lp0, Lp1, Lp2])
          refine' tk (i := 67) rfl (by decide +kernel) (Or.inl ⟨by rfl, ?_⟩) (by assumption) (fun _ _ _ h => h) ?_
          rotate_left 1
          · (intro w_ hSw_; (try dsimp only at hSw_); go_simp; (try with_reducible rfl))
          (try simp only [Act.put, Lp0, Lp1, Lp2])
          refine tk (i := 68) rfl (by decide +kernel) (yieldsIf_load_mid (by rfl) _ _ (by rfl) (gA) (0) (by rfl) (cellsM (zl rA)) _ (fun w_ hS_ => hS_.2.2.1) hU32 (by first | rfl | assumption) hi36A.out) (by assumption) (fun _ _ _ h => h) ?_
          (try simp only [Act.put, Lp0, Lp1, Lp2])
          refine tk (i := 69) rfl (by decide +kernel) (yieldsIf_load_mid (by rfl) _ _ (by rfl) (gI) (0) (by rfl) (cellsM (zl rI)) _ (fun w_ hS_ => hS_.2.2.2.1) hU32 (by first | rfl | assumption) hi36I.out) (by assumption) (fun _ _ _ h => h) ?_
          (try simp only [Act.put, Lp0, Lp1, Lp2])
          refine br1 (i := 70) (by decide +kernel) rfl (fun K hK => ?_)
          go_simp
          ((refine (HEq.out _ BG).mono ?_); rintro e v13 ⟨rfl, hq_⟩; have qv13 : Below y2.heap.size y2 v13 := bel_step BG hq_; have RH := rng_below hRH.out qv13; have RP := rng_below hRP.out qv13; have RA := rng_below hRA.out qv13; have RI := rng_below hRI.out qv13; have RN := rng_below hRN.out qv13; have RT := rng_below hRT.out qv13)
          (try go_wp2_with fail)
          refine hK.out _ _ ?_ (fun hHeld => ?_)
          · (exact ⟨RH, RP, RA, RI, RN, RT⟩)
          clear hK K
          (try simp only [Act.put, Lp0, Lp1, Lp2])
          refine' tk (i := 71) rfl (by decide +kernel) (Or.inl ⟨by rfl, ?_⟩) (by assumption) (fun _ _ _ h => h) ?_
          rotate_left 1
          · (intro w_ hSw_; (try dsimp only at hSw_); go_simp; (try with_reducible rfl))
          (try simp only [Act.put, Lp0, Lp1, Lp2])
          refine' tk (i := 72) rfl (by decide +kernel) (Or.inl ⟨by rfl, ?_⟩) (by assumption) (fun _ _ _ h => h) ?_
          rotate_left 1
          · (intro w_ hSw_; (try dsimp only at hSw_); go_simp; (try with_reducible rfl))
          (try simp only [Act.put, Lp0, Lp1, Lp2])
          refine' tk (i := 73) rfl (by decide +kernel) (Or.inl ⟨by rfl, ?_⟩) (by assumption) (fun _ _ _ h => h) ?_
          rotate_left 1
          · (intro w_ hSw_; (try dsimp only at hSw_); go_simp; (try with_reducible rfl))
          (try simp only [Act.put, Lp0, Lp1, Lp2])
          refine wpAnyH_done (by kernel_rfl) ?_ _
          go_wp2
          go_ret
          exact ⟨rfl, bel_step HB qv13⟩
end Go.Proofs.Ytgnfobnkhjlbbaa
