/- The law HomographyNormal: its walk. Conditions: none. -/
import Derived.Test.YtgnfobnkhjlbbaaGreatZXA
import Derived.Test.YtgnfobnkhjlbbaaGreatZXD
set_option linter.unusedVariables false
set_option linter.unusedSimpArgs false
namespace Go.Proofs.YtgnfobnkhjlbbaaGreat
open Go.RowKit Big
theorem LRIdentity_h {w : World} : Calls Tryz.prog 28 #[] w (fun e w' => ∃ rf : List Rf, rf.length = 9 ∧ e = .returned (.agg (cellsM (zl rf)).toArray) ∧ (zl rf).map (·.z) = homZ id9 ∧ (∀ x ∈ zl rf, x.ok w') ∧ (∀ f ∈ rf, f.mg w') ∧ Below w.heap.size w w') :=
 HRIdentity_g.mono fun e w' h => by
  obtain ⟨l, rfl, hz, ho, hb⟩ := h
  obtain ⟨h1, h2, h3⟩ := toRf_zl 9 l (by rw [← List.length_map (·.z), hz]; rfl) ho
  exact ⟨toRf l, h2, by rw [h1], by rw [h1, hz], by rw [h1]; exact ho, h3, hb⟩
set_option maxRecDepth 100000 in
set_option maxHeartbeats 8000000 in
theorem HomographyNormal_law (fs gs : List Rf) (h9 : fs.length = 9) (h9' : gs.length = 9) {w : World} (hm : ∀ f ∈ fs, f.mg w) (hm' : ∀ f ∈ gs, f.mg w) (hex : ∀ W : World, Calls Tryz.prog 11 #[] W (RetB W true)) :
  Calls Tryz.prog 7 #[.agg (cellsM (zl fs)).toArray, .agg (cellsM (zl gs)).toArray] w (RetB w true) := by
 have hl : (zl fs).length = 18 := by rw [zl_len, h9]
 have hl' : (zl gs).length = 18 := by rw [zl_len, h9']
 have hi := hid (show (Tryz.prog.info? 32).map (·.size) = some (cellsM (zl fs)).length by rw [cellsM_len, hl]; exact T32i)
 have hi' := hid (show (Tryz.prog.info? 32).map (·.size) = some (cellsM (zl gs)).length by rw [cellsM_len, hl']; exact T32i)
 have HEx := hid hex
 have H1 := hid fun (W : World) (h : Below w.heap.size w W) => LNormal_h h9 (w := W) (fun f hf => (hm f hf).below h)
 have H2 := hid fun (W : World) (h : Below w.heap.size w W) => (HRNormal_g fs h9 (w := W) (fun f hf => (hm f hf).below h)).mono (R' := RetH W (oneE id fs)) fun e w' h => h.h (oneE_len (nrmZ_len h9))
 have HV1 := hid fun (W : World) (h : Below w.heap.size w W) => HValid_g fs h9 (w := W) (fun f hf => (hm f hf).below h)
 have HV2 := hid fun (W : World) (h : Below w.heap.size w W) => HRValid_g fs h9 (w := W) (fun f hf => (hm f hf).below h)
 have HE1 := hid fun (W : World) (h : Below w.heap.size w W) => HEqual_g fs gs h9 h9' (w := W) (fun f hf => (hm f hf).below h) (fun f hf => (hm' f hf).below h)
 have HE2 := hid fun (W : World) (h : Below w.heap.size w W) => HREqual_g fs gs h9 h9' (w := W) (fun f hf => (hm f hf).below h) (fun f hf => (hm' f hf).below h)
 obtain ⟨⟨q1, e1⟩, hq1⟩ : ∃ q, oneE id fs = q := ⟨_, rfl⟩
 rw [hq1] at H1 H2
 generalize nrmB fs = NB at *
 generalize eqB fs gs = EB at *
 clear hm hm' hex hq1
 have hFl : ∀ (v : World) (rf : List Rf), rf.length = 9 → (storeCells ⟨v.heap.size, 0, none⟩ (cellsM (zl rf))).run Tryz.prog (v.alloc (.cells (cellsM zeros18).toArray 32)) = .ok () (v.alloc (.cells (cellsM (zl rf)).toArray 32)) := fun v rf h => store_newN (P := Tryz.prog) (w := v) (l := zl rf) (zs := cellsM zeros18) 32 (by rw [cellsM_len, zl_len, h]; rfl) T32i
 simp only [zeros18, List.replicate, cellsM, ZE.cells, ZE.zero, List.cons_append, List.nil_append] at hFl
 have hFl := hid hFl
 obtain ⟨d32, hU32, row32⟩ := T32u
 go_enter Tryz.func7, Tryz.ntmps7
 go_upto_region 1 with fail
 refine enterR2 (P := fun u => Code.wp _ _ _ _ u) ?_
 intro u HB r0 r1 zn0 zn1 hsz
 clear hsz zn0 zn1
 go_wp2_with (first | refine wpList_load_mid (by rfl) _ _ (by rfl) (w.heap.size) 0 (by rfl) (cellsM (zl fs)) _ r0 hU32 row32 hi.out ?_ | fail)
 refine (H1.out u HB).mono ?_
 rintro e x1 ⟨rf1, h91, rfl, hz1, ok1, mg1, hq_⟩
 have F1 := hFl.out x1 rf1 h91
 have h361 : (cellsM (zl rf1)).length = 36 := by rw [cellsM_len, zl_len, h91]
 go_upto_region 2 with fail
 refine enterR (P := fun u => Code.wp _ _ _ _ u) ?_
 intro v1 hv_ s1 sz_ hsz
 have qv1 := bel_step hq_ hv_
 have lx1 : x1.heap.size < v1.heap.size := sz_.lt
 have hi1 := hid (show (Tryz.prog.info? 32).map (·.size) = some (cellsM (zl rf1)).length by rw [h361]; exact T32i)
 have r0 := rng_below r0 qv1
 have r1 := rng_below r1 qv1
 have ok1 : ∀ e ∈ zl rf1, e.ok v1 := fun e he => (ok1 e he).below hv_
 have mg1 : ∀ f ∈ rf1, f.mg v1 := fun f hf => (mg1 f hf).below hv_
 have HB := bel_step HB qv1
 clear F1 sz_ hsz hv_ hq_ h361
 go_wp2_with (first | refine wpList_load_mid (by rfl) _ _ (by rfl) (w.heap.size) 0 (by rfl) (cellsM (zl fs)) _ r0 hU32 row32 hi.out ?_ | fail)
 refine (H2.out v1 HB).mono ?_
 rintro e x2 ⟨rf2, h92, rfl, hz2, ok2, mg2, hq_⟩
 have F1 := hFl.out x2 rf2 h92
 have h362 : (cellsM (zl rf2)).length = 36 := by rw [cellsM_len, zl_len, h92]
 go_upto_region 3 with fail
 refine enterR (P := fun u => Code.wp _ _ _ _ u) ?_
 intro v2 hv_ s2 sz_ hsz
 have qv2 := bel_step hq_ hv_
 have lx2 : x2.heap.size < v2.heap.size := sz_.lt
 have hi2 := hid (show (Tryz.prog.info? 32).map (·.size) = some (cellsM (zl rf2)).length by rw [h362]; exact T32i)
 have r0 := rng_below r0 qv2
 have r1 := rng_below r1 qv2
 have s1 := rng_below s1 qv2
 have ok2 : ∀ e ∈ zl rf2, e.ok v2 := fun e he => (ok2 e he).below hv_
 have mg2 : ∀ f ∈ rf2, f.mg v2 := fun f hf => (mg2 f hf).below hv_
 have HB := bel_step HB qv2
 clear F1 sz_ hsz hv_ hq_ h362
 have HQ1 := hid fun (W : World) (h : Below v2.heap.size v2 W) => Lequal_g (w := W) h91 h92 (fun e he => ((ok1 e he).below qv2).below h) (fun e he => (ok2 e he).below h) true (by rw [hz1, hz2]; simp)
 clear hz1 hz2 ok1 ok2 mg1 mg2 H1 H2
 (try dsimp only at *)
 have HBu := Below.refl v2.heap.size v2
 refine wp_region_held_drew (S := fun w' => w'.rangeAt w.heap.size 0 (cellsM (zl fs)) ∧ w'.rangeAt (w.heap.size + 1) 0 (cellsM (zl gs)) ∧ w'.rangeAt x1.heap.size 0 (cellsM (zl rf1)) ∧ w'.rangeAt x2.heap.size 0 (cellsM (zl rf2))) (by kernel_rfl) ?_ (fun hHeld => ?_)
 ·exact ⟨r0, r1, s1, s2⟩
 refine tk (i := 0) rfl (by decide +kernel) (yieldsIf_load_mid (by rfl) _ _ (by rfl) (x1.heap.size) (0) (by rfl) (cellsM (zl rf1)) _ (fun w_ hS_ => hS_.2.2.1) hU32 (by first | rfl | assumption) hi1.out) (by assumption) (fun _ _ _ h => h) ?_
 (try simp only [Act.put, Lp0, Lp1, Lp2])
 refine tk (i := 1) rfl (by decide +kernel) (yieldsIf_load_mid (by rfl) _ _ (by rfl) (x2.heap.size) (0) (by rfl) (cellsM (zl rf2)) _ (fun w_ hS_ => hS_.2.2.2) hU32 (by first | rfl | assumption) hi2.out) (by assumption) (fun _ _ _ h => h) ?_
 (try simp only [Act.put, Lp0, Lp1, Lp2])
 refine br1 (i := 2) (by decide +kernel) rfl (fun K hK => ?_)
 go_simp
 ((refine (HQ1.out _ (by repeat' (first | with_reducible assumption | apply Bv | apply Bw | apply Bd | apply Bn | apply Bs | apply Ba | omega | simp only [sA, sS, sD]))).mono ?_); rintro e y1 ⟨rfl, hq_⟩; have qy1 : Below v2.heap.size v2 y1 := bel_step (by repeat' (first | with_reducible assumption | apply Bv | apply Bw | apply Bd | apply Bn | apply Bs | apply Ba | omega | simp only [sA, sS, sD])) hq_; have wy1 : Below v2.heap.size v2 y1 := bel_step (by repeat' (first | with_reducible assumption | apply Bv | apply Bw | apply Bd | apply Bn | apply Bs | apply Ba | omega | simp only [sA, sS, sD])) hq_; have r0 := rng_below r0 wy1; have r1 := rng_below r1 wy1; have s1 := rng_below s1 wy1; have s2 := rng_below s2 wy1)
 (try go_wp2_with fail)
 refine hK.out _ _ ?_ (fun hHeld => ?_)
 ·(exact ⟨r0, r1, s1, s2⟩)
 clear hK K
 (try simp only [Act.put, Lp0, Lp1, Lp2])
 refine' tk (i := 3) rfl (by decide +kernel) (Or.inl ⟨by rfl, ?_⟩) (by assumption) (fun _ _ _ h => h) ?_
 rotate_left 1
 ·(intro w_ hSw_; (try dsimp only at hSw_); go_simp; (try with_reducible rfl))
 (try simp only [Act.put, Lp0, Lp1, Lp2])
 refine' tk (i := 4) rfl (by decide +kernel) (Or.inl ⟨by rfl, ?_⟩) (by assumption) (fun _ _ _ h => h) ?_
 rotate_left 1
 ·(intro w_ hSw_; (try dsimp only at hSw_); go_simp; (try with_reducible rfl))
 (try simp only [Act.put, Lp0, Lp1, Lp2])
 refine' tk (i := 5) rfl (by decide +kernel) (Or.inl ⟨by rfl, ?_⟩) (by assumption) (fun _ _ _ h => h) ?_
 rotate_left 1
 ·(intro w_ hSw_; (try dsimp only at hSw_); go_simp; (try with_reducible rfl))
 (try simp only [Act.put, Lp0, Lp1, Lp2])
 refine' tk (i := 6) rfl (by decide +kernel) (Or.inl ⟨by rfl, ?_⟩) (by assumption) (fun _ _ _ h => h) ?_
 rotate_left 1
 ·(intro w_ hSw_; (try dsimp only at hSw_); go_simp; (try with_reducible rfl))
 (try simp only [Act.put, Lp0, Lp1, Lp2])
 refine' tk (i := 7) rfl (by decide +kernel) (Or.inl ⟨by rfl, ?_⟩) (by assumption) (fun _ _ _ h => h) ?_
 rotate_left 1
 ·(intro w_ hSw_; (try dsimp only at hSw_); go_simp; (try with_reducible rfl))
 (try simp only [Act.put, Lp0, Lp1, Lp2])
 refine' tk (i := 8) rfl (by decide +kernel) (Or.inl ⟨by rfl, ?_⟩) (by assumption) (fun _ _ _ h => h) ?_
 rotate_left 1
 ·(intro w_ hSw_; (try dsimp only at hSw_); go_simp; (try with_reducible rfl))
 (try simp only [Act.put, Lp0, Lp1, Lp2])
 refine tk (i := 9) rfl (by decide +kernel) (yieldsIf_load_mid (by rfl) _ _ (by rfl) (w.heap.size) (0) (by rfl) (cellsM (zl fs)) _ (fun w_ hS_ => hS_.1) hU32 (by first | rfl | assumption) hi.out) (by assumption) (fun _ _ _ h => h) ?_
 (try simp only [Act.put, Lp0, Lp1, Lp2])
 refine tk (i := 11) rfl (by decide +kernel) (yieldsIf_load_mid (by rfl) _ _ (by rfl) (w.heap.size) (0) (by rfl) (cellsM (zl fs)) _ (fun w_ hS_ => hS_.1) hU32 (by first | rfl | assumption) hi.out) (by assumption) (fun _ _ _ h => h) ?_
 (try simp only [Act.put, Lp0, Lp1, Lp2])
 refine br1 (i := 10) (by decide +kernel) rfl (fun K hK => ?_)
 go_simp
 ((refine (HV1.out _ (bel_step HB qy1)).mono ?_); rintro e y2 ⟨rfl, hq_⟩; have qy2 : Below v2.heap.size v2 y2 := bel_step (by repeat' (first | with_reducible assumption | apply Bv | apply Bw | apply Bd | apply Bn | apply Bs | apply Ba | omega | simp only [sA, sS, sD])) hq_; have wy2 : Below y1.heap.size y1 y2 := bel_step (by repeat' (first | with_reducible assumption | apply Bv | apply Bw | apply Bd | apply Bn | apply Bs | apply Ba | omega | simp only [sA, sS, sD])) hq_; have r0 := rng_below r0 wy2; have r1 := rng_below r1 wy2; have s1 := rng_below s1 wy2; have s2 := rng_below s2 wy2)
 (try go_wp2_with fail)
 refine hK.out _ _ ?_ (fun hHeld => ?_)
 ·(exact ⟨r0, r1, s1, s2⟩)
 clear hK K
 (try simp only [Act.put, Lp0, Lp1, Lp2])
 refine br1 (i := 12) (by decide +kernel) rfl (fun K hK => ?_)
 go_simp
 ((refine (HV2.out _ (bel_step HB qy2)).mono ?_); rintro e y3 ⟨rfl, hq_⟩; have qy3 : Below v2.heap.size v2 y3 := bel_step (by repeat' (first | with_reducible assumption | apply Bv | apply Bw | apply Bd | apply Bn | apply Bs | apply Ba | omega | simp only [sA, sS, sD])) hq_; have wy3 : Below y2.heap.size y2 y3 := bel_step (by repeat' (first | with_reducible assumption | apply Bv | apply Bw | apply Bd | apply Bn | apply Bs | apply Ba | omega | simp only [sA, sS, sD])) hq_; have r0 := rng_below r0 wy3; have r1 := rng_below r1 wy3; have s1 := rng_below s1 wy3; have s2 := rng_below s2 wy3)
 (try go_wp2_with fail)
 refine hK.out _ _ ?_ (fun hHeld => ?_)
 ·(exact ⟨r0, r1, s1, s2⟩)
 clear hK K
 (try simp only [Act.put, Lp0, Lp1, Lp2])
 refine' tk (i := 13) rfl (by decide +kernel) (Or.inl ⟨by rfl, ?_⟩) (by assumption) (fun _ _ _ h => h) ?_
 rotate_left 1
 ·(intro w_ hSw_; (try dsimp only at hSw_); go_simp; (try with_reducible rfl))
 (try simp only [Act.put, Lp0, Lp1, Lp2])
 refine' tk (i := 14) rfl (by decide +kernel) (Or.inl ⟨by rfl, ?_⟩) (by assumption) (fun _ _ _ h => h) ?_
 rotate_left 1
 ·(intro w_ hSw_; (try dsimp only at hSw_); go_simp; (try with_reducible rfl))
 (try simp only [Act.put, Lp0, Lp1, Lp2])
 refine' tk (i := 15) rfl (by decide +kernel) (Or.inl ⟨by rfl, ?_⟩) (by assumption) (fun _ _ _ h => h) ?_
 rotate_left 1
 ·(intro w_ hSw_; (try dsimp only at hSw_); go_simp; (try with_reducible rfl))
 (try simp only [Act.put, Lp0, Lp1, Lp2])
 refine tk (i := 16) rfl (by decide +kernel) (yieldsIf_load_mid (by rfl) _ _ (by rfl) (w.heap.size) (0) (by rfl) (cellsM (zl fs)) _ (fun w_ hS_ => hS_.1) hU32 (by first | rfl | assumption) hi.out) (by assumption) (fun _ _ _ h => h) ?_
 (try simp only [Act.put, Lp0, Lp1, Lp2])
 refine tk (i := 17) rfl (by decide +kernel) (yieldsIf_load_mid (by rfl) _ _ (by rfl) (w.heap.size + 1) (0) (by rfl) (cellsM (zl gs)) _ (fun w_ hS_ => hS_.2.1) hU32 (by first | rfl | assumption) hi'.out) (by assumption) (fun _ _ _ h => h) ?_
 (try simp only [Act.put, Lp0, Lp1, Lp2])
 refine tk (i := 19) rfl (by decide +kernel) (yieldsIf_load_mid (by rfl) _ _ (by rfl) (w.heap.size) (0) (by rfl) (cellsM (zl fs)) _ (fun w_ hS_ => hS_.1) hU32 (by first | rfl | assumption) hi.out) (by assumption) (fun _ _ _ h => h) ?_
 (try simp only [Act.put, Lp0, Lp1, Lp2])
 refine tk (i := 20) rfl (by decide +kernel) (yieldsIf_load_mid (by rfl) _ _ (by rfl) (w.heap.size + 1) (0) (by rfl) (cellsM (zl gs)) _ (fun w_ hS_ => hS_.2.1) hU32 (by first | rfl | assumption) hi'.out) (by assumption) (fun _ _ _ h => h) ?_
 (try simp only [Act.put, Lp0, Lp1, Lp2])
 refine br1 (i := 18) (by decide +kernel) rfl (fun K hK => ?_)
 go_simp
 ((refine (HE1.out _ (bel_step HB qy3)).mono ?_); rintro e y4 ⟨rfl, hq_⟩; have qy4 : Below v2.heap.size v2 y4 := bel_step (by repeat' (first | with_reducible assumption | apply Bv | apply Bw | apply Bd | apply Bn | apply Bs | apply Ba | omega | simp only [sA, sS, sD])) hq_; have wy4 : Below y3.heap.size y3 y4 := bel_step (by repeat' (first | with_reducible assumption | apply Bv | apply Bw | apply Bd | apply Bn | apply Bs | apply Ba | omega | simp only [sA, sS, sD])) hq_; have r0 := rng_below r0 wy4; have r1 := rng_below r1 wy4; have s1 := rng_below s1 wy4; have s2 := rng_below s2 wy4)
 (try go_wp2_with fail)
 refine hK.out _ _ ?_ (fun hHeld => ?_)
 ·(exact ⟨r0, r1, s1, s2⟩)
 clear hK K
 (try simp only [Act.put, Lp0, Lp1, Lp2])
 refine br1 (i := 21) (by decide +kernel) rfl (fun K hK => ?_)
 go_simp
 ((refine (HE2.out _ (bel_step HB qy4)).mono ?_); rintro e y5 ⟨rfl, hq_⟩; have qy5 : Below v2.heap.size v2 y5 := bel_step (by repeat' (first | with_reducible assumption | apply Bv | apply Bw | apply Bd | apply Bn | apply Bs | apply Ba | omega | simp only [sA, sS, sD])) hq_; have wy5 : Below y4.heap.size y4 y5 := bel_step (by repeat' (first | with_reducible assumption | apply Bv | apply Bw | apply Bd | apply Bn | apply Bs | apply Ba | omega | simp only [sA, sS, sD])) hq_; have r0 := rng_below r0 wy5; have r1 := rng_below r1 wy5; have s1 := rng_below s1 wy5; have s2 := rng_below s2 wy5)
 (try go_wp2_with fail)
 refine hK.out _ _ ?_ (fun hHeld => ?_)
 ·(exact ⟨r0, r1, s1, s2⟩)
 clear hK K
 (try simp only [Act.put, Lp0, Lp1, Lp2])
 refine' tk (i := 22) rfl (by decide +kernel) (Or.inl ⟨by rfl, ?_⟩) (by assumption) (fun _ _ _ h => h) ?_
 rotate_left 1
 ·(intro w_ hSw_; (try dsimp only at hSw_); go_simp; (try with_reducible rfl))
 (try simp only [Act.put, Lp0, Lp1, Lp2])
 refine' tk (i := 23) rfl (by decide +kernel) (Or.inl ⟨by rfl, ?_⟩) (by assumption) (fun _ _ _ h => h) ?_
 rotate_left 1
 ·(intro w_ hSw_; (try dsimp only at hSw_); go_simp; (try with_reducible rfl))
 (try simp only [Act.put, Lp0, Lp1, Lp2])
 refine' tk (i := 24) rfl (by decide +kernel) (Or.inl ⟨by rfl, ?_⟩) (by assumption) (fun _ _ _ h => h) ?_
 rotate_left 1
 ·(intro w_ hSw_; (try dsimp only at hSw_); go_simp; (try with_reducible rfl))
 (try simp only [Act.put, Lp0, Lp1, Lp2])
 refine br1 (i := 25) (by decide +kernel) rfl (fun K hK => ?_)
 go_simp
 ((refine (LIdentity_h).mono ?_); rintro e y6 ⟨ri1, hi91, rfl, zi1, oi1, mi1, hq_⟩; have qy6 : Below v2.heap.size v2 y6 := bel_step (by repeat' (first | with_reducible assumption | apply Bv | apply Bw | apply Bd | apply Bn | apply Bs | apply Ba | omega | simp only [sA, sS, sD])) hq_; have wy6 : Below y5.heap.size y5 y6 := bel_step (by repeat' (first | with_reducible assumption | apply Bv | apply Bw | apply Bd | apply Bn | apply Bs | apply Ba | omega | simp only [sA, sS, sD])) hq_; have r0 := rng_below r0 wy6; have r1 := rng_below r1 wy6; have s1 := rng_below s1 wy6; have s2 := rng_below s2 wy6)
 (try go_wp2_with fail)
 refine hK.out _ _ ?_ (fun hHeld => ?_)
 ·(exact ⟨r0, r1, s1, s2⟩)
 clear hK K
 (try simp only [Act.put, Lp0, Lp1, Lp2])
 refine br1 (i := 26) (by decide +kernel) rfl (fun K hK => ?_)
 go_simp
 ((refine (LRIdentity_h).mono ?_); rintro e y7 ⟨ri2, hi92, rfl, zi2, oi2, mi2, hq_⟩; have qy7 : Below v2.heap.size v2 y7 := bel_step (by repeat' (first | with_reducible assumption | apply Bv | apply Bw | apply Bd | apply Bn | apply Bs | apply Ba | omega | simp only [sA, sS, sD])) hq_; have wy7 : Below y6.heap.size y6 y7 := bel_step (by repeat' (first | with_reducible assumption | apply Bv | apply Bw | apply Bd | apply Bn | apply Bs | apply Ba | omega | simp only [sA, sS, sD])) hq_; have r0 := rng_below r0 wy7; have r1 := rng_below r1 wy7; have s1 := rng_below s1 wy7; have s2 := rng_below s2 wy7)
 (try go_wp2_with fail)
 refine hK.out _ _ ?_ (fun hHeld => ?_)
 ·(exact ⟨r0, r1, s1, s2⟩)
 clear hK K
 (try simp only [Act.put, Lp0, Lp1, Lp2])
 refine br1 (i := 27) (by decide +kernel) rfl (fun K hK => ?_)
 go_simp
 ((refine (Lequal_g hi91 hi92 (fun e he => (oi1 e he).below wy7) oi2 true (by rw [zi1, zi2]; simp)).mono ?_); rintro e y8 ⟨rfl, hq_⟩; have qy8 : Below v2.heap.size v2 y8 := bel_step (by repeat' (first | with_reducible assumption | apply Bv | apply Bw | apply Bd | apply Bn | apply Bs | apply Ba | omega | simp only [sA, sS, sD])) hq_; have wy8 : Below y7.heap.size y7 y8 := bel_step (by repeat' (first | with_reducible assumption | apply Bv | apply Bw | apply Bd | apply Bn | apply Bs | apply Ba | omega | simp only [sA, sS, sD])) hq_; have r0 := rng_below r0 wy8; have r1 := rng_below r1 wy8; have s1 := rng_below s1 wy8; have s2 := rng_below s2 wy8)
 (try go_wp2_with fail)
 refine hK.out _ _ ?_ (fun hHeld => ?_)
 ·(exact ⟨r0, r1, s1, s2⟩)
 clear hK K
 (try simp only [Act.put, Lp0, Lp1, Lp2])
 refine' tk (i := 28) rfl (by decide +kernel) (Or.inl ⟨by rfl, ?_⟩) (by assumption) (fun _ _ _ h => h) ?_
 rotate_left 1
 ·(intro w_ hSw_; (try dsimp only at hSw_); go_simp; (try with_reducible rfl))
 (try simp only [Act.put, Lp0, Lp1, Lp2])
 refine' tk (i := 29) rfl (by decide +kernel) (Or.inl ⟨by rfl, ?_⟩) (by assumption) (fun _ _ _ h => h) ?_
 rotate_left 1
 ·(intro w_ hSw_; (try dsimp only at hSw_); go_simp; (try with_reducible rfl))
 (try simp only [Act.put, Lp0, Lp1, Lp2])
 refine br1 (i := 30) (by decide +kernel) rfl (fun K hK => ?_)
 go_simp
 ((refine (HEx.out _).mono ?_); rintro e y9 ⟨rfl, hq_⟩; have qy9 : Below v2.heap.size v2 y9 := bel_step (by repeat' (first | with_reducible assumption | apply Bv | apply Bw | apply Bd | apply Bn | apply Bs | apply Ba | omega | simp only [sA, sS, sD])) hq_; have wy9 : Below y8.heap.size y8 y9 := bel_step (by repeat' (first | with_reducible assumption | apply Bv | apply Bw | apply Bd | apply Bn | apply Bs | apply Ba | omega | simp only [sA, sS, sD])) hq_; have r0 := rng_below r0 wy9; have r1 := rng_below r1 wy9; have s1 := rng_below s1 wy9; have s2 := rng_below s2 wy9)
 (try go_wp2_with fail)
 refine hK.out _ _ ?_ (fun hHeld => ?_)
 ·(exact ⟨r0, r1, s1, s2⟩)
 clear hK K
 (try simp only [Act.put, Lp0, Lp1, Lp2])
 refine' tk (i := 31) rfl (by decide +kernel) (Or.inl ⟨by rfl, ?_⟩) (by assumption) (fun _ _ _ h => h) ?_
 rotate_left 1
 ·(intro w_ hSw_; (try dsimp only at hSw_); go_simp; (try with_reducible rfl))
 (try simp only [Act.put, Lp0, Lp1, Lp2])
 refine' tk (i := 32) rfl (by decide +kernel) (Or.inl ⟨by rfl, ?_⟩) (by assumption) (fun _ _ _ h => h) ?_
 rotate_left 1
 ·(intro w_ hSw_; (try dsimp only at hSw_); go_simp; (try with_reducible rfl))
 (try simp only [Act.put, Lp0, Lp1, Lp2])
 refine wpAnyH_done (by kernel_rfl) ?_ _
 go_wp2
 go_ret
 exact ⟨rfl, bel_step HB qy9⟩
end Go.Proofs.YtgnfobnkhjlbbaaGreat
