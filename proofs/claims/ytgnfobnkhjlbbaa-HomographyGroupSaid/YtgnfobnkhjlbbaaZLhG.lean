/- The law HomographyGroup: its walk. Conditions: none. -/
import Derived.Test.YtgnfobnkhjlbbaaZXA
import Derived.Test.YtgnfobnkhjlbbaaZYZ
set_option linter.unusedVariables false
set_option linter.unusedSimpArgs false
namespace Go.Proofs.Ytgnfobnkhjlbbaa
open Go.RowKit Big

theorem pt_q {w : World} {rf : List Rf} {f g : Int × Nat} (hz : (zl rf).map (·.z) = frZ [f, g]) (ok : ∀ e ∈ zl rf, e.ok w) : frZ (rf.map Rf.f) = frZ [f, g] := by
  have := (toRf_f [f, g] (zl rf) hz ok).1
  rw [toRf_self] at this
  rw [this]
set_option maxRecDepth 100000 in
set_option maxHeartbeats 16000000 in
theorem HomographyGroup_law (fs gs hs ps : List Rf) (h9 : fs.length = 9) (h9' : gs.length = 9) (h9'' : hs.length = 9) (h2 : ps.length = 2) {w : World} (hm : ∀ f ∈ fs, f.mg w) (hm' : ∀ f ∈ gs, f.mg w) (hm'' : ∀ f ∈ hs, f.mg w) (hmp : ∀ f ∈ ps, f.mg w) (hex : ∀ W : World, Calls Try.prog 8 #[] W (RetB W true)) :
    Calls Try.prog 5 #[.agg (cellsM (zl fs)).toArray, .agg (cellsM (zl gs)).toArray, .agg (cellsM (zl hs)).toArray, .agg (cellsM (zl ps)).toArray] w (RetB w true) := by
  have ha := hid (show (Try.prog.info? 32).map (·.size) = some (cellsM (zl fs)).length by rw [cellsM_len, zl_len, h9]; exact T32i)
  have hb := hid (show (Try.prog.info? 32).map (·.size) = some (cellsM (zl gs)).length by rw [cellsM_len, zl_len, h9']; exact T32i)
  have hc := hid (show (Try.prog.info? 32).map (·.size) = some (cellsM (zl hs)).length by rw [cellsM_len, zl_len, h9'']; exact T32i)
  have hd := hid (show (Try.prog.info? 28).map (·.size) = some (cellsM (zl ps)).length by rw [cellsM_len, zl_len, h2]; exact T28i)
  have HEx := hid fun (W : World) (_ : Below w.heap.size w W) => hex W
  have Ma := hid fun (W : World) (h : Below w.heap.size w W) f (hf : f ∈ fs) => (hm f hf).below h
  have Mb := hid fun (W : World) (h : Below w.heap.size w W) f (hf : f ∈ gs) => (hm' f hf).below h
  have Mc := hid fun (W : World) (h : Below w.heap.size w W) f (hf : f ∈ hs) => (hm'' f hf).below h
  have Mp := hid fun (W : World) (h : Below w.heap.size w W) f (hf : f ∈ ps) => (hmp f hf).below h
  have HVa := hid fun (W : World) (h : Below w.heap.size w W) => HValid_g fs h9 (w := W) (Ma.out W h)
  have HVb := hid fun (W : World) (h : Below w.heap.size w W) => HValid_g gs h9' (w := W) (Mb.out W h)
  have HVc := hid fun (W : World) (h : Below w.heap.size w W) => HValid_g hs h9'' (w := W) (Mc.out W h)
  have Na := hid fun (h : nrmB fs = true) => nrm_homR h9 hm h
  have Nb := hid fun (h : nrmB gs = true) => nrm_homR h9' hm' h
  have Nc := hid fun (h : nrmB hs = true) => nrm_homR h9'' hm'' h
  obtain ⟨b1, hb1⟩ : ∃ b, nrmB fs = b := ⟨_, rfl⟩
  obtain ⟨b2, hb2⟩ : ∃ b, nrmB gs = b := ⟨_, rfl⟩
  obtain ⟨b3, hb3⟩ : ∃ b, nrmB hs = b := ⟨_, rfl⟩
  rw [hb1] at HVa Na
  rw [hb2] at HVb Nb
  rw [hb3] at HVc Nc
  clear hm hm' hm'' hex hb1 hb2 hb3
  have hFl : ∀ (v : World) (rf : List Rf), rf.length = 9 → (storeCells ⟨v.heap.size, 0, none⟩ (cellsM (zl rf))).run Try.prog (v.alloc (.cells (cellsM zeros18).toArray 32)) = .ok () (v.alloc (.cells (cellsM (zl rf)).toArray 32)) := fun v rf h => store_newN (P := Try.prog) (w := v) (l := zl rf) (zs := cellsM zeros18) 32 (by rw [cellsM_len, zl_len, h]; rfl) T32i
  simp only [zeros18, List.replicate, cellsM, ZE.cells, ZE.zero, List.cons_append, List.nil_append] at hFl
  have hFl := hid hFl
  obtain ⟨d32, hU32, row32⟩ := T32u
  have hFp : ∀ (v : World) (rf : List Rf), rf.length = 2 → (storeCells ⟨v.heap.size, 0, none⟩ (cellsM (zl rf))).run Try.prog (v.alloc (.cells (cellsM zeros4).toArray 28)) = .ok () (v.alloc (.cells (cellsM (zl rf)).toArray 28)) := fun v rf h => store_newN (P := Try.prog) (w := v) (l := zl rf) (zs := cellsM zeros4) 28 (by rw [cellsM_len, zl_len, h]; rfl) T28i
  simp only [zeros4, List.replicate, cellsM, ZE.cells, ZE.zero, List.cons_append, List.nil_append] at hFp
  have hFp := hid hFp
  obtain ⟨d28, hU28, row28⟩ := T28u
  go_enter Try.func5, Try.ntmps5
  go_upto_region 1 with fail
  refine enterR4 (P := fun u => Code.wp _ _ _ _ u) ?_
  intro u HB r0 r1 r2 r3 zn3 hsz
  clear hsz zn3
  cases b1
  · go_wp2_with (first | refine wpList_load_mid (by rfl) _ _ (by rfl) (w.heap.size) 0 (by rfl) (cellsM (zl fs)) _ r0 hU32 row32 ha.out ?_ | fail)
    refine (HVa.out u HB).mono ?_
    rintro e y1 ⟨rfl, hq_⟩
    have r0 := rng_below r0 hq_
    have HB := bel_step HB hq_
    go_wp2_with fail
    refine (HEx.out y1 HB).mono ?_
    rintro e x_ ⟨rfl, hx_⟩
    go_wp2
    go_ret
    exact ⟨by simp, bel_step HB hx_⟩
  · cases b2
    · go_wp2_with (first | refine wpList_load_mid (by rfl) _ _ (by rfl) (w.heap.size) 0 (by rfl) (cellsM (zl fs)) _ r0 hU32 row32 ha.out ?_ | fail)
      refine (HVa.out u HB).mono ?_
      rintro e y1 ⟨rfl, hq_⟩
      have r0 := rng_below r0 hq_
      have r1 := rng_below r1 hq_
      have HB := bel_step HB hq_
      go_wp2_with (first | refine wpList_load_g (by rfl) _ _ (by rfl) (w.heap.size + 1) 0 (by rfl) (cellsM (zl gs)) _ r1 hU32 row32 hb.out ?_ | fail)
      refine (HVb.out y1 HB).mono ?_
      rintro e y2 ⟨rfl, hq_⟩
      have r0 := rng_below r0 hq_
      have HB := bel_step HB hq_
      go_wp2_with fail
      refine (HEx.out y2 HB).mono ?_
      rintro e x_ ⟨rfl, hx_⟩
      go_wp2
      go_ret
      exact ⟨by simp, bel_step HB hx_⟩
    · cases b3
      · go_wp2_with (first | refine wpList_load_mid (by rfl) _ _ (by rfl) (w.heap.size) 0 (by rfl) (cellsM (zl fs)) _ r0 hU32 row32 ha.out ?_ | fail)
        refine (HVa.out u HB).mono ?_
        rintro e y1 ⟨rfl, hq_⟩
        have r0 := rng_below r0 hq_
        have r1 := rng_below r1 hq_
        have r2 := rng_below r2 hq_
        have HB := bel_step HB hq_
        go_wp2_with (first | refine wpList_load_g (by rfl) _ _ (by rfl) (w.heap.size + 1) 0 (by rfl) (cellsM (zl gs)) _ r1 hU32 row32 hb.out ?_ | fail)
        refine (HVb.out y1 HB).mono ?_
        rintro e y2 ⟨rfl, hq_⟩
        have r0 := rng_below r0 hq_
        have r2 := rng_below r2 hq_
        have HB := bel_step HB hq_
        go_wp2_with (first | refine wpList_load_g (by rfl) _ _ (by rfl) (w.heap.size + 1 + 1) 0 (by rfl) (cellsM (zl hs)) _ r2 hU32 row32 hc.out ?_ | fail)
        refine (HVc.out y2 HB).mono ?_
        rintro e y3 ⟨rfl, hq_⟩
        have r0 := rng_below r0 hq_
        have HB := bel_step HB hq_
        go_wp2_with fail
        refine (HEx.out y3 HB).mono ?_
        rintro e x_ ⟨rfl, hx_⟩
        go_wp2
        go_ret
        exact ⟨by simp, bel_step HB hx_⟩
      · go_wp2_with (first | refine wpList_load_mid (by rfl) _ _ (by rfl) (w.heap.size) 0 (by rfl) (cellsM (zl fs)) _ r0 hU32 row32 ha.out ?_ | fail)
        refine (HVa.out u HB).mono ?_
        rintro e y1 ⟨rfl, hq_⟩
        have r0 := rng_below r0 hq_
        have r1 := rng_below r1 hq_
        have r2 := rng_below r2 hq_
        have r3 := rng_below r3 hq_
        have HB := bel_step HB hq_
        go_wp2_with (first | refine wpList_load_g (by rfl) _ _ (by rfl) (w.heap.size + 1) 0 (by rfl) (cellsM (zl gs)) _ r1 hU32 row32 hb.out ?_ | fail)
        refine (HVb.out y1 HB).mono ?_
        rintro e y2 ⟨rfl, hq_⟩
        have r0 := rng_below r0 hq_
        have r1 := rng_below r1 hq_
        have r2 := rng_below r2 hq_
        have r3 := rng_below r3 hq_
        have HB := bel_step HB hq_
        go_wp2_with (first | refine wpList_load_g (by rfl) _ _ (by rfl) (w.heap.size + 1 + 1) 0 (by rfl) (cellsM (zl hs)) _ r2 hU32 row32 hc.out ?_ | fail)
        refine (HVc.out y2 HB).mono ?_
        rintro e y3 ⟨rfl, hq_⟩
        have r0 := rng_below r0 hq_
        have r1 := rng_below r1 hq_
        have r2 := rng_below r2 hq_
        have r3 := rng_below r3 hq_
        have HB := bel_step HB hq_
        obtain ⟨HX, dX, eX, lX⟩ := Na.out (by trivial)
        obtain ⟨HY, dY, eY, lY⟩ := Nb.out (by trivial)
        obtain ⟨HZ, dZ, eZ, lZ⟩ := Nc.out (by trivial)
        clear Na Nb Nc HVa HVb HVc
        go_upto_region 3 with fail
        go_wp2_with fail
        refine LIdentity_h.mono ?_
        rintro e x0 ⟨rf0, h90, rfl, hz0, ok0, mg0, hq_⟩
        have F1 := hFl.out x0 rf0 h90
        have h360 : (cellsM (zl rf0)).length = 36 := by rw [cellsM_len, zl_len, h90]
        go_upto_region 4 with fail
        refine enterR (P := fun u => Code.wp _ _ _ _ u) ?_
        intro v0 hv_ s0 sz_ hsz
        have qv0 := bel_step hq_ hv_
        have hi0 := hid (show (Try.prog.info? 32).map (·.size) = some (cellsM (zl rf0)).length by rw [h360]; exact T32i)
        have r0 := rng_below r0 qv0
        have r1 := rng_below r1 qv0
        have r2 := rng_below r2 qv0
        have r3 := rng_below r3 qv0
        have HI0 := (homR_rf (X := id9) rfl (by rw [redZ_id9]; exact le40_id9) (by rw [redZ_id9]; exact hz0) ok0).below hv_
        have ok0 : ∀ e ∈ zl rf0, e.ok v0 := fun e he => (ok0 e he).below hv_
        have mg0 : ∀ f ∈ rf0, f.mg v0 := fun f hf => (mg0 f hf).below hv_
        have HB := bel_step HB qv0
        clear F1 sz_ hsz hv_ hq_ h360
        have HIa := hid (LInverse_h h9 (w := v0) (Ma.out _ HB))
        have hE1 := hid (resZ_err (adjZ (nrmZ fs)))
        have HI1 := hid fun (rf : List Rf) (W : World) (h0 : (oneE adjZ fs).2 = 0) (hz : (zl rf).map (·.z) = (oneE adjZ fs).1) (ok : ∀ e ∈ zl rf, e.ok W) => resZ_hom (rf := rf) (w := W) (HX.one dX).1 (adjZ_len HX.len) h0 hz ok
        rw [(HX.one dX).1] at HIa HI1
        obtain ⟨⟨q1, e1⟩, hq1⟩ : ∃ q, resZ (adjZ (nrmZ fs)) = q := ⟨_, rfl⟩
        rw [hq1] at HIa hE1 HI1
        clear hq1
        go_wp2_with (first | refine wpList_load_mid (by rfl) _ _ (by rfl) (w.heap.size) 0 (by rfl) (cellsM (zl fs)) _ r0 hU32 row32 ha.out ?_ | fail)
        refine (HIa.out).mono ?_
        rintro e x1 ⟨rf1, h91, rfl, hz1, ok1, mg1, hq_⟩
        have F1 := hFl.out x1 rf1 h91
        have h361 : (cellsM (zl rf1)).length = 36 := by rw [cellsM_len, zl_len, h91]
        go_upto_region 5 with fail
        refine enterR (P := fun u => Code.wp _ _ _ _ u) ?_
        intro v1 hv_ s1 sz_ hsz
        have qv1 := bel_step hq_ hv_
        have lx1 : x1.heap.size < v1.heap.size := sz_.lt
        have hi1 := hid (show (Try.prog.info? 32).map (·.size) = some (cellsM (zl rf1)).length by rw [h361]; exact T32i)
        have r0 := rng_below r0 qv1
        have r1 := rng_below r1 qv1
        have r2 := rng_below r2 qv1
        have r3 := rng_below r3 qv1
        have s0 := rng_below s0 qv1
        have ok1 : ∀ e ∈ zl rf1, e.ok v1 := fun e he => (ok1 e he).below hv_
        have mg1 : ∀ f ∈ rf1, f.mg v1 := fun f hf => (mg1 f hf).below hv_
        have HB := bel_step HB qv1
        clear F1 sz_ hsz hv_ hq_ h361
        rcases hE1.out with rfl | rfl
        · have HI1 := HI1.out rf1 v1 rfl hz1 ok1
          obtain ⟨i1, i2⟩ := grp_inv HX HI1 dX
          have HC2 := hid (LCompose_h h9 h91 (w := v1) (Ma.out _ HB) mg1)
          have HC3 := hid fun (W : World) (h : Below v1.heap.size v1 W) => LCompose_h h91 h9 (w := W) (fun f hf => (mg1 f hf).below h) (Ma.out _ (bel_step HB h))
          rw [i1] at HC2
          rw [i2] at HC3
          go_wp2_with (first | refine wpList_load_mid (by rfl) _ _ (by rfl) (w.heap.size) 0 (by rfl) (cellsM (zl fs)) _ r0 hU32 row32 ha.out ?_ | refine wpList_load_mid (by rfl) _ _ (by rfl) (x1.heap.size) 0 (by rfl) (cellsM (zl rf1)) _ s1 hU32 row32 hi1.out ?_ | fail)
          refine (HC2.out).mono ?_
          rintro e x2 ⟨rf2, h92, rfl, hz2, ok2, mg2, hq_⟩
          have F1 := hFl.out x2 rf2 h92
          have h362 : (cellsM (zl rf2)).length = 36 := by rw [cellsM_len, zl_len, h92]
          go_upto_region 7 with fail
          refine enterR (P := fun u => Code.wp _ _ _ _ u) ?_
          intro v2 hv_ s2 sz_ hsz
          have qv2 := bel_step hq_ hv_
          have lx2 : x2.heap.size < v2.heap.size := sz_.lt
          have hi2 := hid (show (Try.prog.info? 32).map (·.size) = some (cellsM (zl rf2)).length by rw [h362]; exact T32i)
          have r0 := rng_below r0 qv2
          have r1 := rng_below r1 qv2
          have r2 := rng_below r2 qv2
          have r3 := rng_below r3 qv2
          have s0 := rng_below s0 qv2
          have s1 := rng_below s1 qv2
          have ok2 : ∀ e ∈ zl rf2, e.ok v2 := fun e he => (ok2 e he).below hv_
          have mg2 : ∀ f ∈ rf2, f.mg v2 := fun f hf => (mg2 f hf).below hv_
          have HB := bel_step HB qv2
          clear F1 sz_ hsz hv_ hq_ h362
          go_wp2_with (first | refine wpList_load_mid (by rfl) _ _ (by rfl) (w.heap.size) 0 (by rfl) (cellsM (zl fs)) _ r0 hU32 row32 ha.out ?_ | refine wpList_load_mid (by rfl) _ _ (by rfl) (x1.heap.size) 0 (by rfl) (cellsM (zl rf1)) _ s1 hU32 row32 hi1.out ?_ | fail)
          refine (HC3.out v2 qv2).mono ?_
          rintro e x3 ⟨rf3, h93, rfl, hz3, ok3, mg3, hq_⟩
          have F1 := hFl.out x3 rf3 h93
          have h363 : (cellsM (zl rf3)).length = 36 := by rw [cellsM_len, zl_len, h93]
          go_upto_region 8 with fail
          refine enterR (P := fun u => Code.wp _ _ _ _ u) ?_
          intro v3 hv_ s3 sz_ hsz
          have qv3 := bel_step hq_ hv_
          have lx3 : x3.heap.size < v3.heap.size := sz_.lt
          have hi3 := hid (show (Try.prog.info? 32).map (·.size) = some (cellsM (zl rf3)).length by rw [h363]; exact T32i)
          have r0 := rng_below r0 qv3
          have r1 := rng_below r1 qv3
          have r2 := rng_below r2 qv3
          have r3 := rng_below r3 qv3
          have s0 := rng_below s0 qv3
          have s2 := rng_below s2 qv3
          have ok3 : ∀ e ∈ zl rf3, e.ok v3 := fun e he => (ok3 e he).below hv_
          have mg3 : ∀ f ∈ rf3, f.mg v3 := fun f hf => (mg3 f hf).below hv_
          have HB := bel_step HB qv3
          clear F1 sz_ hsz hv_ hq_ h363
          have HQ2 := hid fun (W : World) (h : Below v3.heap.size v3 W) => Lequal_g (w := W) h92 h90 (fun e he => ((ok2 e he).below qv3).below h) (fun e he => ((((ok0 e he).below qv1).below qv2).below qv3).below h) true (by rw [hz2, hz0]; simp)
          have HQ3 := hid fun (W : World) (h : Below v3.heap.size v3 W) => Lequal_g (w := W) h93 h90 (fun e he => (ok3 e he).below h) (fun e he => ((((ok0 e he).below qv1).below qv2).below qv3).below h) true (by rw [hz3, hz0]; simp)
          go_wp2_with (first | refine wpList_load_g (by rfl) _ _ (by rfl) (x2.heap.size) 0 (by rfl) (cellsM (zl rf2)) _ s2 hU32 row32 hi2.out ?_ | refine wpList_load_g (by rfl) _ _ (by rfl) (x0.heap.size) 0 (by rfl) (cellsM (zl rf0)) _ s0 hU32 row32 hi0.out ?_ | fail)
          refine (HQ2.out v3 (Below.refl _ _)).mono ?_
          rintro e y4 ⟨rfl, hy4⟩
          have s0 := rng_below s0 hy4
          have s3 := rng_below s3 hy4
          go_wp2_with (first | refine wpList_load_g (by rfl) _ _ (by rfl) (x3.heap.size) 0 (by rfl) (cellsM (zl rf3)) _ s3 hU32 row32 hi3.out ?_ | refine wpList_load_g (by rfl) _ _ (by rfl) (x0.heap.size) 0 (by rfl) (cellsM (zl rf0)) _ s0 hU32 row32 hi0.out ?_ | fail)
          refine (HQ3.out y4 hy4).mono ?_
          rintro e y5 ⟨rfl, hy5⟩
          have hv35 := bel_step hy4 hy5
          have r0 := rng_below r0 hv35
          have r1 := rng_below r1 hv35
          have r2 := rng_below r2 hv35
          have r3 := rng_below r3 hv35
          have s0 := rng_below s0 hy5
          have HI0 := HI0.below (bel_step qv1 (bel_step qv2 (bel_step qv3 hv35)))
          have HB := bel_step HB hv35
          clear s2 s3 hy4 hy5 hv35 HC2 HC3 HQ2 HQ3 ok1 ok2 ok3 mg1 mg2 mg3 hz1 hz2 hz3 hi1 hi2 hi3 i1 i2 HI1 qv0 qv1 qv2 qv3
          go_upto_region 10 with fail
          have HC4 := hid (LCompose_h h9 h90 (w := y5) (Ma.out _ HB) HI0.m)
          rw [grp_one HX HI0 dX, show resZ (nrmZ fs) = (homZ (nrmZ fs), 0) from by unfold resZ; rw [eX, if_pos lX]] at HC4
          go_wp2_with (first | refine wpList_load_mid (by rfl) _ _ (by rfl) (w.heap.size) 0 (by rfl) (cellsM (zl fs)) _ r0 hU32 row32 ha.out ?_ | refine wpList_load_mid (by rfl) _ _ (by rfl) (x0.heap.size) 0 (by rfl) (cellsM (zl rf0)) _ s0 hU32 row32 hi0.out ?_ | fail)
          refine (HC4.out).mono ?_
          rintro e x4 ⟨rf4, h94, rfl, hz4, ok4, mg4, hq_⟩
          have F1 := hFl.out x4 rf4 h94
          have h364 : (cellsM (zl rf4)).length = 36 := by rw [cellsM_len, zl_len, h94]
          go_upto_region 11 with fail
          refine enterR (P := fun u => Code.wp _ _ _ _ u) ?_
          intro v4 hv_ s4 sz_ hsz
          have qv4 := bel_step hq_ hv_
          have lx4 : x4.heap.size < v4.heap.size := sz_.lt
          have hi4 := hid (show (Try.prog.info? 32).map (·.size) = some (cellsM (zl rf4)).length by rw [h364]; exact T32i)
          have r0 := rng_below r0 qv4
          have r1 := rng_below r1 qv4
          have r2 := rng_below r2 qv4
          have r3 := rng_below r3 qv4
          have ok4 : ∀ e ∈ zl rf4, e.ok v4 := fun e he => (ok4 e he).below hv_
          have mg4 : ∀ f ∈ rf4, f.mg v4 := fun f hf => (mg4 f hf).below hv_
          have HB := bel_step HB qv4
          clear F1 sz_ hsz hv_ hq_ h364
          have HM4 : HomR v4 rf4 (nrmZ fs) := homR_rf (X := nrmZ fs) HX.len (by rw [eX]; exact lX) (by rw [eX]; exact hz4) ok4
          have HQ4 := hid (HEqual_g rf4 fs h94 h9 (w := v4) mg4 (Ma.out _ HB))
          rw [HM4.eqb HX dX dX (Pr.refl _)] at HQ4
          go_wp2_with (first | refine wpList_load_g (by rfl) _ _ (by rfl) (x4.heap.size) 0 (by rfl) (cellsM (zl rf4)) _ s4 hU32 row32 hi4.out ?_ | refine wpList_load_g (by rfl) _ _ (by rfl) (w.heap.size) 0 (by rfl) (cellsM (zl fs)) _ r0 hU32 row32 ha.out ?_ | fail)
          refine (HQ4.out).mono ?_
          rintro e y6 ⟨rfl, hq_⟩
          have r0 := rng_below r0 hq_
          have r1 := rng_below r1 hq_
          have r2 := rng_below r2 hq_
          have r3 := rng_below r3 hq_
          have HB := bel_step HB hq_
          have HC5 := hid (LCompose_h h9 h9' (w := y6) (Ma.out _ HB) (Mb.out _ HB))
          have HC6 := hid fun (W : World) (h : Below y6.heap.size y6 W) => LCompose_h h9' h9'' (w := W) (Mb.out _ (bel_step HB h)) (Mc.out _ (bel_step HB h))
          have hE5 := hid (resZ_err (mulZ (nrmZ fs) (nrmZ gs)))
          have hE6 := hid (resZ_err (mulZ (nrmZ gs) (nrmZ hs)))
          have t5 := HX.two HY dX dY
          have t6 := HY.two HZ dY dZ
          have HI5 := hid fun (rf : List Rf) (W : World) (h0 : (twoE fs gs).2 = 0) (hz : (zl rf).map (·.z) = (twoE fs gs).1) (ok : ∀ e ∈ zl rf, e.ok W) => resZ_hom (rf := rf) (w := W) t5 (mulZ_len HX.len HY.len) h0 hz ok
          have HI6 := hid fun (rf : List Rf) (W : World) (h0 : (twoE gs hs).2 = 0) (hz : (zl rf).map (·.z) = (twoE gs hs).1) (ok : ∀ e ∈ zl rf, e.ok W) => resZ_hom (rf := rf) (w := W) t6 (mulZ_len HY.len HZ.len) h0 hz ok
          rw [← t5] at hE5
          rw [← t6] at hE6
          obtain ⟨⟨q5, e5⟩, hq5⟩ : ∃ q, twoE fs gs = q := ⟨_, rfl⟩
          obtain ⟨⟨q6, e6⟩, hq6⟩ : ∃ q, twoE gs hs = q := ⟨_, rfl⟩
          rw [hq5] at HC5 hE5 HI5
          rw [hq6] at HC6 hE6 HI6
          clear hq5 hq6 t5 t6 HQ4 HM4 ok4 mg4 hz4 hi4 s4 HC4 s0 HI0
          go_upto_region 13 with fail
          go_wp2_with (first | refine wpList_load_mid (by rfl) _ _ (by rfl) (w.heap.size) 0 (by rfl) (cellsM (zl fs)) _ r0 hU32 row32 ha.out ?_ | refine wpList_load_mid (by rfl) _ _ (by rfl) (w.heap.size + 1) 0 (by rfl) (cellsM (zl gs)) _ r1 hU32 row32 hb.out ?_ | fail)
          refine (HC5.out).mono ?_
          rintro e x5 ⟨rf5, h95, rfl, hz5, ok5, mg5, hq_⟩
          have F1 := hFl.out x5 rf5 h95
          have h365 : (cellsM (zl rf5)).length = 36 := by rw [cellsM_len, zl_len, h95]
          go_upto_region 14 with fail
          refine enterR (P := fun u => Code.wp _ _ _ _ u) ?_
          intro v5 hv_ s5 sz_ hsz
          have qv5 := bel_step hq_ hv_
          have lx5 : x5.heap.size < v5.heap.size := sz_.lt
          have hi5 := hid (show (Try.prog.info? 32).map (·.size) = some (cellsM (zl rf5)).length by rw [h365]; exact T32i)
          have r0 := rng_below r0 qv5
          have r1 := rng_below r1 qv5
          have r2 := rng_below r2 qv5
          have r3 := rng_below r3 qv5
          have ok5 : ∀ e ∈ zl rf5, e.ok v5 := fun e he => (ok5 e he).below hv_
          have mg5 : ∀ f ∈ rf5, f.mg v5 := fun f hf => (mg5 f hf).below hv_
          have HB := bel_step HB qv5
          clear F1 sz_ hsz hv_ hq_ h365
          go_wp2_with (first | refine wpList_load_mid (by rfl) _ _ (by rfl) (w.heap.size + 1) 0 (by rfl) (cellsM (zl gs)) _ r1 hU32 row32 hb.out ?_ | refine wpList_load_mid (by rfl) _ _ (by rfl) (w.heap.size + 1 + 1) 0 (by rfl) (cellsM (zl hs)) _ r2 hU32 row32 hc.out ?_ | fail)
          refine (HC6.out v5 qv5).mono ?_
          rintro e x6 ⟨rf6, h96, rfl, hz6, ok6, mg6, hq_⟩
          have F1 := hFl.out x6 rf6 h96
          have h366 : (cellsM (zl rf6)).length = 36 := by rw [cellsM_len, zl_len, h96]
          go_upto_region 15 with fail
          refine enterR (P := fun u => Code.wp _ _ _ _ u) ?_
          intro v6 hv_ s6 sz_ hsz
          have qv6 := bel_step hq_ hv_
          have lx6 : x6.heap.size < v6.heap.size := sz_.lt
          have hi6 := hid (show (Try.prog.info? 32).map (·.size) = some (cellsM (zl rf6)).length by rw [h366]; exact T32i)
          have r0 := rng_below r0 qv6
          have r1 := rng_below r1 qv6
          have r2 := rng_below r2 qv6
          have r3 := rng_below r3 qv6
          have s5 := rng_below s5 qv6
          have ok6 : ∀ e ∈ zl rf6, e.ok v6 := fun e he => (ok6 e he).below hv_
          have mg6 : ∀ f ∈ rf6, f.mg v6 := fun f hf => (mg6 f hf).below hv_
          have HB := bel_step HB qv6
          clear F1 sz_ hsz hv_ hq_ h366
          rcases hE5.out with rfl | rfl
          · have HM5 := HI5.out rf5 v5 rfl hz5 ok5
            rcases hE6.out with rfl | rfl
            · have HM6 := HI6.out rf6 v6 rfl hz6 ok6
              have hAs := grp_assoc HX HY HZ HM5 HM6 dX dY dZ
              have HC7 := hid (LCompose_h h95 h9'' (w := v6) (fun f hf => (mg5 f hf).below qv6) (Mc.out _ HB))
              have HC8 := hid fun (W : World) (h : Below v6.heap.size v6 W) => LCompose_h h9 h96 (w := W) (Ma.out _ (bel_step HB h)) (fun f hf => (mg6 f hf).below h)
              rw [hAs] at HC7
              obtain ⟨⟨q7, e7⟩, hq7⟩ : ∃ q, twoE fs rf6 = q := ⟨_, rfl⟩
              rw [hq7] at HC7 HC8
              clear hq7 hAs HI5 HI6
              go_wp2_with (first | refine wpList_load_mid (by rfl) _ _ (by rfl) (x5.heap.size) 0 (by rfl) (cellsM (zl rf5)) _ s5 hU32 row32 hi5.out ?_ | refine wpList_load_mid (by rfl) _ _ (by rfl) (w.heap.size + 1 + 1) 0 (by rfl) (cellsM (zl hs)) _ r2 hU32 row32 hc.out ?_ | fail)
              refine (HC7.out).mono ?_
              rintro e x7 ⟨rf7, h97, rfl, hz7, ok7, mg7, hq_⟩
              have F1 := hFl.out x7 rf7 h97
              have h367 : (cellsM (zl rf7)).length = 36 := by rw [cellsM_len, zl_len, h97]
              go_upto_region 17 with fail
              refine enterR (P := fun u => Code.wp _ _ _ _ u) ?_
              intro v7 hv_ s7 sz_ hsz
              have qv7 := bel_step hq_ hv_
              have lx7 : x7.heap.size < v7.heap.size := sz_.lt
              have hi7 := hid (show (Try.prog.info? 32).map (·.size) = some (cellsM (zl rf7)).length by rw [h367]; exact T32i)
              have r0 := rng_below r0 qv7
              have r1 := rng_below r1 qv7
              have r2 := rng_below r2 qv7
              have r3 := rng_below r3 qv7
              have s5 := rng_below s5 qv7
              have s6 := rng_below s6 qv7
              have ok7 : ∀ e ∈ zl rf7, e.ok v7 := fun e he => (ok7 e he).below hv_
              have mg7 : ∀ f ∈ rf7, f.mg v7 := fun f hf => (mg7 f hf).below hv_
              have HB := bel_step HB qv7
              clear F1 sz_ hsz hv_ hq_ h367
              go_wp2_with (first | refine wpList_load_mid (by rfl) _ _ (by rfl) (w.heap.size) 0 (by rfl) (cellsM (zl fs)) _ r0 hU32 row32 ha.out ?_ | refine wpList_load_mid (by rfl) _ _ (by rfl) (x6.heap.size) 0 (by rfl) (cellsM (zl rf6)) _ s6 hU32 row32 hi6.out ?_ | fail)
              refine (HC8.out v7 qv7).mono ?_
              rintro e x8 ⟨rf8, h98, rfl, hz8, ok8, mg8, hq_⟩
              have F1 := hFl.out x8 rf8 h98
              have h368 : (cellsM (zl rf8)).length = 36 := by rw [cellsM_len, zl_len, h98]
              go_upto_region 18 with fail
              refine enterR (P := fun u => Code.wp _ _ _ _ u) ?_
              intro v8 hv_ s8 sz_ hsz
              have qv8 := bel_step hq_ hv_
              have lx8 : x8.heap.size < v8.heap.size := sz_.lt
              have hi8 := hid (show (Try.prog.info? 32).map (·.size) = some (cellsM (zl rf8)).length by rw [h368]; exact T32i)
              have r0 := rng_below r0 qv8
              have r1 := rng_below r1 qv8
              have r2 := rng_below r2 qv8
              have r3 := rng_below r3 qv8
              have s5 := rng_below s5 qv8
              have s7 := rng_below s7 qv8
              have ok8 : ∀ e ∈ zl rf8, e.ok v8 := fun e he => (ok8 e he).below hv_
              have mg8 : ∀ f ∈ rf8, f.mg v8 := fun f hf => (mg8 f hf).below hv_
              have HB := bel_step HB qv8
              clear F1 sz_ hsz hv_ hq_ h368
              have HQ7 := hid (Lequal_g (w := v8) h97 h98 (fun e he => (ok7 e he).below qv8) ok8 true (by rw [hz7, hz8]; simp))
              go_wp2_with (first | refine wpList_load_g (by rfl) _ _ (by rfl) (x7.heap.size) 0 (by rfl) (cellsM (zl rf7)) _ s7 hU32 row32 hi7.out ?_ | refine wpList_load_g (by rfl) _ _ (by rfl) (x8.heap.size) 0 (by rfl) (cellsM (zl rf8)) _ s8 hU32 row32 hi8.out ?_ | fail)
              refine (HQ7.out).mono ?_
              rintro e y9 ⟨rfl, hq_⟩
              have r0 := rng_below r0 hq_
              have r1 := rng_below r1 hq_
              have r2 := rng_below r2 hq_
              have r3 := rng_below r3 hq_
              have s5 := rng_below s5 hq_
              have HB := bel_step HB hq_
              have HM5 := HM5.below (bel_step qv6 (bel_step qv7 (bel_step qv8 hq_)))
              have mg5 := HM5.m
              clear HQ7 ok7 ok8 mg7 mg8 hz7 hz8 hi7 hi8 s7 s8 s6 HM6 HC7 HC8 ok5 ok6 mg6 hz5 hz6 hi6
              go_upto_region 20 with fail
              have HAb := hid (LApply_h h9' h2 (w := y9) (Mb.out _ HB) (Mp.out _ HB))
              have hE9 := hid (aplE_err (fs := gs) h2)
              obtain ⟨⟨q9, e9⟩, hq9⟩ : ∃ q, aplE gs ps = q := ⟨_, rfl⟩
              rw [hq9] at HAb hE9
              go_wp2_with (first | refine wpList_load_mid (by rfl) _ _ (by rfl) (w.heap.size + 1) 0 (by rfl) (cellsM (zl gs)) _ r1 hU32 row32 hb.out ?_ | refine wpList_load_mid (by rfl) _ _ (by rfl) (w.heap.size + 1 + 1 + 1) 0 (by rfl) (cellsM (zl ps)) _ r3 hU28 row28 hd.out ?_ | fail)
              refine (HAb.out).mono ?_
              rintro e x9 ⟨rf9, h29, rfl, hz9, ok9, mg9, hq_⟩
              have F1 := hFp.out x9 rf9 h29
              have h89 : (cellsM (zl rf9)).length = 8 := by rw [cellsM_len, zl_len, h29]
              go_upto_region 21 with fail
              refine enterR (P := fun u => Code.wp _ _ _ _ u) ?_
              intro v9 hv_ s9 sz_ hsz
              have qv9 := bel_step hq_ hv_
              have hi9 := hid (show (Try.prog.info? 28).map (·.size) = some (cellsM (zl rf9)).length by rw [h89]; exact T28i)
              have r0 := rng_below r0 qv9
              have r3 := rng_below r3 qv9
              have s5 := rng_below s5 qv9
              have ok9 : ∀ e ∈ zl rf9, e.ok v9 := fun e he => (ok9 e he).below hv_
              have mg9 : ∀ f ∈ rf9, f.mg v9 := fun f hf => (mg9 f hf).below hv_
              have HB := bel_step HB qv9
              clear F1 sz_ hsz hv_ hq_ h89
              rcases hE9.out with rfl | rfl | rfl | rfl
              · obtain ⟨_, _, fq, gq, _, hl9, _⟩ := apl_image h9' h2 (Mp.out _ HB) hq9
                subst hl9
                have HG := hid fun (h0 : (aplE fs rf9).2 = 0) => grp_apply HX HY HM5 dX dY h2 h29 (Mp.out _ HB) mg9 hq9 (pt_q hz9 ok9) h0
                have HAq := hid (LApply_h h9 h29 (w := v9) (Ma.out _ HB) mg9)
                have hE10 := hid (aplE_err (fs := fs) h29)
                have HAr := hid fun (W : World) (h : Below v9.heap.size v9 W) => LApply_h h95 h2 (w := W) (fun f hf => ((mg5 f hf).below qv9).below h) (Mp.out _ (bel_step HB h))
                obtain ⟨⟨q10, e10⟩, hq10⟩ : ∃ q, aplE fs rf9 = q := ⟨_, rfl⟩
                obtain ⟨⟨q11, e11⟩, hq11⟩ : ∃ q, aplE rf5 ps = q := ⟨_, rfl⟩
                rw [hq10] at HAq hE10 HG
                rw [hq11] at HAr HG
                clear hq9 hq10 hq11 HAb hE9
                go_wp2_with (first | refine wpList_load_mid (by rfl) _ _ (by rfl) (w.heap.size) 0 (by rfl) (cellsM (zl fs)) _ r0 hU32 row32 ha.out ?_ | refine wpList_load_mid (by rfl) _ _ (by rfl) (x9.heap.size) 0 (by rfl) (cellsM (zl rf9)) _ s9 hU28 row28 hi9.out ?_ | fail)
                refine (HAq.out).mono ?_
                rintro e x10 ⟨rf10, h210, rfl, hz10, ok10, mg10, hq_⟩
                have F1 := hFp.out x10 rf10 h210
                have h810 : (cellsM (zl rf10)).length = 8 := by rw [cellsM_len, zl_len, h210]
                go_upto_region 24 with fail
                refine enterR (P := fun u => Code.wp _ _ _ _ u) ?_
                intro v10 hv_ s10 sz_ hsz
                have qv10 := bel_step hq_ hv_
                have hi10 := hid (show (Try.prog.info? 28).map (·.size) = some (cellsM (zl rf10)).length by rw [h810]; exact T28i)
                have r3 := rng_below r3 qv10
                have s5 := rng_below s5 qv10
                have ok10 : ∀ e ∈ zl rf10, e.ok v10 := fun e he => (ok10 e he).below hv_
                have mg10 : ∀ f ∈ rf10, f.mg v10 := fun f hf => (mg10 f hf).below hv_
                have HB := bel_step HB qv10
                clear F1 sz_ hsz hv_ hq_ h810
                go_wp2_with (first | refine wpList_load_mid (by rfl) _ _ (by rfl) (x5.heap.size) 0 (by rfl) (cellsM (zl rf5)) _ s5 hU32 row32 hi5.out ?_ | refine wpList_load_mid (by rfl) _ _ (by rfl) (w.heap.size + 1 + 1 + 1) 0 (by rfl) (cellsM (zl ps)) _ r3 hU28 row28 hd.out ?_ | fail)
                refine (HAr.out v10 qv10).mono ?_
                rintro e x11 ⟨rf11, h211, rfl, hz11, ok11, mg11, hq_⟩
                have F1 := hFp.out x11 rf11 h211
                have h811 : (cellsM (zl rf11)).length = 8 := by rw [cellsM_len, zl_len, h211]
                go_upto_region 25 with fail
                refine enterR (P := fun u => Code.wp _ _ _ _ u) ?_
                intro v11 hv_ s11 sz_ hsz
                have qv11 := bel_step hq_ hv_
                have hi11 := hid (show (Try.prog.info? 28).map (·.size) = some (cellsM (zl rf11)).length by rw [h811]; exact T28i)
                have s10 := rng_below s10 qv11
                have ok11 : ∀ e ∈ zl rf11, e.ok v11 := fun e he => (ok11 e he).below hv_
                have mg11 : ∀ f ∈ rf11, f.mg v11 := fun f hf => (mg11 f hf).below hv_
                have HB := bel_step HB qv11
                clear F1 sz_ hsz hv_ hq_ h811
                rcases hE10.out with rfl | rfl | rfl | rfl
                · obtain ⟨rfl, rfl⟩ := Prod.mk.inj (HG.out rfl)
                  have HPo := hid (Lpoint_g (w := v11) h210 h211 (fun e he => (ok10 e he).below qv11) ok11 true (by rw [hz10, hz11]; simp))
                  clear hz10 hz11 ok10 ok11 mg10 mg11 HG
                  go_wp2_with (first | refine wpList_load_mid (by rfl) _ _ (by rfl) (x10.heap.size) 0 (by rfl) (cellsM (zl rf10)) _ s10 hU28 row28 hi10.out ?_ | refine wpList_load_mid (by rfl) _ _ (by rfl) (x11.heap.size) 0 (by rfl) (cellsM (zl rf11)) _ s11 hU28 row28 hi11.out ?_ | fail)
                  refine (HPo.out).mono ?_
                  rintro e y12 ⟨rfl, hq_⟩
                  have HB := bel_step HB hq_
                  go_wp2_with fail
                  refine (HEx.out y12 HB).mono ?_
                  rintro e x_ ⟨rfl, hx_⟩
                  go_wp2
                  go_ret
                  exact ⟨by simp, bel_step HB hx_⟩
                · clear HG
                  go_wp2_with fail
                  refine (HEx.out v11 HB).mono ?_
                  rintro e x_ ⟨rfl, hx_⟩
                  go_wp2
                  go_ret
                  exact ⟨by simp, bel_step HB hx_⟩
                · clear HG
                  go_wp2_with fail
                  refine (HEx.out v11 HB).mono ?_
                  rintro e x_ ⟨rfl, hx_⟩
                  go_wp2
                  go_ret
                  exact ⟨by simp, bel_step HB hx_⟩
                · clear HG
                  go_wp2_with fail
                  refine (HEx.out v11 HB).mono ?_
                  rintro e x_ ⟨rfl, hx_⟩
                  go_wp2
                  go_ret
                  exact ⟨by simp, bel_step HB hx_⟩
              · clear hq9
                go_wp2_with fail
                refine (HEx.out v9 HB).mono ?_
                rintro e x_ ⟨rfl, hx_⟩
                go_wp2
                go_ret
                exact ⟨by simp, bel_step HB hx_⟩
              · clear hq9
                go_wp2_with fail
                refine (HEx.out v9 HB).mono ?_
                rintro e x_ ⟨rfl, hx_⟩
                go_wp2
                go_ret
                exact ⟨by simp, bel_step HB hx_⟩
              · clear hq9
                go_wp2_with fail
                refine (HEx.out v9 HB).mono ?_
                rintro e x_ ⟨rfl, hx_⟩
                go_wp2
                go_ret
                exact ⟨by simp, bel_step HB hx_⟩
            · have HM5 := HM5.below qv6
              have mg5 := HM5.m
              clear ok5 ok6 mg6 hz5 hz6 hi6 s6 HI5 HI6
              go_upto_region 20 with fail
              have HAb := hid (LApply_h h9' h2 (w := v6) (Mb.out _ HB) (Mp.out _ HB))
              have hE9 := hid (aplE_err (fs := gs) h2)
              obtain ⟨⟨q9, e9⟩, hq9⟩ : ∃ q, aplE gs ps = q := ⟨_, rfl⟩
              rw [hq9] at HAb hE9
              go_wp2_with (first | refine wpList_load_mid (by rfl) _ _ (by rfl) (w.heap.size + 1) 0 (by rfl) (cellsM (zl gs)) _ r1 hU32 row32 hb.out ?_ | refine wpList_load_mid (by rfl) _ _ (by rfl) (w.heap.size + 1 + 1 + 1) 0 (by rfl) (cellsM (zl ps)) _ r3 hU28 row28 hd.out ?_ | fail)
              refine (HAb.out).mono ?_
              rintro e x9 ⟨rf9, h29, rfl, hz9, ok9, mg9, hq_⟩
              have F1 := hFp.out x9 rf9 h29
              have h89 : (cellsM (zl rf9)).length = 8 := by rw [cellsM_len, zl_len, h29]
              go_upto_region 21 with fail
              refine enterR (P := fun u => Code.wp _ _ _ _ u) ?_
              intro v9 hv_ s9 sz_ hsz
              have qv9 := bel_step hq_ hv_
              have hi9 := hid (show (Try.prog.info? 28).map (·.size) = some (cellsM (zl rf9)).length by rw [h89]; exact T28i)
              have r0 := rng_below r0 qv9
              have r3 := rng_below r3 qv9
              have s5 := rng_below s5 qv9
              have ok9 : ∀ e ∈ zl rf9, e.ok v9 := fun e he => (ok9 e he).below hv_
              have mg9 : ∀ f ∈ rf9, f.mg v9 := fun f hf => (mg9 f hf).below hv_
              have HB := bel_step HB qv9
              clear F1 sz_ hsz hv_ hq_ h89
              rcases hE9.out with rfl | rfl | rfl | rfl
              · obtain ⟨_, _, fq, gq, _, hl9, _⟩ := apl_image h9' h2 (Mp.out _ HB) hq9
                subst hl9
                have HG := hid fun (h0 : (aplE fs rf9).2 = 0) => grp_apply HX HY HM5 dX dY h2 h29 (Mp.out _ HB) mg9 hq9 (pt_q hz9 ok9) h0
                have HAq := hid (LApply_h h9 h29 (w := v9) (Ma.out _ HB) mg9)
                have hE10 := hid (aplE_err (fs := fs) h29)
                have HAr := hid fun (W : World) (h : Below v9.heap.size v9 W) => LApply_h h95 h2 (w := W) (fun f hf => ((mg5 f hf).below qv9).below h) (Mp.out _ (bel_step HB h))
                obtain ⟨⟨q10, e10⟩, hq10⟩ : ∃ q, aplE fs rf9 = q := ⟨_, rfl⟩
                obtain ⟨⟨q11, e11⟩, hq11⟩ : ∃ q, aplE rf5 ps = q := ⟨_, rfl⟩
                rw [hq10] at HAq hE10 HG
                rw [hq11] at HAr HG
                clear hq9 hq10 hq11 HAb hE9
                go_wp2_with (first | refine wpList_load_mid (by rfl) _ _ (by rfl) (w.heap.size) 0 (by rfl) (cellsM (zl fs)) _ r0 hU32 row32 ha.out ?_ | refine wpList_load_mid (by rfl) _ _ (by rfl) (x9.heap.size) 0 (by rfl) (cellsM (zl rf9)) _ s9 hU28 row28 hi9.out ?_ | fail)
                refine (HAq.out).mono ?_
                rintro e x10 ⟨rf10, h210, rfl, hz10, ok10, mg10, hq_⟩
                have F1 := hFp.out x10 rf10 h210
                have h810 : (cellsM (zl rf10)).length = 8 := by rw [cellsM_len, zl_len, h210]
                go_upto_region 24 with fail
                refine enterR (P := fun u => Code.wp _ _ _ _ u) ?_
                intro v10 hv_ s10 sz_ hsz
                have qv10 := bel_step hq_ hv_
                have hi10 := hid (show (Try.prog.info? 28).map (·.size) = some (cellsM (zl rf10)).length by rw [h810]; exact T28i)
                have r3 := rng_below r3 qv10
                have s5 := rng_below s5 qv10
                have ok10 : ∀ e ∈ zl rf10, e.ok v10 := fun e he => (ok10 e he).below hv_
                have mg10 : ∀ f ∈ rf10, f.mg v10 := fun f hf => (mg10 f hf).below hv_
                have HB := bel_step HB qv10
                clear F1 sz_ hsz hv_ hq_ h810
                go_wp2_with (first | refine wpList_load_mid (by rfl) _ _ (by rfl) (x5.heap.size) 0 (by rfl) (cellsM (zl rf5)) _ s5 hU32 row32 hi5.out ?_ | refine wpList_load_mid (by rfl) _ _ (by rfl) (w.heap.size + 1 + 1 + 1) 0 (by rfl) (cellsM (zl ps)) _ r3 hU28 row28 hd.out ?_ | fail)
                refine (HAr.out v10 qv10).mono ?_
                rintro e x11 ⟨rf11, h211, rfl, hz11, ok11, mg11, hq_⟩
                have F1 := hFp.out x11 rf11 h211
                have h811 : (cellsM (zl rf11)).length = 8 := by rw [cellsM_len, zl_len, h211]
                go_upto_region 25 with fail
                refine enterR (P := fun u => Code.wp _ _ _ _ u) ?_
                intro v11 hv_ s11 sz_ hsz
                have qv11 := bel_step hq_ hv_
                have hi11 := hid (show (Try.prog.info? 28).map (·.size) = some (cellsM (zl rf11)).length by rw [h811]; exact T28i)
                have s10 := rng_below s10 qv11
                have ok11 : ∀ e ∈ zl rf11, e.ok v11 := fun e he => (ok11 e he).below hv_
                have mg11 : ∀ f ∈ rf11, f.mg v11 := fun f hf => (mg11 f hf).below hv_
                have HB := bel_step HB qv11
                clear F1 sz_ hsz hv_ hq_ h811
                rcases hE10.out with rfl | rfl | rfl | rfl
                · obtain ⟨rfl, rfl⟩ := Prod.mk.inj (HG.out rfl)
                  have HPo := hid (Lpoint_g (w := v11) h210 h211 (fun e he => (ok10 e he).below qv11) ok11 true (by rw [hz10, hz11]; simp))
                  clear hz10 hz11 ok10 ok11 mg10 mg11 HG
                  go_wp2_with (first | refine wpList_load_mid (by rfl) _ _ (by rfl) (x10.heap.size) 0 (by rfl) (cellsM (zl rf10)) _ s10 hU28 row28 hi10.out ?_ | refine wpList_load_mid (by rfl) _ _ (by rfl) (x11.heap.size) 0 (by rfl) (cellsM (zl rf11)) _ s11 hU28 row28 hi11.out ?_ | fail)
                  refine (HPo.out).mono ?_
                  rintro e y12 ⟨rfl, hq_⟩
                  have HB := bel_step HB hq_
                  go_wp2_with fail
                  refine (HEx.out y12 HB).mono ?_
                  rintro e x_ ⟨rfl, hx_⟩
                  go_wp2
                  go_ret
                  exact ⟨by simp, bel_step HB hx_⟩
                · clear HG
                  go_wp2_with fail
                  refine (HEx.out v11 HB).mono ?_
                  rintro e x_ ⟨rfl, hx_⟩
                  go_wp2
                  go_ret
                  exact ⟨by simp, bel_step HB hx_⟩
                · clear HG
                  go_wp2_with fail
                  refine (HEx.out v11 HB).mono ?_
                  rintro e x_ ⟨rfl, hx_⟩
                  go_wp2
                  go_ret
                  exact ⟨by simp, bel_step HB hx_⟩
                · clear HG
                  go_wp2_with fail
                  refine (HEx.out v11 HB).mono ?_
                  rintro e x_ ⟨rfl, hx_⟩
                  go_wp2
                  go_ret
                  exact ⟨by simp, bel_step HB hx_⟩
              · clear hq9
                go_wp2_with fail
                refine (HEx.out v9 HB).mono ?_
                rintro e x_ ⟨rfl, hx_⟩
                go_wp2
                go_ret
                exact ⟨by simp, bel_step HB hx_⟩
              · clear hq9
                go_wp2_with fail
                refine (HEx.out v9 HB).mono ?_
                rintro e x_ ⟨rfl, hx_⟩
                go_wp2
                go_ret
                exact ⟨by simp, bel_step HB hx_⟩
              · clear hq9
                go_wp2_with fail
                refine (HEx.out v9 HB).mono ?_
                rintro e x_ ⟨rfl, hx_⟩
                go_wp2
                go_ret
                exact ⟨by simp, bel_step HB hx_⟩
          · clear ok5 ok6 mg5 mg6 hz5 hz6 hi5 hi6 s5 s6 HI5 HI6
            rcases hE6.out with rfl | rfl
            · go_upto_region 20 with fail
              have HAb := hid (LApply_h h9' h2 (w := v6) (Mb.out _ HB) (Mp.out _ HB))
              have hE9 := hid (aplE_err (fs := gs) h2)
              obtain ⟨⟨q9, e9⟩, hq9⟩ : ∃ q, aplE gs ps = q := ⟨_, rfl⟩
              rw [hq9] at HAb hE9
              go_wp2_with (first | refine wpList_load_mid (by rfl) _ _ (by rfl) (w.heap.size + 1) 0 (by rfl) (cellsM (zl gs)) _ r1 hU32 row32 hb.out ?_ | refine wpList_load_mid (by rfl) _ _ (by rfl) (w.heap.size + 1 + 1 + 1) 0 (by rfl) (cellsM (zl ps)) _ r3 hU28 row28 hd.out ?_ | fail)
              clear hq9
              refine (HAb.out).mono ?_
              rintro e x9 ⟨rf9, h29, rfl, hz9, ok9, mg9, hq_⟩
              have F1 := hFp.out x9 rf9 h29
              have h89 : (cellsM (zl rf9)).length = 8 := by rw [cellsM_len, zl_len, h29]
              go_upto_region 21 with fail
              refine enterR (P := fun u => Code.wp _ _ _ _ u) ?_
              intro v9 hv_ s9 sz_ hsz
              have qv9 := bel_step hq_ hv_
              have hi9 := hid (show (Try.prog.info? 28).map (·.size) = some (cellsM (zl rf9)).length by rw [h89]; exact T28i)
              have r3 := rng_below r3 qv9
              have ok9 : ∀ e ∈ zl rf9, e.ok v9 := fun e he => (ok9 e he).below hv_
              have mg9 : ∀ f ∈ rf9, f.mg v9 := fun f hf => (mg9 f hf).below hv_
              have HB := bel_step HB qv9
              clear F1 sz_ hsz hv_ hq_ h89
              go_wp2_with fail
              refine (HEx.out v9 HB).mono ?_
              rintro e x_ ⟨rfl, hx_⟩
              go_wp2
              go_ret
              exact ⟨by simp, bel_step HB hx_⟩
            · go_upto_region 20 with fail
              have HAb := hid (LApply_h h9' h2 (w := v6) (Mb.out _ HB) (Mp.out _ HB))
              have hE9 := hid (aplE_err (fs := gs) h2)
              obtain ⟨⟨q9, e9⟩, hq9⟩ : ∃ q, aplE gs ps = q := ⟨_, rfl⟩
              rw [hq9] at HAb hE9
              go_wp2_with (first | refine wpList_load_mid (by rfl) _ _ (by rfl) (w.heap.size + 1) 0 (by rfl) (cellsM (zl gs)) _ r1 hU32 row32 hb.out ?_ | refine wpList_load_mid (by rfl) _ _ (by rfl) (w.heap.size + 1 + 1 + 1) 0 (by rfl) (cellsM (zl ps)) _ r3 hU28 row28 hd.out ?_ | fail)
              clear hq9
              refine (HAb.out).mono ?_
              rintro e x9 ⟨rf9, h29, rfl, hz9, ok9, mg9, hq_⟩
              have F1 := hFp.out x9 rf9 h29
              have h89 : (cellsM (zl rf9)).length = 8 := by rw [cellsM_len, zl_len, h29]
              go_upto_region 21 with fail
              refine enterR (P := fun u => Code.wp _ _ _ _ u) ?_
              intro v9 hv_ s9 sz_ hsz
              have qv9 := bel_step hq_ hv_
              have hi9 := hid (show (Try.prog.info? 28).map (·.size) = some (cellsM (zl rf9)).length by rw [h89]; exact T28i)
              have r3 := rng_below r3 qv9
              have ok9 : ∀ e ∈ zl rf9, e.ok v9 := fun e he => (ok9 e he).below hv_
              have mg9 : ∀ f ∈ rf9, f.mg v9 := fun f hf => (mg9 f hf).below hv_
              have HB := bel_step HB qv9
              clear F1 sz_ hsz hv_ hq_ h89
              go_wp2_with fail
              refine (HEx.out v9 HB).mono ?_
              rintro e x_ ⟨rfl, hx_⟩
              go_wp2
              go_ret
              exact ⟨by simp, bel_step HB hx_⟩
        · have HI0 := HI0.below qv1
          clear HI1 ok1 mg1 hz1 hi1 s1 qv0 qv1
          go_upto_region 10 with fail
          have HC4 := hid (LCompose_h h9 h90 (w := v1) (Ma.out _ HB) HI0.m)
          rw [grp_one HX HI0 dX, show resZ (nrmZ fs) = (homZ (nrmZ fs), 0) from by unfold resZ; rw [eX, if_pos lX]] at HC4
          go_wp2_with (first | refine wpList_load_mid (by rfl) _ _ (by rfl) (w.heap.size) 0 (by rfl) (cellsM (zl fs)) _ r0 hU32 row32 ha.out ?_ | refine wpList_load_mid (by rfl) _ _ (by rfl) (x0.heap.size) 0 (by rfl) (cellsM (zl rf0)) _ s0 hU32 row32 hi0.out ?_ | fail)
          refine (HC4.out).mono ?_
          rintro e x4 ⟨rf4, h94, rfl, hz4, ok4, mg4, hq_⟩
          have F1 := hFl.out x4 rf4 h94
          have h364 : (cellsM (zl rf4)).length = 36 := by rw [cellsM_len, zl_len, h94]
          go_upto_region 11 with fail
          refine enterR (P := fun u => Code.wp _ _ _ _ u) ?_
          intro v4 hv_ s4 sz_ hsz
          have qv4 := bel_step hq_ hv_
          have lx4 : x4.heap.size < v4.heap.size := sz_.lt
          have hi4 := hid (show (Try.prog.info? 32).map (·.size) = some (cellsM (zl rf4)).length by rw [h364]; exact T32i)
          have r0 := rng_below r0 qv4
          have r1 := rng_below r1 qv4
          have r2 := rng_below r2 qv4
          have r3 := rng_below r3 qv4
          have ok4 : ∀ e ∈ zl rf4, e.ok v4 := fun e he => (ok4 e he).below hv_
          have mg4 : ∀ f ∈ rf4, f.mg v4 := fun f hf => (mg4 f hf).below hv_
          have HB := bel_step HB qv4
          clear F1 sz_ hsz hv_ hq_ h364
          have HM4 : HomR v4 rf4 (nrmZ fs) := homR_rf (X := nrmZ fs) HX.len (by rw [eX]; exact lX) (by rw [eX]; exact hz4) ok4
          have HQ4 := hid (HEqual_g rf4 fs h94 h9 (w := v4) mg4 (Ma.out _ HB))
          rw [HM4.eqb HX dX dX (Pr.refl _)] at HQ4
          go_wp2_with (first | refine wpList_load_g (by rfl) _ _ (by rfl) (x4.heap.size) 0 (by rfl) (cellsM (zl rf4)) _ s4 hU32 row32 hi4.out ?_ | refine wpList_load_g (by rfl) _ _ (by rfl) (w.heap.size) 0 (by rfl) (cellsM (zl fs)) _ r0 hU32 row32 ha.out ?_ | fail)
          refine (HQ4.out).mono ?_
          rintro e y6 ⟨rfl, hq_⟩
          have r0 := rng_below r0 hq_
          have r1 := rng_below r1 hq_
          have r2 := rng_below r2 hq_
          have r3 := rng_below r3 hq_
          have HB := bel_step HB hq_
          have HC5 := hid (LCompose_h h9 h9' (w := y6) (Ma.out _ HB) (Mb.out _ HB))
          have HC6 := hid fun (W : World) (h : Below y6.heap.size y6 W) => LCompose_h h9' h9'' (w := W) (Mb.out _ (bel_step HB h)) (Mc.out _ (bel_step HB h))
          have hE5 := hid (resZ_err (mulZ (nrmZ fs) (nrmZ gs)))
          have hE6 := hid (resZ_err (mulZ (nrmZ gs) (nrmZ hs)))
          have t5 := HX.two HY dX dY
          have t6 := HY.two HZ dY dZ
          have HI5 := hid fun (rf : List Rf) (W : World) (h0 : (twoE fs gs).2 = 0) (hz : (zl rf).map (·.z) = (twoE fs gs).1) (ok : ∀ e ∈ zl rf, e.ok W) => resZ_hom (rf := rf) (w := W) t5 (mulZ_len HX.len HY.len) h0 hz ok
          have HI6 := hid fun (rf : List Rf) (W : World) (h0 : (twoE gs hs).2 = 0) (hz : (zl rf).map (·.z) = (twoE gs hs).1) (ok : ∀ e ∈ zl rf, e.ok W) => resZ_hom (rf := rf) (w := W) t6 (mulZ_len HY.len HZ.len) h0 hz ok
          rw [← t5] at hE5
          rw [← t6] at hE6
          obtain ⟨⟨q5, e5⟩, hq5⟩ : ∃ q, twoE fs gs = q := ⟨_, rfl⟩
          obtain ⟨⟨q6, e6⟩, hq6⟩ : ∃ q, twoE gs hs = q := ⟨_, rfl⟩
          rw [hq5] at HC5 hE5 HI5
          rw [hq6] at HC6 hE6 HI6
          clear hq5 hq6 t5 t6 HQ4 HM4 ok4 mg4 hz4 hi4 s4 HC4 s0 HI0
          go_upto_region 13 with fail
          go_wp2_with (first | refine wpList_load_mid (by rfl) _ _ (by rfl) (w.heap.size) 0 (by rfl) (cellsM (zl fs)) _ r0 hU32 row32 ha.out ?_ | refine wpList_load_mid (by rfl) _ _ (by rfl) (w.heap.size + 1) 0 (by rfl) (cellsM (zl gs)) _ r1 hU32 row32 hb.out ?_ | fail)
          refine (HC5.out).mono ?_
          rintro e x5 ⟨rf5, h95, rfl, hz5, ok5, mg5, hq_⟩
          have F1 := hFl.out x5 rf5 h95
          have h365 : (cellsM (zl rf5)).length = 36 := by rw [cellsM_len, zl_len, h95]
          go_upto_region 14 with fail
          refine enterR (P := fun u => Code.wp _ _ _ _ u) ?_
          intro v5 hv_ s5 sz_ hsz
          have qv5 := bel_step hq_ hv_
          have lx5 : x5.heap.size < v5.heap.size := sz_.lt
          have hi5 := hid (show (Try.prog.info? 32).map (·.size) = some (cellsM (zl rf5)).length by rw [h365]; exact T32i)
          have r0 := rng_below r0 qv5
          have r1 := rng_below r1 qv5
          have r2 := rng_below r2 qv5
          have r3 := rng_below r3 qv5
          have ok5 : ∀ e ∈ zl rf5, e.ok v5 := fun e he => (ok5 e he).below hv_
          have mg5 : ∀ f ∈ rf5, f.mg v5 := fun f hf => (mg5 f hf).below hv_
          have HB := bel_step HB qv5
          clear F1 sz_ hsz hv_ hq_ h365
          go_wp2_with (first | refine wpList_load_mid (by rfl) _ _ (by rfl) (w.heap.size + 1) 0 (by rfl) (cellsM (zl gs)) _ r1 hU32 row32 hb.out ?_ | refine wpList_load_mid (by rfl) _ _ (by rfl) (w.heap.size + 1 + 1) 0 (by rfl) (cellsM (zl hs)) _ r2 hU32 row32 hc.out ?_ | fail)
          refine (HC6.out v5 qv5).mono ?_
          rintro e x6 ⟨rf6, h96, rfl, hz6, ok6, mg6, hq_⟩
          have F1 := hFl.out x6 rf6 h96
          have h366 : (cellsM (zl rf6)).length = 36 := by rw [cellsM_len, zl_len, h96]
          go_upto_region 15 with fail
          refine enterR (P := fun u => Code.wp _ _ _ _ u) ?_
          intro v6 hv_ s6 sz_ hsz
          have qv6 := bel_step hq_ hv_
          have lx6 : x6.heap.size < v6.heap.size := sz_.lt
          have hi6 := hid (show (Try.prog.info? 32).map (·.size) = some (cellsM (zl rf6)).length by rw [h366]; exact T32i)
          have r0 := rng_below r0 qv6
          have r1 := rng_below r1 qv6
          have r2 := rng_below r2 qv6
          have r3 := rng_below r3 qv6
          have s5 := rng_below s5 qv6
          have ok6 : ∀ e ∈ zl rf6, e.ok v6 := fun e he => (ok6 e he).below hv_
          have mg6 : ∀ f ∈ rf6, f.mg v6 := fun f hf => (mg6 f hf).below hv_
          have HB := bel_step HB qv6
          clear F1 sz_ hsz hv_ hq_ h366
          rcases hE5.out with rfl | rfl
          · have HM5 := HI5.out rf5 v5 rfl hz5 ok5
            rcases hE6.out with rfl | rfl
            · have HM6 := HI6.out rf6 v6 rfl hz6 ok6
              have hAs := grp_assoc HX HY HZ HM5 HM6 dX dY dZ
              have HC7 := hid (LCompose_h h95 h9'' (w := v6) (fun f hf => (mg5 f hf).below qv6) (Mc.out _ HB))
              have HC8 := hid fun (W : World) (h : Below v6.heap.size v6 W) => LCompose_h h9 h96 (w := W) (Ma.out _ (bel_step HB h)) (fun f hf => (mg6 f hf).below h)
              rw [hAs] at HC7
              obtain ⟨⟨q7, e7⟩, hq7⟩ : ∃ q, twoE fs rf6 = q := ⟨_, rfl⟩
              rw [hq7] at HC7 HC8
              clear hq7 hAs HI5 HI6
              go_wp2_with (first | refine wpList_load_mid (by rfl) _ _ (by rfl) (x5.heap.size) 0 (by rfl) (cellsM (zl rf5)) _ s5 hU32 row32 hi5.out ?_ | refine wpList_load_mid (by rfl) _ _ (by rfl) (w.heap.size + 1 + 1) 0 (by rfl) (cellsM (zl hs)) _ r2 hU32 row32 hc.out ?_ | fail)
              refine (HC7.out).mono ?_
              rintro e x7 ⟨rf7, h97, rfl, hz7, ok7, mg7, hq_⟩
              have F1 := hFl.out x7 rf7 h97
              have h367 : (cellsM (zl rf7)).length = 36 := by rw [cellsM_len, zl_len, h97]
              go_upto_region 17 with fail
              refine enterR (P := fun u => Code.wp _ _ _ _ u) ?_
              intro v7 hv_ s7 sz_ hsz
              have qv7 := bel_step hq_ hv_
              have lx7 : x7.heap.size < v7.heap.size := sz_.lt
              have hi7 := hid (show (Try.prog.info? 32).map (·.size) = some (cellsM (zl rf7)).length by rw [h367]; exact T32i)
              have r0 := rng_below r0 qv7
              have r1 := rng_below r1 qv7
              have r2 := rng_below r2 qv7
              have r3 := rng_below r3 qv7
              have s5 := rng_below s5 qv7
              have s6 := rng_below s6 qv7
              have ok7 : ∀ e ∈ zl rf7, e.ok v7 := fun e he => (ok7 e he).below hv_
              have mg7 : ∀ f ∈ rf7, f.mg v7 := fun f hf => (mg7 f hf).below hv_
              have HB := bel_step HB qv7
              clear F1 sz_ hsz hv_ hq_ h367
              go_wp2_with (first | refine wpList_load_mid (by rfl) _ _ (by rfl) (w.heap.size) 0 (by rfl) (cellsM (zl fs)) _ r0 hU32 row32 ha.out ?_ | refine wpList_load_mid (by rfl) _ _ (by rfl) (x6.heap.size) 0 (by rfl) (cellsM (zl rf6)) _ s6 hU32 row32 hi6.out ?_ | fail)
              refine (HC8.out v7 qv7).mono ?_
              rintro e x8 ⟨rf8, h98, rfl, hz8, ok8, mg8, hq_⟩
              have F1 := hFl.out x8 rf8 h98
              have h368 : (cellsM (zl rf8)).length = 36 := by rw [cellsM_len, zl_len, h98]
              go_upto_region 18 with fail
              refine enterR (P := fun u => Code.wp _ _ _ _ u) ?_
              intro v8 hv_ s8 sz_ hsz
              have qv8 := bel_step hq_ hv_
              have lx8 : x8.heap.size < v8.heap.size := sz_.lt
              have hi8 := hid (show (Try.prog.info? 32).map (·.size) = some (cellsM (zl rf8)).length by rw [h368]; exact T32i)
              have r0 := rng_below r0 qv8
              have r1 := rng_below r1 qv8
              have r2 := rng_below r2 qv8
              have r3 := rng_below r3 qv8
              have s5 := rng_below s5 qv8
              have s7 := rng_below s7 qv8
              have ok8 : ∀ e ∈ zl rf8, e.ok v8 := fun e he => (ok8 e he).below hv_
              have mg8 : ∀ f ∈ rf8, f.mg v8 := fun f hf => (mg8 f hf).below hv_
              have HB := bel_step HB qv8
              clear F1 sz_ hsz hv_ hq_ h368
              have HQ7 := hid (Lequal_g (w := v8) h97 h98 (fun e he => (ok7 e he).below qv8) ok8 true (by rw [hz7, hz8]; simp))
              go_wp2_with (first | refine wpList_load_g (by rfl) _ _ (by rfl) (x7.heap.size) 0 (by rfl) (cellsM (zl rf7)) _ s7 hU32 row32 hi7.out ?_ | refine wpList_load_g (by rfl) _ _ (by rfl) (x8.heap.size) 0 (by rfl) (cellsM (zl rf8)) _ s8 hU32 row32 hi8.out ?_ | fail)
              refine (HQ7.out).mono ?_
              rintro e y9 ⟨rfl, hq_⟩
              have r0 := rng_below r0 hq_
              have r1 := rng_below r1 hq_
              have r2 := rng_below r2 hq_
              have r3 := rng_below r3 hq_
              have s5 := rng_below s5 hq_
              have HB := bel_step HB hq_
              have HM5 := HM5.below (bel_step qv6 (bel_step qv7 (bel_step qv8 hq_)))
              have mg5 := HM5.m
              clear HQ7 ok7 ok8 mg7 mg8 hz7 hz8 hi7 hi8 s7 s8 s6 HM6 HC7 HC8 ok5 ok6 mg6 hz5 hz6 hi6
              go_upto_region 20 with fail
              have HAb := hid (LApply_h h9' h2 (w := y9) (Mb.out _ HB) (Mp.out _ HB))
              have hE9 := hid (aplE_err (fs := gs) h2)
              obtain ⟨⟨q9, e9⟩, hq9⟩ : ∃ q, aplE gs ps = q := ⟨_, rfl⟩
              rw [hq9] at HAb hE9
              go_wp2_with (first | refine wpList_load_mid (by rfl) _ _ (by rfl) (w.heap.size + 1) 0 (by rfl) (cellsM (zl gs)) _ r1 hU32 row32 hb.out ?_ | refine wpList_load_mid (by rfl) _ _ (by rfl) (w.heap.size + 1 + 1 + 1) 0 (by rfl) (cellsM (zl ps)) _ r3 hU28 row28 hd.out ?_ | fail)
              refine (HAb.out).mono ?_
              rintro e x9 ⟨rf9, h29, rfl, hz9, ok9, mg9, hq_⟩
              have F1 := hFp.out x9 rf9 h29
              have h89 : (cellsM (zl rf9)).length = 8 := by rw [cellsM_len, zl_len, h29]
              go_upto_region 21 with fail
              refine enterR (P := fun u => Code.wp _ _ _ _ u) ?_
              intro v9 hv_ s9 sz_ hsz
              have qv9 := bel_step hq_ hv_
              have hi9 := hid (show (Try.prog.info? 28).map (·.size) = some (cellsM (zl rf9)).length by rw [h89]; exact T28i)
              have r0 := rng_below r0 qv9
              have r3 := rng_below r3 qv9
              have s5 := rng_below s5 qv9
              have ok9 : ∀ e ∈ zl rf9, e.ok v9 := fun e he => (ok9 e he).below hv_
              have mg9 : ∀ f ∈ rf9, f.mg v9 := fun f hf => (mg9 f hf).below hv_
              have HB := bel_step HB qv9
              clear F1 sz_ hsz hv_ hq_ h89
              rcases hE9.out with rfl | rfl | rfl | rfl
              · obtain ⟨_, _, fq, gq, _, hl9, _⟩ := apl_image h9' h2 (Mp.out _ HB) hq9
                subst hl9
                have HG := hid fun (h0 : (aplE fs rf9).2 = 0) => grp_apply HX HY HM5 dX dY h2 h29 (Mp.out _ HB) mg9 hq9 (pt_q hz9 ok9) h0
                have HAq := hid (LApply_h h9 h29 (w := v9) (Ma.out _ HB) mg9)
                have hE10 := hid (aplE_err (fs := fs) h29)
                have HAr := hid fun (W : World) (h : Below v9.heap.size v9 W) => LApply_h h95 h2 (w := W) (fun f hf => ((mg5 f hf).below qv9).below h) (Mp.out _ (bel_step HB h))
                obtain ⟨⟨q10, e10⟩, hq10⟩ : ∃ q, aplE fs rf9 = q := ⟨_, rfl⟩
                obtain ⟨⟨q11, e11⟩, hq11⟩ : ∃ q, aplE rf5 ps = q := ⟨_, rfl⟩
                rw [hq10] at HAq hE10 HG
                rw [hq11] at HAr HG
                clear hq9 hq10 hq11 HAb hE9
                go_wp2_with (first | refine wpList_load_mid (by rfl) _ _ (by rfl) (w.heap.size) 0 (by rfl) (cellsM (zl fs)) _ r0 hU32 row32 ha.out ?_ | refine wpList_load_mid (by rfl) _ _ (by rfl) (x9.heap.size) 0 (by rfl) (cellsM (zl rf9)) _ s9 hU28 row28 hi9.out ?_ | fail)
                refine (HAq.out).mono ?_
                rintro e x10 ⟨rf10, h210, rfl, hz10, ok10, mg10, hq_⟩
                have F1 := hFp.out x10 rf10 h210
                have h810 : (cellsM (zl rf10)).length = 8 := by rw [cellsM_len, zl_len, h210]
                go_upto_region 24 with fail
                refine enterR (P := fun u => Code.wp _ _ _ _ u) ?_
                intro v10 hv_ s10 sz_ hsz
                have qv10 := bel_step hq_ hv_
                have hi10 := hid (show (Try.prog.info? 28).map (·.size) = some (cellsM (zl rf10)).length by rw [h810]; exact T28i)
                have r3 := rng_below r3 qv10
                have s5 := rng_below s5 qv10
                have ok10 : ∀ e ∈ zl rf10, e.ok v10 := fun e he => (ok10 e he).below hv_
                have mg10 : ∀ f ∈ rf10, f.mg v10 := fun f hf => (mg10 f hf).below hv_
                have HB := bel_step HB qv10
                clear F1 sz_ hsz hv_ hq_ h810
                go_wp2_with (first | refine wpList_load_mid (by rfl) _ _ (by rfl) (x5.heap.size) 0 (by rfl) (cellsM (zl rf5)) _ s5 hU32 row32 hi5.out ?_ | refine wpList_load_mid (by rfl) _ _ (by rfl) (w.heap.size + 1 + 1 + 1) 0 (by rfl) (cellsM (zl ps)) _ r3 hU28 row28 hd.out ?_ | fail)
                refine (HAr.out v10 qv10).mono ?_
                rintro e x11 ⟨rf11, h211, rfl, hz11, ok11, mg11, hq_⟩
                have F1 := hFp.out x11 rf11 h211
                have h811 : (cellsM (zl rf11)).length = 8 := by rw [cellsM_len, zl_len, h211]
                go_upto_region 25 with fail
                refine enterR (P := fun u => Code.wp _ _ _ _ u) ?_
                intro v11 hv_ s11 sz_ hsz
                have qv11 := bel_step hq_ hv_
                have hi11 := hid (show (Try.prog.info? 28).map (·.size) = some (cellsM (zl rf11)).length by rw [h811]; exact T28i)
                have s10 := rng_below s10 qv11
                have ok11 : ∀ e ∈ zl rf11, e.ok v11 := fun e he => (ok11 e he).below hv_
                have mg11 : ∀ f ∈ rf11, f.mg v11 := fun f hf => (mg11 f hf).below hv_
                have HB := bel_step HB qv11
                clear F1 sz_ hsz hv_ hq_ h811
                rcases hE10.out with rfl | rfl | rfl | rfl
                · obtain ⟨rfl, rfl⟩ := Prod.mk.inj (HG.out rfl)
                  have HPo := hid (Lpoint_g (w := v11) h210 h211 (fun e he => (ok10 e he).below qv11) ok11 true (by rw [hz10, hz11]; simp))
                  clear hz10 hz11 ok10 ok11 mg10 mg11 HG
                  go_wp2_with (first | refine wpList_load_mid (by rfl) _ _ (by rfl) (x10.heap.size) 0 (by rfl) (cellsM (zl rf10)) _ s10 hU28 row28 hi10.out ?_ | refine wpList_load_mid (by rfl) _ _ (by rfl) (x11.heap.size) 0 (by rfl) (cellsM (zl rf11)) _ s11 hU28 row28 hi11.out ?_ | fail)
                  refine (HPo.out).mono ?_
                  rintro e y12 ⟨rfl, hq_⟩
                  have HB := bel_step HB hq_
                  go_wp2_with fail
                  refine (HEx.out y12 HB).mono ?_
                  rintro e x_ ⟨rfl, hx_⟩
                  go_wp2
                  go_ret
                  exact ⟨by simp, bel_step HB hx_⟩
                · clear HG
                  go_wp2_with fail
                  refine (HEx.out v11 HB).mono ?_
                  rintro e x_ ⟨rfl, hx_⟩
                  go_wp2
                  go_ret
                  exact ⟨by simp, bel_step HB hx_⟩
                · clear HG
                  go_wp2_with fail
                  refine (HEx.out v11 HB).mono ?_
                  rintro e x_ ⟨rfl, hx_⟩
                  go_wp2
                  go_ret
                  exact ⟨by simp, bel_step HB hx_⟩
                · clear HG
                  go_wp2_with fail
                  refine (HEx.out v11 HB).mono ?_
                  rintro e x_ ⟨rfl, hx_⟩
                  go_wp2
                  go_ret
                  exact ⟨by simp, bel_step HB hx_⟩
              · clear hq9
                go_wp2_with fail
                refine (HEx.out v9 HB).mono ?_
                rintro e x_ ⟨rfl, hx_⟩
                go_wp2
                go_ret
                exact ⟨by simp, bel_step HB hx_⟩
              · clear hq9
                go_wp2_with fail
                refine (HEx.out v9 HB).mono ?_
                rintro e x_ ⟨rfl, hx_⟩
                go_wp2
                go_ret
                exact ⟨by simp, bel_step HB hx_⟩
              · clear hq9
                go_wp2_with fail
                refine (HEx.out v9 HB).mono ?_
                rintro e x_ ⟨rfl, hx_⟩
                go_wp2
                go_ret
                exact ⟨by simp, bel_step HB hx_⟩
            · have HM5 := HM5.below qv6
              have mg5 := HM5.m
              clear ok5 ok6 mg6 hz5 hz6 hi6 s6 HI5 HI6
              go_upto_region 20 with fail
              have HAb := hid (LApply_h h9' h2 (w := v6) (Mb.out _ HB) (Mp.out _ HB))
              have hE9 := hid (aplE_err (fs := gs) h2)
              obtain ⟨⟨q9, e9⟩, hq9⟩ : ∃ q, aplE gs ps = q := ⟨_, rfl⟩
              rw [hq9] at HAb hE9
              go_wp2_with (first | refine wpList_load_mid (by rfl) _ _ (by rfl) (w.heap.size + 1) 0 (by rfl) (cellsM (zl gs)) _ r1 hU32 row32 hb.out ?_ | refine wpList_load_mid (by rfl) _ _ (by rfl) (w.heap.size + 1 + 1 + 1) 0 (by rfl) (cellsM (zl ps)) _ r3 hU28 row28 hd.out ?_ | fail)
              refine (HAb.out).mono ?_
              rintro e x9 ⟨rf9, h29, rfl, hz9, ok9, mg9, hq_⟩
              have F1 := hFp.out x9 rf9 h29
              have h89 : (cellsM (zl rf9)).length = 8 := by rw [cellsM_len, zl_len, h29]
              go_upto_region 21 with fail
              refine enterR (P := fun u => Code.wp _ _ _ _ u) ?_
              intro v9 hv_ s9 sz_ hsz
              have qv9 := bel_step hq_ hv_
              have hi9 := hid (show (Try.prog.info? 28).map (·.size) = some (cellsM (zl rf9)).length by rw [h89]; exact T28i)
              have r0 := rng_below r0 qv9
              have r3 := rng_below r3 qv9
              have s5 := rng_below s5 qv9
              have ok9 : ∀ e ∈ zl rf9, e.ok v9 := fun e he => (ok9 e he).below hv_
              have mg9 : ∀ f ∈ rf9, f.mg v9 := fun f hf => (mg9 f hf).below hv_
              have HB := bel_step HB qv9
              clear F1 sz_ hsz hv_ hq_ h89
              rcases hE9.out with rfl | rfl | rfl | rfl
              · obtain ⟨_, _, fq, gq, _, hl9, _⟩ := apl_image h9' h2 (Mp.out _ HB) hq9
                subst hl9
                have HG := hid fun (h0 : (aplE fs rf9).2 = 0) => grp_apply HX HY HM5 dX dY h2 h29 (Mp.out _ HB) mg9 hq9 (pt_q hz9 ok9) h0
                have HAq := hid (LApply_h h9 h29 (w := v9) (Ma.out _ HB) mg9)
                have hE10 := hid (aplE_err (fs := fs) h29)
                have HAr := hid fun (W : World) (h : Below v9.heap.size v9 W) => LApply_h h95 h2 (w := W) (fun f hf => ((mg5 f hf).below qv9).below h) (Mp.out _ (bel_step HB h))
                obtain ⟨⟨q10, e10⟩, hq10⟩ : ∃ q, aplE fs rf9 = q := ⟨_, rfl⟩
                obtain ⟨⟨q11, e11⟩, hq11⟩ : ∃ q, aplE rf5 ps = q := ⟨_, rfl⟩
                rw [hq10] at HAq hE10 HG
                rw [hq11] at HAr HG
                clear hq9 hq10 hq11 HAb hE9
                go_wp2_with (first | refine wpList_load_mid (by rfl) _ _ (by rfl) (w.heap.size) 0 (by rfl) (cellsM (zl fs)) _ r0 hU32 row32 ha.out ?_ | refine wpList_load_mid (by rfl) _ _ (by rfl) (x9.heap.size) 0 (by rfl) (cellsM (zl rf9)) _ s9 hU28 row28 hi9.out ?_ | fail)
                refine (HAq.out).mono ?_
                rintro e x10 ⟨rf10, h210, rfl, hz10, ok10, mg10, hq_⟩
                have F1 := hFp.out x10 rf10 h210
                have h810 : (cellsM (zl rf10)).length = 8 := by rw [cellsM_len, zl_len, h210]
                go_upto_region 24 with fail
                refine enterR (P := fun u => Code.wp _ _ _ _ u) ?_
                intro v10 hv_ s10 sz_ hsz
                have qv10 := bel_step hq_ hv_
                have hi10 := hid (show (Try.prog.info? 28).map (·.size) = some (cellsM (zl rf10)).length by rw [h810]; exact T28i)
                have r3 := rng_below r3 qv10
                have s5 := rng_below s5 qv10
                have ok10 : ∀ e ∈ zl rf10, e.ok v10 := fun e he => (ok10 e he).below hv_
                have mg10 : ∀ f ∈ rf10, f.mg v10 := fun f hf => (mg10 f hf).below hv_
                have HB := bel_step HB qv10
                clear F1 sz_ hsz hv_ hq_ h810
                go_wp2_with (first | refine wpList_load_mid (by rfl) _ _ (by rfl) (x5.heap.size) 0 (by rfl) (cellsM (zl rf5)) _ s5 hU32 row32 hi5.out ?_ | refine wpList_load_mid (by rfl) _ _ (by rfl) (w.heap.size + 1 + 1 + 1) 0 (by rfl) (cellsM (zl ps)) _ r3 hU28 row28 hd.out ?_ | fail)
                refine (HAr.out v10 qv10).mono ?_
                rintro e x11 ⟨rf11, h211, rfl, hz11, ok11, mg11, hq_⟩
                have F1 := hFp.out x11 rf11 h211
                have h811 : (cellsM (zl rf11)).length = 8 := by rw [cellsM_len, zl_len, h211]
                go_upto_region 25 with fail
                refine enterR (P := fun u => Code.wp _ _ _ _ u) ?_
                intro v11 hv_ s11 sz_ hsz
                have qv11 := bel_step hq_ hv_
                have hi11 := hid (show (Try.prog.info? 28).map (·.size) = some (cellsM (zl rf11)).length by rw [h811]; exact T28i)
                have s10 := rng_below s10 qv11
                have ok11 : ∀ e ∈ zl rf11, e.ok v11 := fun e he => (ok11 e he).below hv_
                have mg11 : ∀ f ∈ rf11, f.mg v11 := fun f hf => (mg11 f hf).below hv_
                have HB := bel_step HB qv11
                clear F1 sz_ hsz hv_ hq_ h811
                rcases hE10.out with rfl | rfl | rfl | rfl
                · obtain ⟨rfl, rfl⟩ := Prod.mk.inj (HG.out rfl)
                  have HPo := hid (Lpoint_g (w := v11) h210 h211 (fun e he => (ok10 e he).below qv11) ok11 true (by rw [hz10, hz11]; simp))
                  clear hz10 hz11 ok10 ok11 mg10 mg11 HG
                  go_wp2_with (first | refine wpList_load_mid (by rfl) _ _ (by rfl) (x10.heap.size) 0 (by rfl) (cellsM (zl rf10)) _ s10 hU28 row28 hi10.out ?_ | refine wpList_load_mid (by rfl) _ _ (by rfl) (x11.heap.size) 0 (by rfl) (cellsM (zl rf11)) _ s11 hU28 row28 hi11.out ?_ | fail)
                  refine (HPo.out).mono ?_
                  rintro e y12 ⟨rfl, hq_⟩
                  have HB := bel_step HB hq_
                  go_wp2_with fail
                  refine (HEx.out y12 HB).mono ?_
                  rintro e x_ ⟨rfl, hx_⟩
                  go_wp2
                  go_ret
                  exact ⟨by simp, bel_step HB hx_⟩
                · clear HG
                  go_wp2_with fail
                  refine (HEx.out v11 HB).mono ?_
                  rintro e x_ ⟨rfl, hx_⟩
                  go_wp2
                  go_ret
                  exact ⟨by simp, bel_step HB hx_⟩
                · clear HG
                  go_wp2_with fail
                  refine (HEx.out v11 HB).mono ?_
                  rintro e x_ ⟨rfl, hx_⟩
                  go_wp2
                  go_ret
                  exact ⟨by simp, bel_step HB hx_⟩
                · clear HG
                  go_wp2_with fail
                  refine (HEx.out v11 HB).mono ?_
                  rintro e x_ ⟨rfl, hx_⟩
                  go_wp2
                  go_ret
                  exact ⟨by simp, bel_step HB hx_⟩
              · clear hq9
                go_wp2_with fail
                refine (HEx.out v9 HB).mono ?_
                rintro e x_ ⟨rfl, hx_⟩
                go_wp2
                go_ret
                exact ⟨by simp, bel_step HB hx_⟩
              · clear hq9
                go_wp2_with fail
                refine (HEx.out v9 HB).mono ?_
                rintro e x_ ⟨rfl, hx_⟩
                go_wp2
                go_ret
                exact ⟨by simp, bel_step HB hx_⟩
              · clear hq9
                go_wp2_with fail
                refine (HEx.out v9 HB).mono ?_
                rintro e x_ ⟨rfl, hx_⟩
                go_wp2
                go_ret
                exact ⟨by simp, bel_step HB hx_⟩
          · clear ok5 ok6 mg5 mg6 hz5 hz6 hi5 hi6 s5 s6 HI5 HI6
            rcases hE6.out with rfl | rfl
            · go_upto_region 20 with fail
              have HAb := hid (LApply_h h9' h2 (w := v6) (Mb.out _ HB) (Mp.out _ HB))
              have hE9 := hid (aplE_err (fs := gs) h2)
              obtain ⟨⟨q9, e9⟩, hq9⟩ : ∃ q, aplE gs ps = q := ⟨_, rfl⟩
              rw [hq9] at HAb hE9
              go_wp2_with (first | refine wpList_load_mid (by rfl) _ _ (by rfl) (w.heap.size + 1) 0 (by rfl) (cellsM (zl gs)) _ r1 hU32 row32 hb.out ?_ | refine wpList_load_mid (by rfl) _ _ (by rfl) (w.heap.size + 1 + 1 + 1) 0 (by rfl) (cellsM (zl ps)) _ r3 hU28 row28 hd.out ?_ | fail)
              clear hq9
              refine (HAb.out).mono ?_
              rintro e x9 ⟨rf9, h29, rfl, hz9, ok9, mg9, hq_⟩
              have F1 := hFp.out x9 rf9 h29
              have h89 : (cellsM (zl rf9)).length = 8 := by rw [cellsM_len, zl_len, h29]
              go_upto_region 21 with fail
              refine enterR (P := fun u => Code.wp _ _ _ _ u) ?_
              intro v9 hv_ s9 sz_ hsz
              have qv9 := bel_step hq_ hv_
              have hi9 := hid (show (Try.prog.info? 28).map (·.size) = some (cellsM (zl rf9)).length by rw [h89]; exact T28i)
              have r3 := rng_below r3 qv9
              have ok9 : ∀ e ∈ zl rf9, e.ok v9 := fun e he => (ok9 e he).below hv_
              have mg9 : ∀ f ∈ rf9, f.mg v9 := fun f hf => (mg9 f hf).below hv_
              have HB := bel_step HB qv9
              clear F1 sz_ hsz hv_ hq_ h89
              go_wp2_with fail
              refine (HEx.out v9 HB).mono ?_
              rintro e x_ ⟨rfl, hx_⟩
              go_wp2
              go_ret
              exact ⟨by simp, bel_step HB hx_⟩
            · go_upto_region 20 with fail
              have HAb := hid (LApply_h h9' h2 (w := v6) (Mb.out _ HB) (Mp.out _ HB))
              have hE9 := hid (aplE_err (fs := gs) h2)
              obtain ⟨⟨q9, e9⟩, hq9⟩ : ∃ q, aplE gs ps = q := ⟨_, rfl⟩
              rw [hq9] at HAb hE9
              go_wp2_with (first | refine wpList_load_mid (by rfl) _ _ (by rfl) (w.heap.size + 1) 0 (by rfl) (cellsM (zl gs)) _ r1 hU32 row32 hb.out ?_ | refine wpList_load_mid (by rfl) _ _ (by rfl) (w.heap.size + 1 + 1 + 1) 0 (by rfl) (cellsM (zl ps)) _ r3 hU28 row28 hd.out ?_ | fail)
              clear hq9
              refine (HAb.out).mono ?_
              rintro e x9 ⟨rf9, h29, rfl, hz9, ok9, mg9, hq_⟩
              have F1 := hFp.out x9 rf9 h29
              have h89 : (cellsM (zl rf9)).length = 8 := by rw [cellsM_len, zl_len, h29]
              go_upto_region 21 with fail
              refine enterR (P := fun u => Code.wp _ _ _ _ u) ?_
              intro v9 hv_ s9 sz_ hsz
              have qv9 := bel_step hq_ hv_
              have hi9 := hid (show (Try.prog.info? 28).map (·.size) = some (cellsM (zl rf9)).length by rw [h89]; exact T28i)
              have r3 := rng_below r3 qv9
              have ok9 : ∀ e ∈ zl rf9, e.ok v9 := fun e he => (ok9 e he).below hv_
              have mg9 : ∀ f ∈ rf9, f.mg v9 := fun f hf => (mg9 f hf).below hv_
              have HB := bel_step HB qv9
              clear F1 sz_ hsz hv_ hq_ h89
              go_wp2_with fail
              refine (HEx.out v9 HB).mono ?_
              rintro e x_ ⟨rfl, hx_⟩
              go_wp2
              go_ret
              exact ⟨by simp, bel_step HB hx_⟩
end Go.Proofs.Ytgnfobnkhjlbbaa
