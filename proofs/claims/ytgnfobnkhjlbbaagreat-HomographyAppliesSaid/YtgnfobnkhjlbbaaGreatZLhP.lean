/- The law HomographyApplies: its walk. Conditions: none. -/
import Derived.Test.YtgnfobnkhjlbbaaGreatZXA
import Derived.Test.YtgnfobnkhjlbbaaGreatZHr19
set_option linter.unusedVariables false
set_option linter.unusedSimpArgs false
namespace Go.Proofs.YtgnfobnkhjlbbaaGreat
open Go.RowKit Big
set_option maxRecDepth 100000 in
set_option maxHeartbeats 8000000 in
theorem HomographyApplies_law (fs ps : List Rf) (h9 : fs.length = 9) (h2 : ps.length = 2) {w : World} (hm : ∀ f ∈ fs, f.mg w) (hm' : ∀ f ∈ ps, f.mg w) (hex : ∀ W : World, Calls Tryz.prog 11 #[] W (RetB W true)) :
  Calls Tryz.prog 5 #[.agg (cellsM (zl fs)).toArray, .agg (cellsM (zl ps)).toArray] w (RetB w true) := by
 have hi := hid (show (Tryz.prog.info? 32).map (·.size) = some (cellsM (zl fs)).length by rw [cellsM_len, zl_len, h9]; exact T32i)
 have hi' := hid (show (Tryz.prog.info? 28).map (·.size) = some (cellsM (zl ps)).length by rw [cellsM_len, zl_len, h2]; exact T28i)
 have HEx := hid fun (W : World) (_ : Below w.heap.size w W) => hex W
 have H1 := hid fun (W : World) (h : Below w.heap.size w W) => LApply_h h9 h2 (w := W) (fun f hf => (hm f hf).below h) (fun f hf => (hm' f hf).below h)
 have H2 := hid fun (W : World) (h : Below w.heap.size w W) => (HRApply_g fs ps h9 h2 (w := W) (fun f hf => (hm f hf).below h) (fun f hf => (hm' f hf).below h)).mono (R' := RetP W (aplE fs ps)) fun e w' h => h.h aplE_len
 obtain ⟨⟨q1, e1⟩, hq1⟩ : ∃ q, aplE fs ps = q := ⟨_, rfl⟩
 rw [hq1] at H1 H2
 clear hm hm' hex hq1
 have hFp : ∀ (v : World) (rf : List Rf), rf.length = 2 → (storeCells ⟨v.heap.size, 0, none⟩ (cellsM (zl rf))).run Tryz.prog (v.alloc (.cells (cellsM zeros4).toArray 28)) = .ok () (v.alloc (.cells (cellsM (zl rf)).toArray 28)) := fun v rf h => store_newN (P := Tryz.prog) (w := v) (l := zl rf) (zs := cellsM zeros4) 28 (by rw [cellsM_len, zl_len, h]; rfl) T28i
 simp only [zeros4, List.replicate, cellsM, ZE.cells, ZE.zero, List.cons_append, List.nil_append] at hFp
 have hFp := hid hFp
 obtain ⟨d28, hU28, row28⟩ := T28u
 obtain ⟨d32, hU32, row32⟩ := T32u
 go_enter Tryz.func5, Tryz.ntmps5
 go_upto_region 1 with fail
 refine enterR2 (P := fun u => Code.wp _ _ _ _ u) ?_
 intro u HB r0 r1 zn0 zn1 hsz
 clear hsz zn0 zn1
 go_wp2_with (first | refine wpList_load_mid (by rfl) _ _ (by rfl) (w.heap.size) 0 (by rfl) (cellsM (zl fs)) _ r0 hU32 row32 hi.out ?_ | refine wpList_load_mid (by rfl) _ _ (by rfl) (w.heap.size + 1) 0 (by rfl) (cellsM (zl ps)) _ r1 hU28 row28 hi'.out ?_ | fail)
 refine (H1.out u HB).mono ?_
 rintro e x1 ⟨rf1, h21, rfl, hz1, ok1, mg1, hq_⟩
 have F1 := hFp.out x1 rf1 h21
 have h81 : (cellsM (zl rf1)).length = 8 := by rw [cellsM_len, zl_len, h21]
 go_upto_region 2 with fail
 refine enterR (P := fun u => Code.wp _ _ _ _ u) ?_
 intro v1 hv_ s1 sz_ hsz
 have qv1 := bel_step hq_ hv_
 have hi1 := hid (show (Tryz.prog.info? 28).map (·.size) = some (cellsM (zl rf1)).length by rw [h81]; exact T28i)
 have r0 := rng_below r0 qv1
 have r1 := rng_below r1 qv1
 have ok1 : ∀ e ∈ zl rf1, e.ok v1 := fun e he => (ok1 e he).below hv_
 have mg1 : ∀ f ∈ rf1, f.mg v1 := fun f hf => (mg1 f hf).below hv_
 have HB := bel_step HB qv1
 clear F1 sz_ hsz hv_ hq_ h81
 go_wp2_with (first | refine wpList_load_mid (by rfl) _ _ (by rfl) (w.heap.size) 0 (by rfl) (cellsM (zl fs)) _ r0 hU32 row32 hi.out ?_ | refine wpList_load_mid (by rfl) _ _ (by rfl) (w.heap.size + 1) 0 (by rfl) (cellsM (zl ps)) _ r1 hU28 row28 hi'.out ?_ | fail)
 refine (H2.out v1 HB).mono ?_
 rintro e x2 ⟨rf2, h22, rfl, hz2, ok2, mg2, hq_⟩
 have F1 := hFp.out x2 rf2 h22
 have h82 : (cellsM (zl rf2)).length = 8 := by rw [cellsM_len, zl_len, h22]
 go_upto_region 3 with fail
 refine enterR (P := fun u => Code.wp _ _ _ _ u) ?_
 intro v2 hv_ s2 sz_ hsz
 have qv2 := bel_step hq_ hv_
 have hi2 := hid (show (Tryz.prog.info? 28).map (·.size) = some (cellsM (zl rf2)).length by rw [h82]; exact T28i)
 have s1 := rng_below s1 qv2
 have ok2 : ∀ e ∈ zl rf2, e.ok v2 := fun e he => (ok2 e he).below hv_
 have mg2 : ∀ f ∈ rf2, f.mg v2 := fun f hf => (mg2 f hf).below hv_
 have HB := bel_step HB qv2
 clear F1 sz_ hsz hv_ hq_ h82
 have HE1 := hid (Lpoint_g (w := v2) h21 h22 (fun e he => (ok1 e he).below qv2) ok2 true (by rw [hz1, hz2]; simp))
 clear hz1 hz2 ok1 ok2 mg1 mg2 H1 H2
 (try dsimp only at *)
 go_wp2_with (first | refine wpList_load_mid (by rfl) _ _ (by rfl) (x1.heap.size) 0 (by rfl) (cellsM (zl rf1)) _ s1 hU28 row28 hi1.out ?_ | refine wpList_load_mid (by rfl) _ _ (by rfl) (x2.heap.size) 0 (by rfl) (cellsM (zl rf2)) _ s2 hU28 row28 hi2.out ?_ | fail)
 refine HE1.out.mono ?_
 rintro e y1 ⟨rfl, hy1⟩
 have HB := bel_step HB hy1
 go_wp2_with fail
 refine (HEx.out y1 HB).mono ?_
 rintro e y3 ⟨rfl, hy3⟩
 go_wp2
 go_ret
 exact ⟨rfl, bel_step HB hy3⟩
end Go.Proofs.YtgnfobnkhjlbbaaGreat
