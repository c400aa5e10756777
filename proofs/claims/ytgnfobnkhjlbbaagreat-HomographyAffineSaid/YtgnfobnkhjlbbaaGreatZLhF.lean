/- The law HomographyAffine: its walk. Conditions: none. -/
import Derived.Test.YtgnfobnkhjlbbaaGreatZXA
import Derived.Test.YtgnfobnkhjlbbaaGreatZHr20
set_option linter.unusedVariables false
set_option linter.unusedSimpArgs false
namespace Go.Proofs.YtgnfobnkhjlbbaaGreat
open Go.RowKit Big
theorem six {α : Type} (l : List α) (h : l.length = 6) : ∃ a b c d e f, l = [a, b, c, d, e, f] := by
 match l, h with
 | [a, b, c, d, e, f], _ => exact ⟨a, b, c, d, e, f, rfl⟩
theorem affE_len {fs : List Rf} (h6 : fs.length = 6) : (affE fs).1.length = 18 := by
 unfold affE
 split
 ·split
  ·simp
  ·exact resZ_len (by simp [intZ_len, h6])
 ·simp
set_option maxRecDepth 100000 in
set_option maxHeartbeats 8000000 in
theorem HomographyAffine_law (fs : List Rf) (h6 : fs.length = 6) {w : World} (hm : ∀ f ∈ fs, f.mg w) (hex : ∀ W : World, Calls Tryz.prog 11 #[] W (RetB W true)) :
  Calls Tryz.prog 4 #[.agg (cellsM (zl fs)).toArray] w (RetB w true) := by
 have HEx := hid fun (W : World) (_ : Below w.heap.size w W) => hex W
 have hAL := affE_len h6
 obtain ⟨f0, f1, f2, f3, f4, f5, rfl⟩ := six fs h6
 have H1 := hid fun (W : World) (h : Below w.heap.size w W) => (HAffine_g (f0 := f0) (f1 := f1) (f2 := f2) (f3 := f3) (f4 := f4) (f5 := f5) (w := W) (fun f hf => (hm f hf).below h)).mono (R' := RetH W (affE [f0, f1, f2, f3, f4, f5])) fun e w' h => h.h hAL
 have H2 := hid fun (W : World) (h : Below w.heap.size w W) => (HRAffine_g (f0 := f0) (f1 := f1) (f2 := f2) (f3 := f3) (f4 := f4) (f5 := f5) (w := W) (fun f hf => (hm f hf).below h)).mono (R' := RetH W (affE [f0, f1, f2, f3, f4, f5])) fun e w' h => h.h hAL
 simp only [Rf.val] at H1 H2
 obtain ⟨⟨q1, e1⟩, hq1⟩ : ∃ q, affE [f0, f1, f2, f3, f4, f5] = q := ⟨_, rfl⟩
 rw [hq1] at H1 H2
 clear hm hex hq1 hAL h6
 have hFl : ∀ (v : World) (rf : List Rf), rf.length = 9 → (storeCells ⟨v.heap.size, 0, none⟩ (cellsM (zl rf))).run Tryz.prog (v.alloc (.cells (cellsM zeros18).toArray 32)) = .ok () (v.alloc (.cells (cellsM (zl rf)).toArray 32)) := fun v rf h => store_newN (P := Tryz.prog) (w := v) (l := zl rf) (zs := cellsM zeros18) 32 (by rw [cellsM_len, zl_len, h]; rfl) T32i
 simp only [zeros18, List.replicate, cellsM, ZE.cells, ZE.zero, List.cons_append, List.nil_append] at hFl
 have hFl := hid hFl
 obtain ⟨d32, hU32, row32⟩ := T32u
 go_enter Tryz.func4, Tryz.ntmps4
 go_upto_region 1 with fail
 refine enterR (P := fun u => Code.wp _ _ _ _ u) (c := cellsM (zl [f0, f1, f2, f3, f4, f5])) ?_
 intro u HB r0 zn0 hsz
 have hlt := zn0.lt
 clear hsz zn0
 have s00 : (u).cell? ⟨w.heap.size, 0, none⟩ = some (.bool f0.na) := r0 0 _ rfl
 have s01 : (u).cell? ⟨w.heap.size, 1, none⟩ = some (.slice f0.A f0.xs.length f0.ca) := r0 1 _ rfl
 have s02 : (u).cell? ⟨w.heap.size, 2, none⟩ = some (.bool f0.nb) := r0 2 _ rfl
 have s03 : (u).cell? ⟨w.heap.size, 3, none⟩ = some (.slice f0.B f0.ys.length f0.cb) := r0 3 _ rfl
 have s10 : (u).cell? ⟨w.heap.size, 4, none⟩ = some (.bool f1.na) := r0 4 _ rfl
 have s11 : (u).cell? ⟨w.heap.size, 5, none⟩ = some (.slice f1.A f1.xs.length f1.ca) := r0 5 _ rfl
 have s12 : (u).cell? ⟨w.heap.size, 6, none⟩ = some (.bool f1.nb) := r0 6 _ rfl
 have s13 : (u).cell? ⟨w.heap.size, 7, none⟩ = some (.slice f1.B f1.ys.length f1.cb) := r0 7 _ rfl
 have s20 : (u).cell? ⟨w.heap.size, 8, none⟩ = some (.bool f2.na) := r0 8 _ rfl
 have s21 : (u).cell? ⟨w.heap.size, 9, none⟩ = some (.slice f2.A f2.xs.length f2.ca) := r0 9 _ rfl
 have s22 : (u).cell? ⟨w.heap.size, 10, none⟩ = some (.bool f2.nb) := r0 10 _ rfl
 have s23 : (u).cell? ⟨w.heap.size, 11, none⟩ = some (.slice f2.B f2.ys.length f2.cb) := r0 11 _ rfl
 have s30 : (u).cell? ⟨w.heap.size, 12, none⟩ = some (.bool f3.na) := r0 12 _ rfl
 have s31 : (u).cell? ⟨w.heap.size, 13, none⟩ = some (.slice f3.A f3.xs.length f3.ca) := r0 13 _ rfl
 have s32 : (u).cell? ⟨w.heap.size, 14, none⟩ = some (.bool f3.nb) := r0 14 _ rfl
 have s33 : (u).cell? ⟨w.heap.size, 15, none⟩ = some (.slice f3.B f3.ys.length f3.cb) := r0 15 _ rfl
 have s40 : (u).cell? ⟨w.heap.size, 16, none⟩ = some (.bool f4.na) := r0 16 _ rfl
 have s41 : (u).cell? ⟨w.heap.size, 17, none⟩ = some (.slice f4.A f4.xs.length f4.ca) := r0 17 _ rfl
 have s42 : (u).cell? ⟨w.heap.size, 18, none⟩ = some (.bool f4.nb) := r0 18 _ rfl
 have s43 : (u).cell? ⟨w.heap.size, 19, none⟩ = some (.slice f4.B f4.ys.length f4.cb) := r0 19 _ rfl
 have s50 : (u).cell? ⟨w.heap.size, 20, none⟩ = some (.bool f5.na) := r0 20 _ rfl
 have s51 : (u).cell? ⟨w.heap.size, 21, none⟩ = some (.slice f5.A f5.xs.length f5.ca) := r0 21 _ rfl
 have s52 : (u).cell? ⟨w.heap.size, 22, none⟩ = some (.bool f5.nb) := r0 22 _ rfl
 have s53 : (u).cell? ⟨w.heap.size, 23, none⟩ = some (.slice f5.B f5.ys.length f5.cb) := r0 23 _ rfl
 go_wp2_with fail
 clear s00 s01 s02 s03 s10 s11 s12 s13 s20 s21 s22 s23 s30 s31 s32 s33 s40 s41 s42 s43 s50 s51 s52 s53
 refine (H1.out u HB).mono ?_
 rintro e x1 ⟨rf1, h91, rfl, hz1, ok1, mg1, hq_⟩
 have F1 := hFl.out x1 rf1 h91
 have h361 : (cellsM (zl rf1)).length = 36 := by rw [cellsM_len, zl_len, h91]
 go_upto_region 2 with fail
 refine enterR (P := fun u => Code.wp _ _ _ _ u) ?_
 intro v1 hv_ s1 sz_ hsz
 have qv1 := bel_step hq_ hv_
 have lx1 : x1.heap.size < v1.heap.size := sz_.lt
 have hi1 := hid (show (Tryz.prog.info? 32).map (·.size) = some (cellsM (zl rf1)).length by rw [h361]; exact T32i)
 have r0 := rng_below r0 qv1
 have ok1 : ∀ e ∈ zl rf1, e.ok v1 := fun e he => (ok1 e he).below hv_
 have mg1 : ∀ f ∈ rf1, f.mg v1 := fun f hf => (mg1 f hf).below hv_
 have HB := bel_step HB qv1
 clear F1 sz_ hsz hv_ hq_ h361
 have s00 : (v1).cell? ⟨w.heap.size, 0, none⟩ = some (.bool f0.na) := r0 0 _ rfl
 have s01 : (v1).cell? ⟨w.heap.size, 1, none⟩ = some (.slice f0.A f0.xs.length f0.ca) := r0 1 _ rfl
 have s02 : (v1).cell? ⟨w.heap.size, 2, none⟩ = some (.bool f0.nb) := r0 2 _ rfl
 have s03 : (v1).cell? ⟨w.heap.size, 3, none⟩ = some (.slice f0.B f0.ys.length f0.cb) := r0 3 _ rfl
 have s10 : (v1).cell? ⟨w.heap.size, 4, none⟩ = some (.bool f1.na) := r0 4 _ rfl
 have s11 : (v1).cell? ⟨w.heap.size, 5, none⟩ = some (.slice f1.A f1.xs.length f1.ca) := r0 5 _ rfl
 have s12 : (v1).cell? ⟨w.heap.size, 6, none⟩ = some (.bool f1.nb) := r0 6 _ rfl
 have s13 : (v1).cell? ⟨w.heap.size, 7, none⟩ = some (.slice f1.B f1.ys.length f1.cb) := r0 7 _ rfl
 have s20 : (v1).cell? ⟨w.heap.size, 8, none⟩ = some (.bool f2.na) := r0 8 _ rfl
 have s21 : (v1).cell? ⟨w.heap.size, 9, none⟩ = some (.slice f2.A f2.xs.length f2.ca) := r0 9 _ rfl
 have s22 : (v1).cell? ⟨w.heap.size, 10, none⟩ = some (.bool f2.nb) := r0 10 _ rfl
 have s23 : (v1).cell? ⟨w.heap.size, 11, none⟩ = some (.slice f2.B f2.ys.length f2.cb) := r0 11 _ rfl
 have s30 : (v1).cell? ⟨w.heap.size, 12, none⟩ = some (.bool f3.na) := r0 12 _ rfl
 have s31 : (v1).cell? ⟨w.heap.size, 13, none⟩ = some (.slice f3.A f3.xs.length f3.ca) := r0 13 _ rfl
 have s32 : (v1).cell? ⟨w.heap.size, 14, none⟩ = some (.bool f3.nb) := r0 14 _ rfl
 have s33 : (v1).cell? ⟨w.heap.size, 15, none⟩ = some (.slice f3.B f3.ys.length f3.cb) := r0 15 _ rfl
 have s40 : (v1).cell? ⟨w.heap.size, 16, none⟩ = some (.bool f4.na) := r0 16 _ rfl
 have s41 : (v1).cell? ⟨w.heap.size, 17, none⟩ = some (.slice f4.A f4.xs.length f4.ca) := r0 17 _ rfl
 have s42 : (v1).cell? ⟨w.heap.size, 18, none⟩ = some (.bool f4.nb) := r0 18 _ rfl
 have s43 : (v1).cell? ⟨w.heap.size, 19, none⟩ = some (.slice f4.B f4.ys.length f4.cb) := r0 19 _ rfl
 have s50 : (v1).cell? ⟨w.heap.size, 20, none⟩ = some (.bool f5.na) := r0 20 _ rfl
 have s51 : (v1).cell? ⟨w.heap.size, 21, none⟩ = some (.slice f5.A f5.xs.length f5.ca) := r0 21 _ rfl
 have s52 : (v1).cell? ⟨w.heap.size, 22, none⟩ = some (.bool f5.nb) := r0 22 _ rfl
 have s53 : (v1).cell? ⟨w.heap.size, 23, none⟩ = some (.slice f5.B f5.ys.length f5.cb) := r0 23 _ rfl
 go_wp2_with fail
 clear s00 s01 s02 s03 s10 s11 s12 s13 s20 s21 s22 s23 s30 s31 s32 s33 s40 s41 s42 s43 s50 s51 s52 s53
 refine (H2.out v1 HB).mono ?_
 rintro e x2 ⟨rf2, h92, rfl, hz2, ok2, mg2, hq_⟩
 have F1 := hFl.out x2 rf2 h92
 have h362 : (cellsM (zl rf2)).length = 36 := by rw [cellsM_len, zl_len, h92]
 go_upto_region 3 with fail
 refine enterR (P := fun u => Code.wp _ _ _ _ u) ?_
 intro v2 hv_ s2 sz_ hsz
 have qv2 := bel_step hq_ hv_
 have lx2 : x2.heap.size < v2.heap.size := sz_.lt
 have hi2 := hid (show (Tryz.prog.info? 32).map (·.size) = some (cellsM (zl rf2)).length by rw [h362]; exact T32i)
 have s1 := rng_below s1 qv2
 have ok2 : ∀ e ∈ zl rf2, e.ok v2 := fun e he => (ok2 e he).below hv_
 have mg2 : ∀ f ∈ rf2, f.mg v2 := fun f hf => (mg2 f hf).below hv_
 have HB := bel_step HB qv2
 clear F1 sz_ hsz hv_ hq_ h362
 have HE1 := hid (Lequal_g (w := v2) h91 h92 (fun e he => (ok1 e he).below qv2) ok2 true (by rw [hz1, hz2]; simp))
 clear hz1 hz2 ok1 ok2 mg1 mg2 H1 H2
 (try dsimp only at *)
 go_wp2_with (first | refine wpList_load_mid (by rfl) _ _ (by rfl) (x1.heap.size) 0 (by rfl) (cellsM (zl rf1)) _ s1 hU32 row32 hi1.out ?_ | refine wpList_load_mid (by rfl) _ _ (by rfl) (x2.heap.size) 0 (by rfl) (cellsM (zl rf2)) _ s2 hU32 row32 hi2.out ?_ | fail)
 refine HE1.out.mono ?_
 rintro e y1 ⟨rfl, hy1⟩
 have HB := bel_step HB hy1
 go_wp2_with fail
 refine (HEx.out y1 HB).mono ?_
 rintro e y3 ⟨rfl, hy3⟩
 go_wp2
 go_ret
 exact ⟨rfl, bel_step HB hy3⟩
end Go.Proofs.YtgnfobnkhjlbbaaGreat
