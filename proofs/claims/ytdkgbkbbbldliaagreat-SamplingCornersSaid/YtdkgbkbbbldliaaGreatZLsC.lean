/- The law SamplingCorners: its walk. Conditions: none. -/
import Derived.Test.YtdkgbkbbbldliaaGreatZLsX
import Derived.Test.YtdkgbkbbbldliaaGreatZSm18
set_option linter.unusedVariables false
set_option linter.unusedSimpArgs false
namespace Go.Proofs.YtdkgbkbbbldliaaGreat
open Go.RowKit Big
theorem pt_at {W : World} {g : Nat} {l : List ZE} (hr : W.rangeAt g 0 (Kc l)) (hl : l.length = 16) (ho : ∀ e ∈ l, e.ok W) {j : Nat} (hj : j < 4) :
  ∃ e0 e1 e2 e3 : ZE, W.rangeAt g (j * 8) (Kc [e0, e1, e2, e3]) ∧ [e0.z, e1.z, e2.z, e3.z] = ((l.map (·.z)).drop (4 * j)).take 4 ∧ ∀ e ∈ [e0, e1, e2, e3], e.ok W := by
 have e := split4 l (4 * j)
 obtain ⟨M, hM⟩ : ∃ M, (l.drop (4 * j)).take 4 = M := ⟨_, rfl⟩
 have lM : M.length = 4 := by rw [← hM, List.length_take, List.length_drop]; omega
 have hz : M.map (·.z) = ((l.map (·.z)).drop (4 * j)).take 4 := by rw [← hM, List.map_take, List.map_drop]
 have hmem : ∀ e ∈ M, e ∈ l := fun e he => by rw [← hM] at he; exact List.mem_of_mem_drop (List.mem_of_mem_take he)
 rw [hM] at e
 rw [e] at hr
 have hm := Qm _ _ _ hr
 rw [List.length_take, Nat.min_eq_left (by omega), Nat.zero_add, show 2 * (4 * j) = j * 8 by omega] at hm
 clear hM e
 match M, lM, hm, hz, hmem with
 | [e0, e1, e2, e3], _, hm, hz, hmem => exact ⟨e0, e1, e2, e3, hm, hz, fun e he => ho e (hmem e he)⟩
set_option maxRecDepth 100000 in
set_option maxHeartbeats 4000000 in
theorem Yv (fs : List Rf) (h9 : fs.length = 9) {w : World} (hm : ∀ f ∈ fs, f.mg w) (cols rows : Int) :
  Calls Tryz.prog 5 #[.agg (Kc (zl fs)).toArray, .int .i64 cols, .int .i64 rows] w (RetB w true) := by
 have hi := hid (show (Tryz.prog.info? 32).map (·.size) = some (Kc (zl fs)).length by rw [Kf, Ky, h9]; exact T32i)
 have HSm := hid fun (W : World) (h : Below w.heap.size w W) => Wl fs h9 (w := W) (fun f hf => (hm f hf).below h)
 have H1 := hid fun (W : World) (h : Below w.heap.size w W) => Hd fs h9 (w := W) (fun f hf => (hm f hf).below h) cols rows
 have H2 := hid fun (W : World) (h : Below w.heap.size w W) => S4Corners_g fs h9 (w := W) (fun f hf => (hm f hf).below h) cols rows
 obtain ⟨⟨pz, pe⟩, hP⟩ : ∃ P, crnB (nrmB fs) (nrmZ fs) cols rows = P := ⟨_, rfl⟩
 rw [hP] at H1 H2
 obtain ⟨sm, hsm⟩ : ∃ b, (fs.all fun f => decide (f.sz ≤ 3)) = b := ⟨_, rfl⟩
 rw [hsm] at HSm
 have hF16 : ∀ (v : World) (l : List ZE), l.length = 16 → (storeCells ⟨v.heap.size, 0, none⟩ (Kc l)).run Tryz.prog (v.alloc (.cells (Kc Ku).toArray 43)) = .ok () (v.alloc (.cells (Kc l).toArray 43)) := fun v l h => Jw (P := Tryz.prog) (w := v) (l := l) (zs := Kc Ku) 43 (by rw [Kf, h]; rfl) T43i
 simp only [Ku, List.replicate, Kc, ZE.cells, ZE.zero, List.cons_append, List.nil_append] at hF16
 have hF16 := hid hF16
 clear hP hsm hm
 obtain ⟨d32, hU32, row32⟩ := T32u
 obtain ⟨d28, hU28, row28⟩ := T28u
 go_enter Tryz.func5, Tryz.ntmps5
 go_upto_region 1 with fail
 refine Kw (P := fun u => Code.wp _ _ _ _ u) (c := Kc (zl fs)) ?_
 intro u HB r1 zn1 hsz
 clear hsz zn1
 go_wp2_with (first | refine wpList_load_mid (by rfl) _ _ (by rfl) w.heap.size 0 (by rfl) (Kc (zl fs)) _ r1 hU32 row32 hi.out ?_ | fail)
 refine (HSm.out u HB).mono ?_
 rintro e v1 ⟨rfl, hv1⟩
 have r1 := Ke r1 hv1
 have HB := Kb HB hv1
 clear HSm hv1
 cases sm
 ·clear H1 H2 hF16
  go_wp2_with fail
  refine (Qw _).mono ?_
  rintro e x_ ⟨rfl, hx_⟩
  have HB := Kb HB hx_
  go_wp2
  go_ret
  exact ⟨rfl, HB⟩
 ·go_wp2_with (first | refine wpList_load_mid (by rfl) _ _ (by rfl) w.heap.size 0 (by rfl) (Kc (zl fs)) _ r1 hU32 row32 hi.out ?_ | fail)
  refine (H1.out v1 HB).mono ?_
  rintro e x1 ⟨la, la16, rfl, laz, lao, hx1⟩
  have F1 := hF16.out x1 la la16
  have h32 : (Kc la).length = 32 := by rw [Kf, la16]
  dsimp only at laz ⊢
  go_upto_region 4 with fail
  refine Kw (P := fun u => Code.wp _ _ _ _ u) (c := Kc la) ?_
  intro v2 hv2 s1 z1 hsz
  have h12 := Kb hx1 hv2
  have r1 := Ke r1 h12
  have HB := Kb HB h12
  have lao := fun e he => (lao e he).below hv2
  clear H1 z1 hsz hx1 hv2 h12 F1 h32
  go_wp2_with (first | refine wpList_load_mid (by rfl) _ _ (by rfl) w.heap.size 0 (by rfl) (Kc (zl fs)) _ r1 hU32 row32 hi.out ?_ | fail)
  refine (H2.out v2 HB).mono ?_
  rintro e x2 ⟨lb, lb16, rfl, lbz, lbo, hx2⟩
  have F1 := hF16.out x2 lb lb16
  have h32 : (Kc lb).length = 32 := by rw [Kf, lb16]
  dsimp only at lbz ⊢
  go_upto_region 5 with fail
  refine Kw (P := fun u => Code.wp _ _ _ _ u) (c := Kc lb) ?_
  intro v3 hv3 s2 z2 hsz
  have h23 := Kb hx2 hv3
  have s1 := hid (Ke s1 h23)
  have s2 := hid s2
  have HB := Kb HB h23
  have lao := hid fun e he => (lao e he).below h23
  have lbo := hid fun e he => (lbo e he).below hv3
  have hlz := hid (laz.trans lbz.symm)
  clear H2 z2 hsz hx2 hv3 h23 F1 h32 hF16 r1 laz lbz
  go_wp2
  go_loopw [11] (fun s11 wr => ∃ j : Nat, j ≤ 4 ∧ s11 = .int .i64 j ∧ Below v3.heap.size v3 wr) (fun s11 _ => 4 - (intOf s11).toNat)
  case atStart => exact ⟨0, by omega, rfl, Below.refl _ _⟩
  case round =>
   obtain ⟨j, hj, rfl, hb⟩ := hrel
   by_cases h4 : j < 4
   ·have h4i : (j : Int) < 4 := by omega
    obtain ⟨e0, e1, e2, e3, ra, za, oa⟩ := pt_at (Ke s1.out hb) la16 (fun e he => (lao.out e he).below hb) h4
    obtain ⟨f0, f1, f2, f3, rb, zb, ob⟩ := pt_at (Ke s2.out hb) lb16 (fun e he => (lbo.out e he).below hb) h4
    rw [hlz.out, ← zb] at za
    simp only [List.cons.injEq, and_true] at za
    obtain ⟨y0, y1, y2, y3⟩ := za
    have HSP := hid fun (W : World) (h : Below wr.heap.size wr W) => (show Calls Tryz.prog 20 #[.agg (Kc [e0, e1, e2, e3]).toArray, .agg (Kc [f0, f1, f2, f3]).toArray] W (RetB W true) from by
     have := Vk (w := W) ((oa e0 (by simp)).below h) ((oa e1 (by simp)).below h) ((oa e2 (by simp)).below h) ((oa e3 (by simp)).below h) ((ob f0 (by simp)).below h) ((ob f1 (by simp)).below h) ((ob f2 (by simp)).below h) ((ob f3 (by simp)).below h)
     rw [y0, y1, y2, y3] at this
     simpa using this)
    have hiA := hid (show (Tryz.prog.info? 42).map (·.size) = some (Kc [e0, e1, e2, e3]).length from T28i)
    have hiB := hid (show (Tryz.prog.info? 42).map (·.size) = some (Kc [f0, f1, f2, f3]).length from T28i)
    have ra := hid ra
    have rb := hid rb
    clear oa ob y0 y1 y2 y3 zb
    go_upto_region 8 with fail
    have qc : Below wr.heap.size wr wr.drew := Qj
    refine wp_region_held_drew (S := fun w' => Below wr.heap.size wr w') (by kernel_rfl) ?_ (fun hHeld => ?_)
    ·exact qc
    generalize wr.drew = vd at *
    refine' TKa 0 ?_
    refine' TKa 1 ?_
    refine tk (i := 2) rfl (by decide +kernel) (yieldsIf_load_mid (by rfl) _ _ (by rfl) (x1.heap.size) (j * 8) (by rfl) (Kc [e0, e1, e2, e3]) _ (fun w_ hS_ => Ke ra.out hS_) hU28 (by first | rfl | assumption) hiA.out) (by assumption) (fun _ _ _ h => h) ?_
    (try simp only [Act.put, Lp0, Lp1, Lp2])
    refine' TKa 3 ?_
    refine' TKa 4 ?_
    refine tk (i := 5) rfl (by decide +kernel) (yieldsIf_load_mid (by rfl) _ _ (by rfl) (x2.heap.size) (j * 8) (by rfl) (Kc [f0, f1, f2, f3]) _ (fun w_ hS_ => Ke rb.out hS_) hU28 (by first | rfl | assumption) hiB.out) (by assumption) (fun _ _ _ h => h) ?_
    (try simp only [Act.put, Lp0, Lp1, Lp2])
    refine BRa 6 (fun K hK => ?_)
    go_simp
    (go_at_call 20; refine (HSP.out _ qc).mono ?_; rintro e a1 ⟨rfl, hq_⟩; have qc := Kb qc hq_)
    (try go_wp2_with fail)
    refine' HKa hK (by exact qc) (fun hHeld => ?_)
    clear hK K
    refine' TKa 7 ?_
    refine wpAnyH_done (by kernel_rfl) ?_ _
    have hb4 := Kb hb qc
    clear ra rb HSP hHeld
    go_wp2
    go_roundw
    case rel => exact ⟨j + 1, by omega, by go_num, hb4⟩
    case measure => simp [intOf]; omega
   ·obtain rfl : j = 4 := by omega
    have HB := Kb HB hb
    clear s1 s2 lao lbo
    go_wp2_with fail
    refine (Qw _).mono ?_
    rintro e x_ ⟨rfl, hx_⟩
    have HB := Kb HB hx_
    go_wp2
    go_ret
    exact ⟨rfl, HB⟩
end Go.Proofs.YtdkgbkbbbldliaaGreat
