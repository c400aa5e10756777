/- The law SamplingWarps: its walk. Conditions: none. -/
import Derived.Test.YtdkgbkbbbldliaaGreatZLsX
import Derived.Test.YtdkgbkbbbldliaaGreatZSI
import Derived.Test.YtdkgbkbbbldliaaGreatZSm14
set_option linter.unusedVariables false
set_option linter.unusedSimpArgs false
namespace Go.Proofs.YtdkgbkbbbldliaaGreat
open Go.RowKit Big
set_option maxRecDepth 100000 in
set_option maxHeartbeats 4000000 in
theorem W8 (m : Bm) (A : Option Addr) (c : Nat) (fs : List Rf) (h9 : fs.length = 9) {w : World} (hb : Mb w A c m.d) (hm : ∀ f ∈ fs, f.mg w) (cols rows : Int) :
  Calls Tryz.prog 4 #[.agg #[.int .i64 m.w, .int .i64 m.h, .slice A m.d.length c], .agg (Kc (zl fs)).toArray, .int .i64 cols, .int .i64 rows] w (RetB w true) := by
 have hi := hid (show (Tryz.prog.info? 32).map (·.size) = some (Kc (zl fs)).length by rw [Kf, Ky, h9]; exact T32i)
 have HFw := hid fun (W : World) => Lfew_g m A c cols rows W
 have HSm := hid fun (W : World) (h : Below w.heap.size w W) => Wl fs h9 (w := W) (fun f hf => (hm f hf).below h)
 have H1 := hid fun (W : World) (h : Below w.heap.size w W) => Ef fs h9 (hb.below h) (fun f hf => (hm f hf).below h) cols rows
 have H2 := hid fun (W : World) (h : Below w.heap.size w W) => S4Warp_g fs h9 (hb.below h) (fun f hf => (hm f hf).below h) cols rows
 obtain ⟨⟨⟨pw, ph, pd⟩, pe⟩, hP⟩ : ∃ P, wrpE m (nrmB fs) (oneE adjZ fs).2 (bakZ fs) cols rows = P := ⟨_, rfl⟩
 rw [hP] at H1 H2
 obtain ⟨sm, hsm⟩ : ∃ b, (fs.all fun f => decide (f.sz ≤ 3)) = b := ⟨_, rfl⟩
 rw [hsm] at HSm
 have hEq := hid fun (B C : Option Addr) (k l : Nat) (W : World) (ha : Mb W B k pd) (hb : Mb W C l pd) => (show Calls Tryz.prog 15 #[.agg #[.int .i64 pw, .int .i64 ph, .slice B pd.length k], .agg #[.int .i64 pw, .int .i64 ph, .slice C pd.length l]] W (RetB W true) by
  have := Wh ⟨pw, ph, pd⟩ ⟨pw, ph, pd⟩ ha hb
  rwa [show eqM (⟨pw, ph, pd⟩ : Bm) ⟨pw, ph, pd⟩ = true by unfold eqM; simp] at this)
 clear hP hsm hb hm
 obtain ⟨d32, hU32, row32⟩ := T32u
 go_enter Tryz.func4, Tryz.ntmps4
 go_upto_region 1 with fail
 refine Jc (P := fun u => Code.wp _ _ _ _ u) (c0 := [.int .i64 m.w, .int .i64 m.h, .slice A m.d.length c]) (c1 := Kc (zl fs)) ?_
 intro u HB r0 r1 zn0 zn1 hsz
 clear hsz zn0 zn1
 have c0 : (u).cell? ⟨w.heap.size, 0, none⟩ = some (.int .i64 m.w) := r0 0 _ rfl
 have c1 : (u).cell? ⟨w.heap.size, 1, none⟩ = some (.int .i64 m.h) := r0 1 _ rfl
 have c2 : (u).cell? ⟨w.heap.size, 2, none⟩ = some (.slice A m.d.length c) := r0 2 _ rfl
 obtain ⟨bf, hbf⟩ := HFw.out u
 have hbf := hid hbf
 clear HFw r0
 go_wp2_with fail
 refine hbf.out.mono ?_
 rintro e v ⟨rfl, hv⟩
 have r1 := Ke r1 hv
 have c0 := Ka hv c0
 have c1 := Ka hv c1
 have c2 := Ka hv c2
 have HB := Kb HB hv
 clear hbf hv
 cases bf
 ·clear HSm H1 H2 hEq
  go_wp2_with fail
  refine (Qw _).mono ?_
  rintro e x_ ⟨rfl, hx_⟩
  have HB := Kb HB hx_
  go_wp2
  go_ret
  exact ⟨rfl, HB⟩
 ·go_wp2_with (first | refine Jg (by rfl) _ _ (by rfl) (w.heap.size + 1) 0 (by rfl) (Kc (zl fs)) _ r1 hU32 row32 hi.out ?_ | fail)
  refine (HSm.out v HB).mono ?_
  rintro e v1 ⟨rfl, hv1⟩
  have r1 := Ke r1 hv1
  have c0 := Ka hv1 c0
  have c1 := Ka hv1 c1
  have c2 := Ka hv1 c2
  have HB := Kb HB hv1
  clear HSm hv1
  cases sm
  ·clear H1 H2 hEq
   go_wp2_with fail
   refine (Qw _).mono ?_
   rintro e x_ ⟨rfl, hx_⟩
   have HB := Kb HB hx_
   go_wp2
   go_ret
   exact ⟨rfl, HB⟩
  ·go_wp2_with (first | refine wpList_load_mid (by rfl) _ _ (by rfl) (w.heap.size + 1) 0 (by rfl) (Kc (zl fs)) _ r1 hU32 row32 hi.out ?_ | fail)
   refine (H1.out v1 HB).mono ?_
   rintro e x1 ⟨A1, k1, rfl, hM1, hx1⟩
   dsimp only at hM1 ⊢
   go_upto_region 4 with fail
   refine Kw (P := fun u => Code.wp _ _ _ _ u) (c := [.int .i64 pw, .int .i64 ph, .slice A1 pd.length k1]) ?_
   intro v2 hv2 s1 z1 hsz
   have h12 := Kb hx1 hv2
   have r1 := Ke r1 h12
   have c0 := Ka h12 c0
   have c1 := Ka h12 c1
   have c2 := Ka h12 c2
   have HB := Kb HB h12
   have hM1 := hM1.below hv2
   clear H1 z1 hsz hx1 hv2 h12
   go_wp2_with (first | refine wpList_load_mid (by rfl) _ _ (by rfl) (w.heap.size + 1) 0 (by rfl) (Kc (zl fs)) _ r1 hU32 row32 hi.out ?_ | fail)
   refine (H2.out v2 HB).mono ?_
   rintro e x2 ⟨A2, k2, rfl, hM2, hx2⟩
   dsimp only at hM2 ⊢
   go_upto_region 5 with fail
   refine Kw (P := fun u => Code.wp _ _ _ _ u) (c := [.int .i64 pw, .int .i64 ph, .slice A2 pd.length k2]) ?_
   intro v3 hv3 s2 z2 hsz
   have h23 := Kb hx2 hv3
   have s1 := Ke s1 h23
   have HB := Kb HB h23
   have hM1 := hM1.below h23
   have hM2 := hM2.below hv3
   clear H2 r1 c0 c1 c2 z2 hsz hx2 hv3 h23
   have e0 : v3.cell? ⟨x1.heap.size, 0, none⟩ = some (.int .i64 pw) := s1 0 _ rfl
   have e1 : v3.cell? ⟨x1.heap.size, 1, none⟩ = some (.int .i64 ph) := s1 1 _ rfl
   have e2 : v3.cell? ⟨x1.heap.size, 2, none⟩ = some (.slice A1 pd.length k1) := s1 2 _ rfl
   have f0 : v3.cell? ⟨x2.heap.size, 0, none⟩ = some (.int .i64 pw) := s2 0 _ rfl
   have f1 : v3.cell? ⟨x2.heap.size, 1, none⟩ = some (.int .i64 ph) := s2 1 _ rfl
   have f2 : v3.cell? ⟨x2.heap.size, 2, none⟩ = some (.slice A2 pd.length k2) := s2 2 _ rfl
   have hEq := hid (hEq.out A1 A2 k1 k2 v3 hM1 hM2)
   clear s1 s2 hM1 hM2
   generalize pd.length = n at *
   go_wp2_with fail
   refine hEq.out.mono ?_
   rintro e w1 ⟨rfl, hw1⟩
   have HB := Kb HB hw1
   clear e0 e1 e2 f0 f1 f2 hEq hw1
   go_wp2_with fail
   refine (Qw _).mono ?_
   rintro e x_ ⟨rfl, hx_⟩
   have HB := Kb HB hx_
   go_wp2
   go_ret
   exact ⟨rfl, HB⟩
end Go.Proofs.YtdkgbkbbbldliaaGreat
