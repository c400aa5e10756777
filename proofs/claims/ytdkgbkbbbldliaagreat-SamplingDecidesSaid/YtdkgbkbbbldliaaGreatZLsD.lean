/- The law SamplingDecides: its walk. Conditions: none. -/
import Derived.Test.YtdkgbkbbbldliaaGreatZLsX
import Derived.Test.YtdkgbkbbbldliaaGreatZSm16
set_option linter.unusedVariables false
set_option linter.unusedSimpArgs false
namespace Go.Proofs.YtdkgbkbbbldliaaGreat
open Go.RowKit Big
set_option maxRecDepth 100000 in
set_option maxHeartbeats 4000000 in
theorem Ym (fs : List Rf) (h9 : fs.length = 9) {w : World} (hm : ∀ f ∈ fs, f.mg w) (cols rows ww hh : Int) :
  Calls Tryz.prog 6 #[.agg (Kc (zl fs)).toArray, .int .i64 cols, .int .i64 rows, .int .i64 ww, .int .i64 hh] w (RetB w true) := by
 have hi := hid (show (Tryz.prog.info? 32).map (·.size) = some (Kc (zl fs)).length by rw [Kf, Ky, h9]; exact T32i)
 have HFw := hid fun (W : World) => (show ∃ b, Calls Tryz.prog 10 #[.agg #[.int .i64 0, .int .i64 0, .slice none 0 0], .int .i64 cols, .int .i64 rows] W (RetB W b) from Lfew_g noB none 0 cols rows W)
 have HSm := hid fun (W : World) (h : Below w.heap.size w W) => Wl fs h9 (w := W) (fun f hf => (hm f hf).below h)
 have H1 := hid fun (W : World) (h : Below w.heap.size w W) => Xm fs h9 (w := W) (fun f hf => (hm f hf).below h) cols rows ww hh
 have H2 := hid fun (W : World) (h : Below w.heap.size w W) => S4Faithful_g fs h9 (w := W) (fun f hf => (hm f hf).below h) cols rows ww hh
 obtain ⟨⟨pb, pe⟩, hP⟩ : ∃ P, fthE (nrmB fs) (oneE adjZ fs).2 (nrmZ fs) (bakZ fs) cols rows ww hh = P := ⟨_, rfl⟩
 rw [hP] at H1 H2
 obtain ⟨sm, hsm⟩ : ∃ b, (fs.all fun f => decide (f.sz ≤ 3)) = b := ⟨_, rfl⟩
 rw [hsm] at HSm
 clear hP hsm hm
 obtain ⟨d32, hU32, row32⟩ := T32u
 go_enter Tryz.func6, Tryz.ntmps6
 go_upto_region 1 with fail
 refine Kw (P := fun u => Code.wp _ _ _ _ u) (c := Kc (zl fs)) ?_
 intro u HB r1 zn1 hsz
 clear hsz zn1
 obtain ⟨bf, hbf⟩ := HFw.out u
 have hbf := hid hbf
 clear HFw
 go_wp2_with fail
 refine hbf.out.mono ?_
 rintro e v ⟨rfl, hv⟩
 have r1 := Ke r1 hv
 have HB := Kb HB hv
 clear hbf hv
 cases bf
 ·clear HSm H1 H2
  go_wp2_with fail
  refine (Qw _).mono ?_
  rintro e x_ ⟨rfl, hx_⟩
  have HB := Kb HB hx_
  go_wp2
  go_ret
  exact ⟨rfl, HB⟩
 ·go_wp2_with (first | refine Jg (by rfl) _ _ (by rfl) w.heap.size 0 (by rfl) (Kc (zl fs)) _ r1 hU32 row32 hi.out ?_ | fail)
  refine (HSm.out v HB).mono ?_
  rintro e v1 ⟨rfl, hv1⟩
  have r1 := Ke r1 hv1
  have HB := Kb HB hv1
  clear HSm hv1
  cases sm
  ·clear H1 H2
   go_wp2_with fail
   refine (Qw _).mono ?_
   rintro e x_ ⟨rfl, hx_⟩
   have HB := Kb HB hx_
   go_wp2
   go_ret
   exact ⟨rfl, HB⟩
  ·go_wp2_with (first | refine wpList_load_mid (by rfl) _ _ (by rfl) w.heap.size 0 (by rfl) (Kc (zl fs)) _ r1 hU32 row32 hi.out ?_ | fail)
   refine (H1.out v1 HB).mono ?_
   rintro e v2 ⟨rfl, hv2⟩
   dsimp only
   have r1 := Ke r1 hv2
   have HB := Kb HB hv2
   clear H1 hv2
   go_wp2_with (first | refine wpList_load_mid (by rfl) _ _ (by rfl) w.heap.size 0 (by rfl) (Kc (zl fs)) _ r1 hU32 row32 hi.out ?_ | fail)
   refine (H2.out v2 HB).mono ?_
   rintro e v3 ⟨rfl, hv3⟩
   dsimp only
   have HB := Kb HB hv3
   clear H2 hv3 r1
   go_wp2_with fail
   refine (Qw _).mono ?_
   rintro e x_ ⟨rfl, hx_⟩
   have HB := Kb HB hx_
   go_wp2
   go_ret
   exact ⟨rfl, HB⟩
end Go.Proofs.YtdkgbkbbbldliaaGreat
