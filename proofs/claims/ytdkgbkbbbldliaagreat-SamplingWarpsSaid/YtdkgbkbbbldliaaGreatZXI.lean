/- Homographies, the reference: walk of Inverse. Conditions: none. -/
import Derived.Test.YtdkgbkbbbldliaaGreatZXD
import Derived.Test.YtdkgbkbbbldliaaGreatZXC
import Derived.Test.YtdkgbkbbbldliaaGreatZSI
set_option linter.unusedVariables false
set_option linter.unusedSimpArgs false
namespace Go.Proofs.YtdkgbkbbbldliaaGreat
open Go.RowKit Big
set_option maxRecDepth 100000 in
set_option maxHeartbeats 8000000 in
theorem HRInverse_g (fs : List Rf) (h9 : fs.length = 9) {w : World} (hm : ∀ f ∈ fs, f.mg w) :
  Calls Tryz.prog 42 #[.agg (Kc (zl fs)).toArray] w (Hn w (oneE (adjZ) fs)) := by
 have hl : (zl fs).length = 18 := by rw [Ky, h9]
 obtain ⟨d32, u32, row32⟩ := T32u
 have hi := hid (show (Tryz.prog.info? 32).map (·.size) = some (Kc (zl fs)).length by rw [Kf, hl]; exact T32i)
 have hi18 := hid (show (Tryz.prog.info? 94).map (·.size) = some 18 by kernel_rfl)
 have HN := hid fun (w1 : World) (h : Below w.heap.size w w1) => Zp fs h9 (w := w1) (fun f hf => (hm f hf).below h)
 have hnl := Jf h9
 clear hm
 go_enter Tryz.func42, Tryz.ntmps42
 go_upto_region 1 with fail
 refine Jc (P := fun u => Code.wp _ _ _ _ u) ?_
 intro u HB r0 r1 zn0 zn1 hsz
 have r1 : u.rangeAt (w.heap.size + 1) 0 (Kc Kj) := r1
 clear hsz
 cases hb : nrmB fs
 ·have HR : Hid (oneE (adjZ) fs = (List.replicate 18 0, 1)) := by unfold Hid oneE; rw [hb]; rfl
  rw [hb] at HN
  clear hb hnl
  go_wp2_with (first | refine wpList_load_mid (by rfl) _ _ (by rfl) w.heap.size 0 (by rfl) (Kc (zl fs)) _ r0 u32 row32 hi.out ?_ | fail)
  refine (HN.out u HB).mono ?_
  rintro e w1 ⟨l1, hl1, rfl, hz1, h1⟩
  have F1 := Jt (w := w1) hl1 _ hi18.out
  have h18 : (Kc l1).length = 18 := by rw [Kf, hl1]
  go_upto_region 2 with fail
  refine Kw (P := fun u => Code.wp _ _ _ _ u) ?_
  intro v hv q0 qz hsz
  have r1 := Ke (Ke r1 h1) hv
  have zn1 := (zn1.below h1).below hv
  have HB := Kb (Kb HB h1) hv
  clear hsz F1 hz1 HN u32 row32
  go_upto_region 3 with fail
  have ht := Kq r1 zn1
  have ho := all_oneCell_toArray (Km Kj)
  obtain ⟨d32, u32, row32⟩ := T32u
  obtain ⟨G1, G2, G3, G4⟩ := Ju (w := w) (l := Kj) (cs := Kj) u32 row32 T32i HB (by omega) r1 zn1 rfl (fun e he => by rw [List.eq_of_mem_replicate he]; exact ZE.zero_ok _)
  have HF := hid (And.intro G3 G4)
  clear G1 G3 G4
  go_wp2_with (first | refine wpList_store_mid (by rfl) _ _ _ (by rfl) (w.heap.size + 1) 0 (Kc Kj).toArray (by rfl) (by rfl) ht T32i ho ?_ | fail)
  refine bodyPost_ret (v := .tuple #[.agg (Kc Kj).toArray, .int .i64 1]) ?_ rfl ?_
  ·simp [results, Tryz.results42, Sem.run_bind, asAddr, G2]
  ·rw [HR.out]
   exact ⟨Kj, rfl, rfl, HF.out.2, HF.out.1⟩
 ·have HR : Hid (oneE (adjZ) fs = resZ ((adjZ) (nrmZ fs))) := by unfold Hid oneE; rw [hb]; rfl
  obtain ⟨hbz, hdet⟩ := Zo hb
  rw [hb] at HN
  clear hb hdet
  go_wp2_with (first | refine wpList_load_mid (by rfl) _ _ (by rfl) w.heap.size 0 (by rfl) (Kc (zl fs)) _ r0 u32 row32 hi.out ?_ | fail)
  refine (HN.out u HB).mono ?_
  rintro e w1 ⟨l1, hl1, rfl, hz1, h1⟩
  obtain ⟨hz, hok⟩ := hz1 rfl
  have F1 := Jt (w := w1) hl1 _ hi18.out
  have h18 : (Kc l1).length = 18 := by rw [Kf, hl1]
  go_upto_region 2 with fail
  refine Kw (P := fun u => Code.wp _ _ _ _ u) ?_
  intro v hv q0 qz hsz
  have r1 := Ke (Ke r1 h1) hv
  have zn1 := (zn1.below h1).below hv
  have HB := Kb (Kb HB h1) hv
  have hok2 : ∀ e ∈ l1, e.ok v := fun e he => (hok e he).below hv
  have hbe : ∀ e ∈ l1, Bz 1280 e.z := fun e he => hbz e.z (hz ▸ List.mem_map.2 ⟨e, he, rfl⟩)
  have hi3 := hid (show (Tryz.prog.info? 94).map (·.size) = some (Kc l1).length by rw [h18]; exact hi18.out)
  clear hsz F1 HN u32 row32 hz1 r0 hbz h1 hv
  go_upto_region 4 with fail
  have HAd := hid (HRadjugate_g l1 hl1 hok2 (k := 1280) (by omega) hbe)
  rw [hz] at HAd
  have hab := D3 (k := 1280) hnl (by intro z hz'; rw [← hz] at hz'; obtain ⟨e, he, rfl⟩ := List.mem_map.1 hz'; exact hbe e he)
  have hal := Ws hnl
  clear hok hok2 hbe hz
  go_wp2_with (first | refine wpList_load_mid (by rfl) _ _ (by rfl) w1.heap.size 0 (by rfl) (Kc l1) _ q0 RT54 (by rfl) hi3.out ?_ | fail)
  refine HAd.out.mono ?_
  rintro e w2 ⟨l2, rfl, hz2, hok2, h2⟩
  have hl2 : l2.length = 9 := by rw [← List.length_map (·.z), hz2, hal]
  have HRes := hid (El l2 hl2 hok2 (k := 2 * 1280 + 1) (by omega) (fun e he => hab e.z (hz2 ▸ List.mem_map.2 ⟨e, he, rfl⟩)))
  rw [hz2] at HRes
  clear hz2 hok2 hab q0
  go_wp2_with fail
  refine HRes.out.mono ?_
  rintro e w3 ⟨lh, rfl, hz_, hok_, h3⟩
  have r1 := Ke r1 (Kb h2 h3)
  have zn1 := zn1.below (Kb h2 h3)
  have HB := Kb HB (Kb h2 h3)
  clear h2 h3 HRes HAd
  have hl18 : lh.length = 18 := by rw [← List.length_map (·.z), hz_]; exact Wf (by assumption)
  have ht := Kq r1 zn1
  rw [show (Kc Kj).length = (Kc lh).toArray.size by rw [List.size_toArray, Kf, Kf, hl18]; rfl] at ht
  have hi36 := hid (show (Tryz.prog.info? 32).map (·.size) = some (Kc lh).toArray.size by rw [List.size_toArray, Kf, hl18]; exact T32i)
  have hi36' := hid (show (Tryz.prog.info? 32).map (·.size) = some (Kc lh).length by rw [Kf, hl18]; exact T32i)
  have ho := all_oneCell_toArray (Km lh)
  obtain ⟨d32, u32, row32⟩ := T32u
  obtain ⟨G1, G2, G3, G4⟩ := Ju (w := w) (l := lh) (cs := Kj) u32 row32 hi36'.out HB (by omega) r1 zn1 (by rw [hl18]; rfl) hok_
  have HF := hid (And.intro hz_ (And.intro G3 G4))
  clear G1 G3 G4 hz_ hok_
  go_wp2_with (first | refine wpList_store_mid (by rfl) _ _ _ (by rfl) (w.heap.size + 1) 0 (Kc lh).toArray (by rfl) (by rfl) ht hi36.out ho ?_ | fail)
  refine bodyPost_ret (v := .tuple #[.agg (Kc lh).toArray, .int .i64 (resZ (adjZ (nrmZ fs))).2]) ?_ rfl ?_
  ·simp [results, Tryz.results42, Sem.run_bind, asAddr, G2]
  ·rw [HR.out]
   exact ⟨lh, rfl, HF.out.1, HF.out.2.2, HF.out.2.1⟩
theorem Us {fs : List Rf} (h9 : fs.length = 9) {w : World} (hm : ∀ f ∈ fs, f.mg w) : Calls Tryz.prog 42 #[.agg (Kc (zl fs)).toArray] w (RetH w (oneE adjZ fs)) :=
 (HRInverse_g fs h9 hm).mono fun e w' h => h.h (V8 (Ws (Jf h9)))
theorem inv_hom {fs rf : List Rf} {w : World} (h9 : fs.length = 9) (hv : nrmB fs = true) (h0 : (oneE adjZ fs).2 = 0) (hz : (zl rf).map (·.z) = (oneE adjZ fs).1) : (zl rf).map (·.z) = homZ (bakZ fs) := by
 have e : oneE adjZ fs = resZ (adjZ (nrmZ fs)) := by unfold oneE; rw [if_pos hv]
 rw [e] at h0 hz
 rcases Vg (adjZ (nrmZ fs)) with ⟨h1, _⟩ | ⟨h1, _⟩
 ·rw [h1] at hz
  exact hz
 ·rw [h1] at h0
  simp at h0
end Go.Proofs.YtdkgbkbbbldliaaGreat
