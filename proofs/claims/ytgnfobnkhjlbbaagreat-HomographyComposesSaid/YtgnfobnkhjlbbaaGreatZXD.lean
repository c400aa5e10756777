/- Homographies, the reference: walk of Compose. Conditions: none. -/
import Derived.Test.YtgnfobnkhjlbbaaGreatZHr12
import Derived.Test.YtgnfobnkhjlbbaaGreatZYV
import Derived.Test.YtgnfobnkhjlbbaaGreatZYU
set_option linter.unusedVariables false
set_option linter.unusedSimpArgs false
namespace Go.Proofs.YtgnfobnkhjlbbaaGreat
open Go.RowKit Big
set_option maxRecDepth 100000 in
set_option maxHeartbeats 8000000 in
theorem HRCompose_g (fs gs : List Rf) (h9 : fs.length = 9) (h9' : gs.length = 9) {w : World} (hm : ∀ f ∈ fs, f.mg w) (hm' : ∀ f ∈ gs, f.mg w) :
  Calls Tryz.prog 20 #[.agg (cellsM (zl fs)).toArray, .agg (cellsM (zl gs)).toArray] w (RetHE w (twoE fs gs)) := by
 have hl : (zl fs).length = 18 := by rw [zl_len, h9]
 have hl' : (zl gs).length = 18 := by rw [zl_len, h9']
 obtain ⟨d32, u32, row32⟩ := T32u
 have hi := hid (show (Tryz.prog.info? 32).map (·.size) = some (cellsM (zl fs)).length by rw [cellsM_len, hl]; exact T32i)
 have hi' := hid (show (Tryz.prog.info? 32).map (·.size) = some (cellsM (zl gs)).length by rw [cellsM_len, hl']; exact T32i)
 have hi18 := hid (show (Tryz.prog.info? 54).map (·.size) = some 18 by kernel_rfl)
 have HN := hid fun (w1 : World) (h : Below w.heap.size w w1) => HRentries_g fs h9 (w := w1) (fun f hf => (hm f hf).below h)
 have HN' := hid fun (w1 : World) (h : Below w.heap.size w w1) => HRentries_g gs h9' (w := w1) (fun f hf => (hm' f hf).below h)
 have hnl := nrmZ_len h9
 have hnl' := nrmZ_len h9'
 have hTW : Hid (twoE fs gs = if nrmB fs && nrmB gs then resZ (mulZ (nrmZ fs) (nrmZ gs)) else (List.replicate 18 0, 1)) := rfl
 have hbz := nrmB_bz (fs := fs)
 have hbz' := nrmB_bz (fs := gs)
 generalize twoE fs gs = TW at *
 generalize nrmB fs = b1 at *
 generalize nrmB gs = b2 at *
 generalize nrmZ fs = N1 at *
 generalize nrmZ gs = N2 at *
 clear hm hm'
 go_enter Tryz.func20, Tryz.ntmps20
 go_upto_region 1 with fail
 refine enterR3 (P := fun u => Code.wp _ _ _ _ u) ?_
 intro u HB r0 q0 r1 zn0 zq zn1 hsz
 have r1 : u.rangeAt (w.heap.size + 1 + 1) 0 (cellsM zeros18) := r1
 clear hsz
 go_wp2_with (first | refine wpList_load_mid (by rfl) _ _ (by rfl) w.heap.size 0 (by rfl) (cellsM (zl fs)) _ r0 u32 row32 hi.out ?_ | fail)
 refine (HN.out u HB).mono ?_
 rintro e w1 ⟨l1, hl1, rfl, hz1, h1⟩
 have F1 := store_new (w := w1) hl1 _ hi18.out
 have h18 : (cellsM l1).length = 18 := by rw [cellsM_len, hl1]
 have HB1 := bel_step HB h1
 have q0 := rng_below q0 h1
 have r1 := rng_below r1 h1
 have zn1 := zn1.below h1
 clear HB HN r0 zn0 zq h1
 go_upto_region 2 with fail
 refine enterR (P := fun u => Code.wp _ _ _ _ u) ?_
 intro v hv p0 pz hsz
 have q0 := rng_below q0 hv
 have r1 := rng_below r1 hv
 have zn1 := zn1.below hv
 have HB2 := bel_step HB1 hv
 have hok1 : b1 = true → l1.map (·.z) = N1 ∧ ∀ x ∈ l1, x.ok v := fun h => ⟨(hz1 h).1, fun x hx => ((hz1 h).2 x hx).below hv⟩
 have ltm := pz.lt
 clear hsz F1 hz1 HB1 hv
 go_wp2_with (first | refine wpList_load_mid (by rfl) _ _ (by rfl) (w.heap.size + 1) 0 (by rfl) (cellsM (zl gs)) _ q0 u32 row32 hi'.out ?_ | fail)
 refine (HN'.out v HB2).mono ?_
 rintro e w2 ⟨l2, hl2, rfl, hz2, h2⟩
 have F1 := store_new (w := w2) hl2 _ hi18.out
 have h18' : (cellsM l2).length = 18 := by rw [cellsM_len, hl2]
 have p0 := rng_below p0 h2
 have r1 := rng_below r1 h2
 have zn1 := zn1.below h2
 have HB3 := bel_step HB2 h2
 have hok1' : b1 = true → l1.map (·.z) = N1 ∧ ∀ x ∈ l1, x.ok w2 := fun h => ⟨(hok1 h).1, fun x hx => ((hok1 h).2 x hx).below h2⟩
 clear HB2 HN' q0 pz h2 hok1
 go_upto_region 3 with fail
 refine enterR (P := fun u => Code.wp _ _ _ _ u) ?_
 intro v2 hv2 q0 qz hsz
 have p0 := rng_below p0 hv2
 have r1 := rng_below r1 hv2
 have zn1 := zn1.below hv2
 have HB := bel_step HB3 hv2
 have hok1 := hid fun (h : b1 = true) => And.intro (hok1' h).1 (fun x hx => ((hok1' h).2 x hx).below hv2)
 have hok2 := hid fun (h : b2 = true) => And.intro (hz2 h).1 (fun x hx => ((hz2 h).2 x hx).below hv2)
 clear hsz F1 hz2 HB3 hv2 hok1' ltm u32 row32
 cases b1
 ·have HR : Hid (TW = (List.replicate 18 0, 1)) := by rw [hTW]; rfl
  clear hTW
  go_upto_region 4 with fail
  have ht := rng_there r1 zn1
  have ho := all_oneCell_toArray (cellsM_one zeros18)
  obtain ⟨d32, u32, row32⟩ := T32u
  obtain ⟨G1, G2, G3, G4⟩ := fin_N (w := w) (l := zeros18) (cs := zeros18) u32 row32 T32i HB (by omega) r1 zn1 rfl (fun e he => by rw [List.eq_of_mem_replicate he]; exact ZE.zero_ok _)
  have HF := hid (And.intro G3 G4)
  clear G1 G3 G4
  go_wp2_with (first | refine wpList_store_mid (by rfl) _ _ _ (by rfl) (w.heap.size + 1 + 1) 0 (cellsM zeros18).toArray (by rfl) (by rfl) ht T32i ho ?_ | fail)
  refine bodyPost_ret (v := .tuple #[.agg (cellsM zeros18).toArray, .int .i64 1]) ?_ rfl ?_
  ·simp [results, Tryz.results20, Sem.run_bind, asAddr, G2]
  ·rw [HR.out]
   exact ⟨zeros18, rfl, rfl, HF.out.2, HF.out.1⟩
 ·cases b2
  ·have HR : Hid (TW = (List.replicate 18 0, 1)) := by rw [hTW]; rfl
   clear hTW
   go_upto_region 4 with fail
   have ht := rng_there r1 zn1
   have ho := all_oneCell_toArray (cellsM_one zeros18)
   obtain ⟨d32, u32, row32⟩ := T32u
   obtain ⟨G1, G2, G3, G4⟩ := fin_N (w := w) (l := zeros18) (cs := zeros18) u32 row32 T32i HB (by omega) r1 zn1 rfl (fun e he => by rw [List.eq_of_mem_replicate he]; exact ZE.zero_ok _)
   have HF := hid (And.intro G3 G4)
   clear G1 G3 G4
   go_wp2_with (first | refine wpList_store_mid (by rfl) _ _ _ (by rfl) (w.heap.size + 1 + 1) 0 (cellsM zeros18).toArray (by rfl) (by rfl) ht T32i ho ?_ | fail)
   refine bodyPost_ret (v := .tuple #[.agg (cellsM zeros18).toArray, .int .i64 1]) ?_ rfl ?_
   ·simp [results, Tryz.results20, Sem.run_bind, asAddr, G2]
   ·rw [HR.out]
    exact ⟨zeros18, rfl, rfl, HF.out.2, HF.out.1⟩
  ·have HR : Hid (TW = resZ (mulZ N1 N2)) := by rw [hTW]; rfl
   clear hTW
   obtain ⟨m1, o1⟩ := hok1.out rfl
   obtain ⟨m2, o2⟩ := hok2.out rfl
   have bz1 := (hbz rfl).1
   have bz2 := (hbz' rfl).1
   have e1 : ∀ e ∈ l1, Bz 1280 e.z := fun e he => bz1 e.z (m1 ▸ List.mem_map.2 ⟨e, he, rfl⟩)
   have e2 : ∀ e ∈ l2, Bz 1280 e.z := fun e he => bz2 e.z (m2 ▸ List.mem_map.2 ⟨e, he, rfl⟩)
   have HT := hid (HRproduct_g l1 l2 hl1 hl2 o1 o2 (k := 1280) (m := 1280) (by omega) e1 e2)
   rw [m1, m2] at HT
   have hmb := mulZ_bz hnl hnl' bz1 bz2
   have hml := mulZ_len hnl hnl'
   have hi3 := hid (show (Tryz.prog.info? 54).map (·.size) = some (cellsM l1).length by rw [h18]; exact hi18.out)
   have hi4 := hid (show (Tryz.prog.info? 54).map (·.size) = some (cellsM l2).length by rw [h18']; exact hi18.out)
   clear hok1 hok2 hbz hbz' m1 m2 o1 o2 bz1 bz2 e1 e2
   go_upto_region 5 with fail
   go_wp2_with (first | refine wpList_load_mid (by rfl) _ _ (by rfl) w1.heap.size 0 (by rfl) (cellsM l1) _ p0 RT54 (by rfl) hi3.out ?_ | refine wpList_load_mid (by rfl) _ _ (by rfl) w2.heap.size 0 (by rfl) (cellsM l2) _ q0 RT54 (by rfl) hi4.out ?_ | fail)
   refine HT.out.mono ?_
   rintro e w3 ⟨l3, rfl, hz3, hok3, h3⟩
   have hl3 : l3.length = 9 := by rw [← List.length_map (·.z), hz3, hml]
   have HRes := hid (HRpack_g l3 hl3 hok3 (k := 1280 + 1280 + 2) (by omega) (fun e he => hmb e.z (hz3 ▸ List.mem_map.2 ⟨e, he, rfl⟩)))
   rw [hz3] at HRes
   clear hz3 hok3 hmb p0 q0 qz
   go_wp2_with fail
   refine HRes.out.mono ?_
   rintro e w4 ⟨lh, rfl, hz_, hok_, h4⟩
   have r1 := rng_below r1 (bel_step h3 h4)
   have zn1 := zn1.below (bel_step h3 h4)
   have HB := bel_step HB (bel_step h3 h4)
   clear h3 h4 HRes HT
   have hl18 : lh.length = 18 := by rw [← List.length_map (·.z), hz_]; exact resZ_len (by assumption)
   have ht := rng_there r1 zn1
   rw [show (cellsM zeros18).length = (cellsM lh).toArray.size by rw [List.size_toArray, cellsM_len, cellsM_len, hl18]; rfl] at ht
   have hi36 := hid (show (Tryz.prog.info? 32).map (·.size) = some (cellsM lh).toArray.size by rw [List.size_toArray, cellsM_len, hl18]; exact T32i)
   have hi36' := hid (show (Tryz.prog.info? 32).map (·.size) = some (cellsM lh).length by rw [cellsM_len, hl18]; exact T32i)
   have ho := all_oneCell_toArray (cellsM_one lh)
   obtain ⟨d32, u32, row32⟩ := T32u
   obtain ⟨G1, G2, G3, G4⟩ := fin_N (w := w) (l := lh) (cs := zeros18) u32 row32 hi36'.out HB (by omega) r1 zn1 (by rw [hl18]; rfl) hok_
   have HF := hid (And.intro hz_ (And.intro G3 G4))
   clear G1 G3 G4 hz_ hok_
   go_wp2_with (first | refine wpList_store_mid (by rfl) _ _ _ (by rfl) (w.heap.size + 1 + 1) 0 (cellsM lh).toArray (by rfl) (by rfl) ht hi36.out ho ?_ | fail)
   refine bodyPost_ret (v := .tuple #[.agg (cellsM lh).toArray, .int .i64 (resZ (mulZ N1 N2)).2]) ?_ rfl ?_
   ·simp [results, Tryz.results20, Sem.run_bind, asAddr, G2]
   ·rw [HR.out]
    exact ⟨lh, rfl, HF.out.1, HF.out.2.2, HF.out.2.1⟩
end Go.Proofs.YtgnfobnkhjlbbaaGreat
/- Homographies, the reference: walks of Valid, Normal, Inverse. Conditions: none. -/
namespace Go.Proofs.YtgnfobnkhjlbbaaGreat
open Go.RowKit Big
set_option maxRecDepth 100000 in
set_option maxHeartbeats 8000000 in
theorem HRInverse_g (fs : List Rf) (h9 : fs.length = 9) {w : World} (hm : ∀ f ∈ fs, f.mg w) :
  Calls Tryz.prog 18 #[.agg (cellsM (zl fs)).toArray] w (RetHE w (oneE (adjZ) fs)) := by
 have hl : (zl fs).length = 18 := by rw [zl_len, h9]
 obtain ⟨d32, u32, row32⟩ := T32u
 have hi := hid (show (Tryz.prog.info? 32).map (·.size) = some (cellsM (zl fs)).length by rw [cellsM_len, hl]; exact T32i)
 have hi18 := hid (show (Tryz.prog.info? 54).map (·.size) = some 18 by kernel_rfl)
 have HN := hid fun (w1 : World) (h : Below w.heap.size w w1) => HRentries_g fs h9 (w := w1) (fun f hf => (hm f hf).below h)
 have hnl := nrmZ_len h9
 clear hm
 go_enter Tryz.func18, Tryz.ntmps18
 go_upto_region 1 with fail
 refine enterR2 (P := fun u => Code.wp _ _ _ _ u) ?_
 intro u HB r0 r1 zn0 zn1 hsz
 have r1 : u.rangeAt (w.heap.size + 1) 0 (cellsM zeros18) := r1
 clear hsz
 cases hb : nrmB fs
 ·have HR : Hid (oneE (adjZ) fs = (List.replicate 18 0, 1)) := by unfold Hid oneE; rw [hb]; rfl
  rw [hb] at HN
  clear hb hnl
  go_wp2_with (first | refine wpList_load_mid (by rfl) _ _ (by rfl) w.heap.size 0 (by rfl) (cellsM (zl fs)) _ r0 u32 row32 hi.out ?_ | fail)
  refine (HN.out u HB).mono ?_
  rintro e w1 ⟨l1, hl1, rfl, hz1, h1⟩
  have F1 := store_new (w := w1) hl1 _ hi18.out
  have h18 : (cellsM l1).length = 18 := by rw [cellsM_len, hl1]
  go_upto_region 2 with fail
  refine enterR (P := fun u => Code.wp _ _ _ _ u) ?_
  intro v hv q0 qz hsz
  have r1 := rng_below (rng_below r1 h1) hv
  have zn1 := (zn1.below h1).below hv
  have HB := bel_step (bel_step HB h1) hv
  clear hsz F1 hz1 HN u32 row32
  go_upto_region 3 with fail
  have ht := rng_there r1 zn1
  have ho := all_oneCell_toArray (cellsM_one zeros18)
  obtain ⟨d32, u32, row32⟩ := T32u
  obtain ⟨G1, G2, G3, G4⟩ := fin_N (w := w) (l := zeros18) (cs := zeros18) u32 row32 T32i HB (by omega) r1 zn1 rfl (fun e he => by rw [List.eq_of_mem_replicate he]; exact ZE.zero_ok _)
  have HF := hid (And.intro G3 G4)
  clear G1 G3 G4
  go_wp2_with (first | refine wpList_store_mid (by rfl) _ _ _ (by rfl) (w.heap.size + 1) 0 (cellsM zeros18).toArray (by rfl) (by rfl) ht T32i ho ?_ | fail)
  refine bodyPost_ret (v := .tuple #[.agg (cellsM zeros18).toArray, .int .i64 1]) ?_ rfl ?_
  ·simp [results, Tryz.results18, Sem.run_bind, asAddr, G2]
  ·rw [HR.out]
   exact ⟨zeros18, rfl, rfl, HF.out.2, HF.out.1⟩
 ·have HR : Hid (oneE (adjZ) fs = resZ ((adjZ) (nrmZ fs))) := by unfold Hid oneE; rw [hb]; rfl
  obtain ⟨hbz, hdet⟩ := nrmB_bz hb
  rw [hb] at HN
  clear hb hdet
  go_wp2_with (first | refine wpList_load_mid (by rfl) _ _ (by rfl) w.heap.size 0 (by rfl) (cellsM (zl fs)) _ r0 u32 row32 hi.out ?_ | fail)
  refine (HN.out u HB).mono ?_
  rintro e w1 ⟨l1, hl1, rfl, hz1, h1⟩
  obtain ⟨hz, hok⟩ := hz1 rfl
  have F1 := store_new (w := w1) hl1 _ hi18.out
  have h18 : (cellsM l1).length = 18 := by rw [cellsM_len, hl1]
  go_upto_region 2 with fail
  refine enterR (P := fun u => Code.wp _ _ _ _ u) ?_
  intro v hv q0 qz hsz
  have r1 := rng_below (rng_below r1 h1) hv
  have zn1 := (zn1.below h1).below hv
  have HB := bel_step (bel_step HB h1) hv
  have hok2 : ∀ e ∈ l1, e.ok v := fun e he => (hok e he).below hv
  have hbe : ∀ e ∈ l1, Bz 1280 e.z := fun e he => hbz e.z (hz ▸ List.mem_map.2 ⟨e, he, rfl⟩)
  have hi3 := hid (show (Tryz.prog.info? 54).map (·.size) = some (cellsM l1).length by rw [h18]; exact hi18.out)
  clear hsz F1 HN u32 row32 hz1 r0 hbz h1 hv
  go_upto_region 4 with fail
  have HAd := hid (HRadjugate_g l1 hl1 hok2 (k := 1280) (by omega) hbe)
  rw [hz] at HAd
  have hab := adjZ_bz (k := 1280) hnl (by intro z hz'; rw [← hz] at hz'; obtain ⟨e, he, rfl⟩ := List.mem_map.1 hz'; exact hbe e he)
  have hal := adjZ_len hnl
  clear hok hok2 hbe hz
  go_wp2_with (first | refine wpList_load_mid (by rfl) _ _ (by rfl) w1.heap.size 0 (by rfl) (cellsM l1) _ q0 RT54 (by rfl) hi3.out ?_ | fail)
  refine HAd.out.mono ?_
  rintro e w2 ⟨l2, rfl, hz2, hok2, h2⟩
  have hl2 : l2.length = 9 := by rw [← List.length_map (·.z), hz2, hal]
  have HRes := hid (HRpack_g l2 hl2 hok2 (k := 2 * 1280 + 1) (by omega) (fun e he => hab e.z (hz2 ▸ List.mem_map.2 ⟨e, he, rfl⟩)))
  rw [hz2] at HRes
  clear hz2 hok2 hab q0
  go_wp2_with fail
  refine HRes.out.mono ?_
  rintro e w3 ⟨lh, rfl, hz_, hok_, h3⟩
  have r1 := rng_below r1 (bel_step h2 h3)
  have zn1 := zn1.below (bel_step h2 h3)
  have HB := bel_step HB (bel_step h2 h3)
  clear h2 h3 HRes HAd
  have hl18 : lh.length = 18 := by rw [← List.length_map (·.z), hz_]; exact resZ_len (by assumption)
  have ht := rng_there r1 zn1
  rw [show (cellsM zeros18).length = (cellsM lh).toArray.size by rw [List.size_toArray, cellsM_len, cellsM_len, hl18]; rfl] at ht
  have hi36 := hid (show (Tryz.prog.info? 32).map (·.size) = some (cellsM lh).toArray.size by rw [List.size_toArray, cellsM_len, hl18]; exact T32i)
  have hi36' := hid (show (Tryz.prog.info? 32).map (·.size) = some (cellsM lh).length by rw [cellsM_len, hl18]; exact T32i)
  have ho := all_oneCell_toArray (cellsM_one lh)
  obtain ⟨d32, u32, row32⟩ := T32u
  obtain ⟨G1, G2, G3, G4⟩ := fin_N (w := w) (l := lh) (cs := zeros18) u32 row32 hi36'.out HB (by omega) r1 zn1 (by rw [hl18]; rfl) hok_
  have HF := hid (And.intro hz_ (And.intro G3 G4))
  clear G1 G3 G4 hz_ hok_
  go_wp2_with (first | refine wpList_store_mid (by rfl) _ _ _ (by rfl) (w.heap.size + 1) 0 (cellsM lh).toArray (by rfl) (by rfl) ht hi36.out ho ?_ | fail)
  refine bodyPost_ret (v := .tuple #[.agg (cellsM lh).toArray, .int .i64 (resZ (adjZ (nrmZ fs))).2]) ?_ rfl ?_
  ·simp [results, Tryz.results18, Sem.run_bind, asAddr, G2]
  ·rw [HR.out]
   exact ⟨lh, rfl, HF.out.1, HF.out.2.2, HF.out.2.1⟩
end Go.Proofs.YtgnfobnkhjlbbaaGreat
