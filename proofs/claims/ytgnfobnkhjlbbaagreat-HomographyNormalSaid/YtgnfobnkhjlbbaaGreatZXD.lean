/- Homographies, the reference: walks of Valid, Normal, Inverse. Conditions: none. -/
import Derived.Test.YtgnfobnkhjlbbaaGreatZHr12
import Derived.Test.YtgnfobnkhjlbbaaGreatZYU
import Derived.Test.YtgnfobnkhjlbbaaGreatZYY
import Derived.Test.YtgnfobnkhjlbbaaGreatZYZ
set_option linter.unusedVariables false
set_option linter.unusedSimpArgs false
namespace Go.Proofs.YtgnfobnkhjlbbaaGreat
open Go.RowKit Big
set_option maxRecDepth 100000 in
set_option maxHeartbeats 8000000 in
theorem HRValid_g (fs : List Rf) (h9 : fs.length = 9) {w : World} (hm : ∀ f ∈ fs, f.mg w) :
  Calls Tryz.prog 24 #[.agg (cellsM (zl fs)).toArray] w (RetB w (nrmB fs)) := by
 have hl : (zl fs).length = 18 := by rw [zl_len, h9]
 obtain ⟨d32, u32, row32⟩ := T32u
 have hi := hid (show (Tryz.prog.info? 32).map (·.size) = some (cellsM (zl fs)).length by rw [cellsM_len, hl]; exact T32i)
 have hi18 := hid (show (Tryz.prog.info? 54).map (·.size) = some 18 by kernel_rfl)
 have HN := hid fun (w1 : World) (h : Below w.heap.size w w1) => HRentries_g fs h9 (w := w1) (fun f hf => (hm f hf).below h)
 generalize nrmB fs = t at *
 clear hm
 go_enter Tryz.func24, Tryz.ntmps24
 go_upto_region 1 with fail
 refine enterR1 (P := fun u => Code.wp _ _ _ _ u) ?_
 intro u HB r0 zn0 hsz
 clear hsz
 go_wp2_with (first | refine wpList_load_mid (by rfl) _ _ (by rfl) w.heap.size 0 (by rfl) (cellsM (zl fs)) _ r0 u32 row32 hi.out ?_ | fail)
 refine (HN.out u HB).mono ?_
 rintro e w1 ⟨l1, hl1, rfl, hz1, h1⟩
 have F1 := store_new (w := w1) hl1 _ hi18.out
 have h18 : (cellsM l1).length = 18 := by rw [cellsM_len, hl1]
 go_wp2
 go_ret
 exact ⟨rfl, (bel_step HB h1).alloc (bel_step HB h1).size _⟩
set_option maxRecDepth 100000 in
set_option maxHeartbeats 8000000 in
theorem HRNormal_g (fs : List Rf) (h9 : fs.length = 9) {w : World} (hm : ∀ f ∈ fs, f.mg w) :
  Calls Tryz.prog 22 #[.agg (cellsM (zl fs)).toArray] w (RetHE w (oneE (id) fs)) := by
 have hl : (zl fs).length = 18 := by rw [zl_len, h9]
 obtain ⟨d32, u32, row32⟩ := T32u
 have hi := hid (show (Tryz.prog.info? 32).map (·.size) = some (cellsM (zl fs)).length by rw [cellsM_len, hl]; exact T32i)
 have hi18 := hid (show (Tryz.prog.info? 54).map (·.size) = some 18 by kernel_rfl)
 have HN := hid fun (w1 : World) (h : Below w.heap.size w w1) => HRentries_g fs h9 (w := w1) (fun f hf => (hm f hf).below h)
 have hnl := nrmZ_len h9
 clear hm
 go_enter Tryz.func22, Tryz.ntmps22
 go_upto_region 1 with fail
 refine enterR2 (P := fun u => Code.wp _ _ _ _ u) ?_
 intro u HB r0 r1 zn0 zn1 hsz
 have r1 : u.rangeAt (w.heap.size + 1) 0 (cellsM zeros18) := r1
 clear hsz
 cases hb : nrmB fs
 ·have HR : Hid (oneE (id) fs = (List.replicate 18 0, 1)) := by unfold Hid oneE; rw [hb]; rfl
  rw [hb] at HN
  clear hb hnl
  go_wp2_with (first | refine wpList_load_mid (by rfl) _ _ (by rfl) w.heap.size 0 (by rfl) (cellsM (zl fs)) _ r0 u32 row32 hi.out ?_ | fail)
  refine (HN.out u HB).mono ?_
  rintro e w1 ⟨l1, hl1, rfl, hz1, h1⟩
  have F1 := store_new (w := w1) hl1 _ hi18.out
  have h18 : (cellsM l1).length = 18 := by rw [cellsM_len, hl1]
  go_upto_region 2 with fail
  refine enterR (P := fun u => Code.wp _ _ _ _ u) ?_
  intro v hv q0 qz hsz
  have r1 := rng_below (rng_below r1 h1) hv
  have zn1 := (zn1.below h1).below hv
  have HB := bel_step (bel_step HB h1) hv
  clear hsz F1 hz1 HN u32 row32
  go_upto_region 3 with fail
  have ht := rng_there r1 zn1
  have ho := all_oneCell_toArray (cellsM_one zeros18)
  obtain ⟨d32, u32, row32⟩ := T32u
  obtain ⟨G1, G2, G3, G4⟩ := fin_N (w := w) (l := zeros18) (cs := zeros18) u32 row32 T32i HB (by omega) r1 zn1 rfl (fun e he => by rw [List.eq_of_mem_replicate he]; exact ZE.zero_ok _)
  have HF := hid (And.intro G3 G4)
  clear G1 G3 G4
  go_wp2_with (first | refine wpList_store_mid (by rfl) _ _ _ (by rfl) (w.heap.size + 1) 0 (cellsM zeros18).toArray (by rfl) (by rfl) ht T32i ho ?_ | fail)
  refine bodyPost_ret (v := .tuple #[.agg (cellsM zeros18).toArray, .int .i64 1]) ?_ rfl ?_
  ·simp [results, Tryz.results22, Sem.run_bind, asAddr, G2]
  ·rw [HR.out]
   exact ⟨zeros18, rfl, rfl, HF.out.2, HF.out.1⟩
 ·have HR : Hid (oneE (id) fs = resZ ((id) (nrmZ fs))) := by unfold Hid oneE; rw [hb]; rfl
  obtain ⟨hbz, hdet⟩ := nrmB_bz hb
  rw [hb] at HN
  clear hb hdet
  go_wp2_with (first | refine wpList_load_mid (by rfl) _ _ (by rfl) w.heap.size 0 (by rfl) (cellsM (zl fs)) _ r0 u32 row32 hi.out ?_ | fail)
  refine (HN.out u HB).mono ?_
  rintro e w1 ⟨l1, hl1, rfl, hz1, h1⟩
  obtain ⟨hz, hok⟩ := hz1 rfl
  have F1 := store_new (w := w1) hl1 _ hi18.out
  have h18 : (cellsM l1).length = 18 := by rw [cellsM_len, hl1]
  go_upto_region 2 with fail
  refine enterR (P := fun u => Code.wp _ _ _ _ u) ?_
  intro v hv q0 qz hsz
  have r1 := rng_below (rng_below r1 h1) hv
  have zn1 := (zn1.below h1).below hv
  have HB := bel_step (bel_step HB h1) hv
  have hok2 : ∀ e ∈ l1, e.ok v := fun e he => (hok e he).below hv
  have hbe : ∀ e ∈ l1, Bz 1280 e.z := fun e he => hbz e.z (hz ▸ List.mem_map.2 ⟨e, he, rfl⟩)
  have hi3 := hid (show (Tryz.prog.info? 54).map (·.size) = some (cellsM l1).length by rw [h18]; exact hi18.out)
  clear hsz F1 HN u32 row32 hz1 r0 hbz h1 hv
  go_upto_region 4 with fail
  have HRes := hid (HRpack_g l1 hl1 hok2 (k := 1280) (by omega) hbe)
  rw [hz] at HRes
  clear hok hok2 hbe hz
  go_wp2_with (first | refine wpList_load_mid (by rfl) _ _ (by rfl) w1.heap.size 0 (by rfl) (cellsM l1) _ q0 RT54 (by rfl) hi3.out ?_ | fail)
  refine HRes.out.mono ?_
  rintro e w2 ⟨lh, rfl, hz_, hok_, h2⟩
  have r1 := rng_below r1 h2
  have zn1 := zn1.below h2
  have HB := bel_step HB h2
  clear h2 HRes q0
  have hl18 : lh.length = 18 := by rw [← List.length_map (·.z), hz_]; exact resZ_len (by assumption)
  have ht := rng_there r1 zn1
  rw [show (cellsM zeros18).length = (cellsM lh).toArray.size by rw [List.size_toArray, cellsM_len, cellsM_len, hl18]; rfl] at ht
  have hi36 := hid (show (Tryz.prog.info? 32).map (·.size) = some (cellsM lh).toArray.size by rw [List.size_toArray, cellsM_len, hl18]; exact T32i)
  have hi36' := hid (show (Tryz.prog.info? 32).map (·.size) = some (cellsM lh).length by rw [cellsM_len, hl18]; exact T32i)
  have ho := all_oneCell_toArray (cellsM_one lh)
  obtain ⟨d32, u32, row32⟩ := T32u
  obtain ⟨G1, G2, G3, G4⟩ := fin_N (w := w) (l := lh) (cs := zeros18) u32 row32 hi36'.out HB (by omega) r1 zn1 (by rw [hl18]; rfl) hok_
  have HF := hid (And.intro hz_ (And.intro G3 G4))
  clear G1 G3 G4 hz_ hok_
  go_wp2_with (first | refine wpList_store_mid (by rfl) _ _ _ (by rfl) (w.heap.size + 1) 0 (cellsM lh).toArray (by rfl) (by rfl) ht hi36.out ho ?_ | fail)
  refine bodyPost_ret (v := .tuple #[.agg (cellsM lh).toArray, .int .i64 (resZ (nrmZ fs)).2]) ?_ rfl ?_
  ·simp [results, Tryz.results22, Sem.run_bind, asAddr, G2]
  ·rw [HR.out]
   exact ⟨lh, rfl, HF.out.1, HF.out.2.2, HF.out.2.1⟩
end Go.Proofs.YtgnfobnkhjlbbaaGreat
/- Homographies, the reference: walks of Identity, Equal. Conditions: none. -/
namespace Go.Proofs.YtgnfobnkhjlbbaaGreat
open Go.RowKit Big
set_option maxRecDepth 100000 in
set_option maxHeartbeats 8000000 in
theorem HRIdentity_g {w : World} : Calls Tryz.prog 28 #[] w (RetM w (homZ id9)) := by
 obtain ⟨Ib, In, IL, I1⟩ := iz 1
 obtain ⟨d32, u32, row32⟩ := T32u
 have HFI := hid fun (w1 : World) => RFromInt_g (w := w1) I1.out (by omega) (by omega)
 go_enter Tryz.func28, Tryz.ntmps28
 go_upto_region 1 with fail
 refine enterR1 (P := fun u => Code.wp _ _ _ _ u) ?_
 intro u HB r1 zn1 hsz
 have r1 : u.rangeAt w.heap.size 0 (cellsM zeros18) := r1
 go_wp2_with fail
 refine (HFI.out _).mono ?_
 rintro e w1 ⟨R1, d1, rfl, m1, h1⟩
 go_wp2_with fail
 refine (HFI.out _).mono ?_
 rintro e w2 ⟨R2, d2, rfl, m2, h2⟩
 go_wp2_with fail
 refine (HFI.out _).mono ?_
 rintro e w3 ⟨R3, d3, rfl, m3, h3⟩
 have h13 := bel_step h1 (bel_step h2 h3)
 have r1 := rng_below r1 h13
 have zn1 := zn1.below h13
 have HB := bel_step HB h13
 have m1 := m1.below (bel_step h2 h3)
 have m2 := m2.below h3
 clear h1 h2 h3 h13 hsz HFI
 have F1 := store_newN (P := Tryz.prog) (w := w3) (l := [⟨1, Ib, In, IL, R1, d1⟩, ZE.zero, ZE.zero, ZE.zero, ⟨1, Ib, In, IL, R2, d2⟩, ZE.zero, ZE.zero, ZE.zero, ⟨1, Ib, In, IL, R3, d3⟩]) (zs := cellsM zeros9) 54 rfl (by kernel_rfl)
 simp only [zeros9, List.replicate, cellsM, ZE.cells, ZE.zero, List.cons_append, List.nil_append] at F1
 go_upto_region 2 with fail
 refine enterR (P := fun u => Code.wp _ _ _ _ u) (c := cellsM [⟨1, Ib, In, IL, R1, d1⟩, ZE.zero, ZE.zero, ZE.zero, ⟨1, Ib, In, IL, R2, d2⟩, ZE.zero, ZE.zero, ZE.zero, ⟨1, Ib, In, IL, R3, d3⟩]) ?_
 intro v hv p0 pz hsz
 have hok : ∀ e ∈ [(⟨1, Ib, In, IL, R1, d1⟩ : ZE), ZE.zero, ZE.zero, ZE.zero, ⟨1, Ib, In, IL, R2, d2⟩, ZE.zero, ZE.zero, ZE.zero, ⟨1, Ib, In, IL, R3, d3⟩], e.ok v := by
  intro e he
  simp only [List.mem_cons, List.not_mem_nil, or_false] at he
  rcases he with rfl | rfl | rfl | rfl | rfl | rfl | rfl | rfl | rfl
  ·exact ⟨I1.out, m1.below hv⟩
  ·exact ZE.zero_ok _
  ·exact ZE.zero_ok _
  ·exact ZE.zero_ok _
  ·exact ⟨I1.out, m2.below hv⟩
  ·exact ZE.zero_ok _
  ·exact ZE.zero_ok _
  ·exact ZE.zero_ok _
  ·exact ⟨I1.out, m3.below hv⟩
 have HP := hid (HRpack_g _ rfl hok (k := 1) (by omega) (by
  intro e he
  simp only [List.mem_cons, List.not_mem_nil, or_false] at he
  rcases he with rfl | rfl | rfl | rfl | rfl | rfl | rfl | rfl | rfl <;> (unfold Bz; simp [ZE.zero])))
 rw [show ([(⟨1, Ib, In, IL, R1, d1⟩ : ZE), ZE.zero, ZE.zero, ZE.zero, ⟨1, Ib, In, IL, R2, d2⟩, ZE.zero, ZE.zero, ZE.zero, ⟨1, Ib, In, IL, R3, d3⟩]).map (·.z) = id9 from rfl, resZ_id9] at HP
 have hi9 := hid (show (Tryz.prog.info? 54).map (·.size) = some (cellsM [(⟨1, Ib, In, IL, R1, d1⟩ : ZE), ZE.zero, ZE.zero, ZE.zero, ⟨1, Ib, In, IL, R2, d2⟩, ZE.zero, ZE.zero, ZE.zero, ⟨1, Ib, In, IL, R3, d3⟩]).length by kernel_rfl)
 have r1 := rng_below r1 hv
 have zn1 := zn1.below hv
 have HB := bel_step HB hv
 clear F1 hok m1 m2 m3 pz hsz hv
 go_wp2_with (first | refine wpList_load_mid (by rfl) _ _ (by rfl) w3.heap.size 0 (by rfl) (cellsM [(⟨1, Ib, In, IL, R1, d1⟩ : ZE), ZE.zero, ZE.zero, ZE.zero, ⟨1, Ib, In, IL, R2, d2⟩, ZE.zero, ZE.zero, ZE.zero, ⟨1, Ib, In, IL, R3, d3⟩]) _ p0 RT54 (by rfl) hi9.out ?_ | fail)
 refine HP.out.mono ?_
 rintro e w4 ⟨lm, rfl, hz, hok, h4⟩
 have hlm : lm.length = 18 := by rw [← List.length_map (·.z), hz]; rfl
 have F1 := store_newN (P := Tryz.prog) (w := w4) (l := lm) (zs := cellsM zeros18) 32 (by rw [cellsM_len, hlm]; rfl) T32i
 simp only [zeros18, List.replicate, cellsM, ZE.cells, ZE.zero, List.cons_append, List.nil_append] at F1
 have h36 : (cellsM lm).length = 36 := by rw [cellsM_len, hlm]
 clear p0 HP
 go_upto_region 3 with fail
 refine enterR (P := fun u => Code.wp _ _ _ _ u) ?_
 intro v2 hv2 q0 qz hsz
 have r1 := rng_below (rng_below r1 h4) hv2
 have zn1 := (zn1.below h4).below hv2
 have HB := bel_step (bel_step HB h4) hv2
 have hi36 := hid (show (Tryz.prog.info? 32).map (·.size) = some (cellsM lm).length by rw [h36]; exact T32i)
 have hi36' := hid (show (Tryz.prog.info? 32).map (·.size) = some (cellsM lm).toArray.size by rw [List.size_toArray, h36]; exact T32i)
 obtain ⟨G1, G2, G3, G4⟩ := fin_N (w := w) (l := lm) (cs := zeros18) u32 row32 hi36.out HB (Nat.le_refl _) r1 zn1 (by rw [hlm]; rfl) (fun e he => (hok e he).below hv2)
 have HF := hid (And.intro hz (And.intro G3 G4))
 have ht := rng_there r1 zn1
 rw [show (cellsM zeros18).length = (cellsM lm).toArray.size by rw [List.size_toArray, cellsM_len, cellsM_len, hlm]; rfl] at ht
 have ho := all_oneCell_toArray (cellsM_one lm)
 clear F1 hz hok G1 G3 G4 r1 zn1 qz hsz h4 hv2
 go_wp2_with (first | refine wpList_load_mid (by rfl) _ _ (by rfl) w4.heap.size 0 (by rfl) (cellsM lm) _ q0 u32 row32 hi36.out ?_ | refine wpList_store_mid (by rfl) _ _ _ (by rfl) w.heap.size 0 (cellsM lm).toArray (by rfl) (by rfl) ht hi36'.out ho ?_ | fail)
 refine bodyPost_ret (v := .agg (cellsM lm).toArray) ?_ rfl ?_
 ·simp [results, Tryz.results28, Sem.run_bind, asAddr, Act.put, G2]
 ·exact ⟨lm, rfl, HF.out.1, HF.out.2.2, HF.out.2.1⟩
end Go.Proofs.YtgnfobnkhjlbbaaGreat
/- Homographies, the reference: walk of Equal. Conditions: none. -/
namespace Go.Proofs.YtgnfobnkhjlbbaaGreat
open Go.RowKit Big
theorem homZ_inj : ∀ {a b : List Int}, homZ a = homZ b → a = b
 | [], [], _ => rfl
 | [], y :: b, h => by simp [homZ] at h
 | x :: a, [], h => by simp [homZ] at h
 | x :: a, y :: b, h => by
  have h' : x :: 1 :: homZ a = y :: 1 :: homZ b := h
  simp only [List.cons.injEq, true_and] at h'
  rw [h'.1, homZ_inj h'.2]
theorem one_nrm {fs : List Rf} (h : nrmB fs = true) : oneE id fs = (homZ (nrmZ fs), 0) := by
 unfold oneE
 rw [if_pos h]
 have h0 := h
 unfold nrmB at h
 simp only [Bool.and_eq_true, decide_eq_true_eq] at h
 have e : redZ (nrmZ fs) = nrmZ fs := by unfold nrmZ; rw [redZ_red]
 show resZ (nrmZ fs) = _
 unfold resZ
 rw [e, if_pos h.1.2]
theorem one_bad {fs : List Rf} (h : nrmB fs = false) : oneE id fs = (List.replicate 18 0, 1) := by
 unfold oneE
 rw [h]
 rfl
theorem one18 {fs : List Rf} (h9 : fs.length = 9) : (oneE id fs).1.length = 18 := by
 unfold oneE
 split
 ·exact resZ_len (nrmZ_len h9)
 ·simp
set_option maxRecDepth 100000 in
set_option maxHeartbeats 8000000 in
theorem HREqual_g (fs gs : List Rf) (h9 : fs.length = 9) (h9' : gs.length = 9) {w : World} (hm : ∀ f ∈ fs, f.mg w) (hm' : ∀ f ∈ gs, f.mg w) :
  Calls Tryz.prog 26 #[.agg (cellsM (zl fs)).toArray, .agg (cellsM (zl gs)).toArray] w (RetB w (eqB fs gs)) := by
 have hl : (zl fs).length = 18 := by rw [zl_len, h9]
 have hl' : (zl gs).length = 18 := by rw [zl_len, h9']
 obtain ⟨d32, u32, row32⟩ := T32u
 have hi := hid (show (Tryz.prog.info? 32).map (·.size) = some (cellsM (zl fs)).length by rw [cellsM_len, hl]; exact T32i)
 have hi' := hid (show (Tryz.prog.info? 32).map (·.size) = some (cellsM (zl gs)).length by rw [cellsM_len, hl']; exact T32i)
 have HN := hid fun (w1 : World) (h : Below w.heap.size w w1) => HRNormal_g fs h9 (w := w1) (fun f hf => (hm f hf).below h)
 have HN' := hid fun (w1 : World) (h : Below w.heap.size w w1) => HRNormal_g gs h9' (w := w1) (fun f hf => (hm' f hf).below h)
 have hTW : Hid (eqB fs gs = (nrmB fs && nrmB gs && decide (nrmZ fs = nrmZ gs))) := rfl
 have x1 := one18 h9
 have x2 := one18 h9'
 have y1 := one_nrm (fs := fs)
 have y2 := one_nrm (fs := gs)
 have z1 := one_bad (fs := fs)
 have z2 := one_bad (fs := gs)
 generalize eqB fs gs = TW at *
 generalize nrmB fs = b1 at *
 generalize nrmB gs = b2 at *
 generalize nrmZ fs = N1 at *
 generalize nrmZ gs = N2 at *
 obtain ⟨⟨q1, e1⟩, hq1⟩ : ∃ q, oneE id fs = q := ⟨_, rfl⟩
 obtain ⟨⟨q2, e2⟩, hq2⟩ : ∃ q, oneE id gs = q := ⟨_, rfl⟩
 rw [hq1] at HN x1 y1 z1
 rw [hq2] at HN' x2 y2 z2
 dsimp only at x1 x2
 have Y1 := hid y1
 have Y2 := hid y2
 have Z1 := hid z1
 have Z2 := hid z2
 clear hm hm' y1 y2 z1 z2 hq1 hq2
 go_enter Tryz.func26, Tryz.ntmps26
 go_upto_region 1 with fail
 refine enterR2 (P := fun u => Code.wp _ _ _ _ u) ?_
 intro u HB r0 r1 zn0 zn1 hsz
 clear hsz
 go_wp2_with (first | refine wpList_load_mid (by rfl) _ _ (by rfl) w.heap.size 0 (by rfl) (cellsM (zl fs)) _ r0 u32 row32 hi.out ?_ | fail)
 refine (HN.out u HB).mono ?_
 rintro e w1 ⟨l1, rfl, hz1, ok1, h1⟩
 dsimp only at hz1
 have hl1 : l1.length = 18 := by rw [← List.length_map (·.z), hz1, x1]
 have F1 := store_newN (P := Tryz.prog) (w := w1) (l := l1) (zs := cellsM zeros18) 32 (by rw [cellsM_len, hl1]; rfl) T32i
 have h36 : (cellsM l1).length = 36 := by rw [cellsM_len, hl1]
 simp only [zeros18, List.replicate, cellsM, ZE.cells, ZE.zero, List.cons_append, List.nil_append] at F1
 go_upto_region 2 with fail
 refine enterR (P := fun u => Code.wp _ _ _ _ u) ?_
 intro v hv p0 pz hsz
 have r1 := rng_below (rng_below r1 h1) hv
 have HB := bel_step (bel_step HB h1) hv
 have ok1 : ∀ x ∈ l1, x.ok v := fun e he => (ok1 e he).below hv
 have hi1 := hid (show (Tryz.prog.info? 32).map (·.size) = some (cellsM l1).length by rw [h36]; exact T32i)
 clear F1 hsz h1 hv HN r0 zn0 zn1
 go_wp2_with (first | refine wpList_load_mid (by rfl) _ _ (by rfl) (w.heap.size + 1) 0 (by rfl) (cellsM (zl gs)) _ r1 u32 row32 hi'.out ?_ | fail)
 refine (HN'.out v HB).mono ?_
 rintro e w2 ⟨l2, rfl, hz2, ok2, h2⟩
 dsimp only at hz2
 have hl2 : l2.length = 18 := by rw [← List.length_map (·.z), hz2, x2]
 have F1 := store_newN (P := Tryz.prog) (w := w2) (l := l2) (zs := cellsM zeros18) 32 (by rw [cellsM_len, hl2]; rfl) T32i
 have h36' : (cellsM l2).length = 36 := by rw [cellsM_len, hl2]
 simp only [zeros18, List.replicate, cellsM, ZE.cells, ZE.zero, List.cons_append, List.nil_append] at F1
 go_upto_region 3 with fail
 refine enterR (P := fun u => Code.wp _ _ _ _ u) ?_
 intro v2 hv2 q0 qz hsz
 have p0 := rng_below (rng_below p0 h2) hv2
 have HB := bel_step (bel_step HB h2) hv2
 have ok1 : ∀ x ∈ l1, x.ok v2 := fun e he => ((ok1 e he).below h2).below hv2
 have ok2 : ∀ x ∈ l2, x.ok v2 := fun e he => (ok2 e he).below hv2
 have hi2 := hid (show (Tryz.prog.info? 32).map (·.size) = some (cellsM l2).length by rw [h36']; exact T32i)
 have HS := hid (HSame_g hl1 hl2 ok1 ok2)
 rw [hz1, hz2] at HS
 clear F1 hsz h2 hv2 HN' ok1 ok2 r1
 cases b1
 ·have HR : Hid (TW = false) := by rw [hTW.out]; rfl
  obtain ⟨_, rfl⟩ := Prod.mk.inj (Z1.out rfl)
  clear hTW HS
  go_wp2
  go_ret
  exact ⟨by rw [HR.out]; rfl, HB⟩
 ·obtain ⟨rfl, rfl⟩ := Prod.mk.inj (Y1.out rfl)
  cases b2
  ·have HR : Hid (TW = false) := by rw [hTW.out]; rfl
   obtain ⟨_, rfl⟩ := Prod.mk.inj (Z2.out rfl)
   clear hTW HS
   go_wp2
   go_ret
   exact ⟨by rw [HR.out]; rfl, HB⟩
  ·obtain ⟨rfl, rfl⟩ := Prod.mk.inj (Y2.out rfl)
   have HR : Hid (decide (homZ N1 = homZ N2) = TW) := by
    unfold Hid
    rw [hTW.out]
    simp only [Bool.true_and]
    exact decide_eq_decide.2 ⟨homZ_inj, fun h => by rw [h]⟩
   rw [HR.out] at HS
   clear hTW
   go_wp2_with (first | refine wpList_load_mid (by rfl) _ _ (by rfl) w1.heap.size 0 (by rfl) (cellsM l1) _ p0 u32 row32 hi1.out ?_ | refine wpList_load_mid (by rfl) _ _ (by rfl) w2.heap.size 0 (by rfl) (cellsM l2) _ q0 u32 row32 hi2.out ?_ | refine wpList_load_g (by rfl) _ _ (by rfl) w1.heap.size 0 (by rfl) (cellsM l1) _ p0 u32 row32 hi1.out ?_ | refine wpList_load_g (by rfl) _ _ (by rfl) w2.heap.size 0 (by rfl) (cellsM l2) _ q0 u32 row32 hi2.out ?_ | fail)
   refine HS.out.mono ?_
   rintro e w3 ⟨rfl, h3⟩
   go_wp2
   go_ret
   exact ⟨rfl, bel_step HB h3⟩
end Go.Proofs.YtgnfobnkhjlbbaaGreat
