/- Homographies: walk of normal (package). Conditions: none. -/
import Derived.Test.YtgnfobnkhjlbbaaZYR
import Derived.Test.YtgnfobnkhjlbbaaZHm7
import Derived.Test.YtgnfobnkhjlbbaaZYT
import Derived.Test.YtgnfobnkhjlbbaaZHm10
set_option linter.unusedVariables false
set_option linter.unusedSimpArgs false
namespace Go.Proofs.Ytgnfobnkhjlbbaa
open Go.RowKit Big

set_option maxRecDepth 100000 in
set_option maxHeartbeats 8000000 in
theorem Hnormal_g (fs : List Rf) (h9 : fs.length = 9) {w : World} (hm : ∀ f ∈ fs, f.mg w) :
    Calls Try.prog 30 #[.agg (cellsM (zl fs)).toArray] w (RetMat w (nrmB fs) (nrmZ fs)) := by
  have hl : (zl fs).length = 18 := by rw [zl_len, h9]
  have hi := hid (show (Try.prog.info? 30).map (·.size) = some (cellsM (zl fs)).length by rw [cellsM_len, hl]; kernel_rfl)
  have hi18 := hid (show (Try.prog.info? 55).map (·.size) = some 18 by kernel_rfl)
  have HM := hid fun (w1 : World) (h : Below w.heap.size w w1) f hf => (hm f hf).below h
  go_enter Try.func30, Try.ntmps30
  go_upto_region 1 with fail
  refine enterR2 (P := fun u => Code.wp _ _ _ _ u) ?_
  intro u HB r0 r1 zn0 zn1 hsz
  have r1 : u.rangeAt (w.heap.size + 1) 0 (cellsM zeros9) := r1
  have hmu := HM.out u HB
  have HC := Hcheck_g 40 (by omega) fs w.heap.size 9 u (by omega) (by omega) (by omega) (fun j h => rf_at r0 hmu j h)
  rw [h9] at HC
  have HC := hid HC
  have hzl : (nrmZ fs).length = 9 := by unfold nrmZ; rw [redZ_len, intZ_len, List.length_map, h9]
  clear hsz
  by_cases hc : chkZ 40 fs = 0
  · have hbz := chk_bz (k := 1280) hc (by omega) hmu
    obtain ⟨hv, _⟩ := chk_parts hc
    obtain ⟨hok, hz⟩ := zl_good fs hv hmu
    have HI := hid fun (w1 : World) (h : Below u.heap.size u w1) => Hintegers_g (w := w1) (zl fs) (fs.map Rf.f) (by simpa using h9) hz (fun e he => (hok e he).below h) (k := 1280) (by omega) (fun f hf => (hbz f hf).1.1) (fun f hf => (hbz f hf).1.2)
    have hib := intZ_bz (k := 1280) (l := fs.map Rf.f) (fun f hf => (hbz f hf).1.2)
    rw [List.length_map, h9] at hib
    have hil : (intZ (fs.map Rf.f)).length = 9 := by rw [intZ_len, List.length_map, h9]
    have HHR := hc
    rw [hc] at HC
    clear hbz hv hok hz hm HM hmu hc
    go_wp2_with fail
    refine HC.out.mono ?_
    rintro e w1 ⟨rfl, h1⟩
    have r0 := rng_below r0 h1
    have r1 := rng_below r1 h1
    have zn1 := zn1.below h1
    have HB := bel_step HB h1
    go_wp2_with (first | refine wpList_load_mid (by rfl) _ _ (by rfl) w.heap.size 0 (by rfl) (cellsM (zl fs)) _ r0 T30u (by rfl) hi.out ?_ | fail)
    refine (HI.out w1 h1).mono ?_
    rintro e w2 ⟨l2, rfl, hz2, hok2, h2⟩
    have hl2 : l2.length = 9 := by rw [← List.length_map (·.z), hz2, hil]
    have HR := hid (Hreduced_g l2 hl2 hok2 (k := 1280 * 9 + 1 + 1280) (by omega) (fun e he => hib e.z (hz2 ▸ List.mem_map.2 ⟨e, he, rfl⟩)))
    rw [hz2] at HR
    obtain ⟨tt, htt⟩ : ∃ tt, decide (gcdL (intZ (fs.map Rf.f)) ≠ 0) = tt := ⟨_, rfl⟩
    rw [htt] at HR
    have hg0 : gcdL (intZ (fs.map Rf.f)) = 0 → nrmB fs = false := fun h => by
      have : nrmZ fs = intZ (fs.map Rf.f) := by unfold nrmZ redZ; rw [if_pos h]
      unfold nrmB
      rw [detZ_zero hzl (by rw [this]; exact gcdL_zero.1 h)]
      simp
    have hg1 : tt = false → nrmB fs = false := fun h => hg0 (by rw [h] at htt; simpa using htt)
    clear hg0 htt
    clear hz2 hok2 hib HI
    go_wp2_with fail
    refine HR.out.mono ?_
    rintro e w3 ⟨l3, rfl, hz3, hok3, h3⟩
    have hz3 : l3.map (·.z) = nrmZ fs := hz3
    have hl3 : l3.length = 9 := by rw [← List.length_map (·.z), hz3, hzl]
    have F1 := store_new (w := w3) hl3 _ hi18.out
    have h18 : (cellsM l3).length = 18 := by rw [cellsM_len, hl3]
    have r1 := rng_below (rng_below r1 h2) h3
    have zn1 := (zn1.below h2).below h3
    have HB := bel_step (bel_step HB h2) h3
    clear h1 h2 h3 HR r0 hl2 hil
    go_upto_region 4 with fail
    refine enterR (P := fun u => Code.wp _ _ _ _ u) ?_
    intro v hv q0 qz hsz
    clear hsz F1
    have r1 := rng_below r1 hv
    have zn1 := zn1.below hv
    have HB := bel_step HB hv
    have hok4 : ∀ e ∈ l3, e.ok v := fun e he => (hok3 e he).below hv
    have hi3 := hid (show (Try.prog.info? 55).map (·.size) = some (cellsM l3).length by rw [h18]; exact hi18.out)
    have HFi := hid (Hfits_g l3 hl3 hok4)
    rw [le40_ok hok4, hz3] at HFi
    obtain ⟨db, dn, dL, ID⟩ := iz (detZ (nrmZ fs))
    have ID' := ID.out
    rw [← hz3] at ID'
    cases tt
    · have HNB := hid (hg1 rfl)
      clear HFi hg1 hok3 hok4 ID ID'
      go_upto_region 5 with fail
      have ht := rng_there r1 zn1
      have ho := all_oneCell_toArray (cellsM_one zeros9)
      obtain ⟨G1, G2, G3, G4⟩ := fin_N (w := w) (l := zeros9) (cs := zeros9) T55u rfl (by kernel_rfl) HB (by omega) r1 zn1 rfl (fun e he => by rw [List.eq_of_mem_replicate he]; exact ZE.zero_ok _)
      clear G1 G4
      have HF := hid G3
      clear G3
      go_wp2_with (first | refine wpList_store_mid (by rfl) _ _ _ (by rfl) (w.heap.size + 1) 0 (cellsM zeros9).toArray (by rfl) (by rfl) ht hi18.out ho ?_ | fail)
      refine bodyPost_ret (v := .tuple #[.agg (cellsM zeros9).toArray, .bool false]) ?_ rfl ?_
      · simp [results, Try.results30, Sem.run_bind, asAddr, G2]
      · rw [HNB.out]
        exact ⟨zeros9, rfl, rfl, fun h => by simp at h, HF.out⟩
    · clear hg1
      obtain ⟨ff, hff⟩ : ∃ ff, le40 (nrmZ fs) = ff := ⟨_, rfl⟩
      rw [hff] at HFi
      have HDe := hid fun (w4 : World) (h : Below v.heap.size v w4) (hb : ∀ e ∈ l3, Bz 1280 e.z) => Hdeterminant_g l3 hl3 (w := w4) (fun e he => (hok4 e he).below h) (k := 1280) (by omega) hb ID'
      have hokl := hid hok3
      have hq0 := hid q0
      have hz3h := hid hz3
      have hok4h := hid hok4
      clear hok4 hok3
      cases ff
      · have HNB : Hid (nrmB fs = false) := by unfold Hid nrmB; rw [hff]; simp
        clear ID ID' hff HDe hz3 hokl hq0 hz3h
        go_wp2_with (first | refine wpList_load_g (by rfl) _ _ (by rfl) w3.heap.size 0 (by rfl) (cellsM l3) _ q0 T55u (by rfl) hi3.out ?_ | fail)
        refine HFi.out.mono ?_
        rintro e w4 ⟨rfl, h4⟩
        have r1 := rng_below r1 h4
        have zn1 := zn1.below h4
        have HB := bel_step HB h4
        clear h4 HFi
        go_upto_region 5 with fail
        have ht := rng_there r1 zn1
        have ho := all_oneCell_toArray (cellsM_one zeros9)
        obtain ⟨G1, G2, G3, G4⟩ := fin_N (w := w) (l := zeros9) (cs := zeros9) T55u rfl (by kernel_rfl) HB (by omega) r1 zn1 rfl (fun e he => by rw [List.eq_of_mem_replicate he]; exact ZE.zero_ok _)
        clear G1 G4
        have HF := hid G3
        clear G3
        go_wp2_with (first | refine wpList_store_mid (by rfl) _ _ _ (by rfl) (w.heap.size + 1) 0 (cellsM zeros9).toArray (by rfl) (by rfl) ht hi18.out ho ?_ | fail)
        refine bodyPost_ret (v := .tuple #[.agg (cellsM zeros9).toArray, .bool false]) ?_ rfl ?_
        · simp [results, Try.results30, Sem.run_bind, asAddr, G2]
        · rw [HNB.out]
          exact ⟨zeros9, rfl, rfl, fun h => by simp at h, HF.out⟩
      · have hb3 : ∀ e ∈ l3, Bz 1280 e.z := fun e he => le40_bz hff e.z (hz3 ▸ List.mem_map.2 ⟨e, he, rfl⟩)
        have HDe := hid fun (w4 : World) (h : Below v.heap.size v w4) => HDe.out w4 h hb3
        have hc0 : nrmB fs = decide (detZ (nrmZ fs) ≠ 0) := by unfold nrmB; rw [hff, decide_eq_true HHR]; rfl
        have hdz := ID.out.zero
        obtain ⟨tz, htz⟩ : ∃ tz, decide (dn = 0) = tz := ⟨_, rfl⟩
        have hc1 : nrmB fs = !tz := by rw [hc0, ← htz, ← decide_not]; exact decide_eq_decide.2 (by rw [hdz])
        have HZ := hid fun (w5 : World) (A : Option Addr) (c : Nat) => Hzero_g (b := db) (n := dn) (c := c) (A := A) (w := w5) tz htz
        clear hb3 hff ID ID' hz3 hc0 hdz htz HHR
        go_wp2_with (first | refine wpList_load_g (by rfl) _ _ (by rfl) w3.heap.size 0 (by rfl) (cellsM l3) _ q0 T55u (by rfl) hi3.out ?_ | fail)
        refine HFi.out.mono ?_
        rintro e w4 ⟨rfl, h4⟩
        have q4 := rng_below q0 h4
        go_wp2_with (first | refine wpList_load_g (by rfl) _ _ (by rfl) w3.heap.size 0 (by rfl) (cellsM l3) _ q4 T55u (by rfl) hi3.out ?_ | fail)
        refine (HDe.out w4 h4).mono ?_
        rintro e w5 ⟨R5, d5, rfl, m5, h5⟩
        go_wp2_with fail
        refine (HZ.out w5 _ _).mono ?_
        rintro e w6 ⟨rfl, h6⟩
        have h456 := bel_step (bel_step h4 h5) h6
        have r1 := rng_below r1 h456
        have zn1 := zn1.below h456
        have HB := bel_step HB h456
        have q0 := rng_below q0 h456
        clear h4 h5 h6 HFi HDe HZ q4
        cases tz
        · have HNB := hid hc1
          have hok6 := hid fun e he => (hok4h.out e he).below h456
          clear h456 hc1
          obtain ⟨G1, G2, G3, G4⟩ := fin_N (w := w) (l := l3) (cs := zeros9) T55u rfl hi3.out HB (by omega) r1 zn1 (by rw [hl3]; rfl) hok6.out
          have HF := hid (And.intro G3 G4)
          have ht := rng_there r1 zn1
          rw [show (cellsM zeros9).length = (cellsM l3).toArray.size by rw [List.size_toArray, cellsM_len, cellsM_len, hl3]; rfl] at ht
          have hi18' := hid (show (Try.prog.info? 55).map (·.size) = some (cellsM l3).toArray.size by rw [List.size_toArray, h18]; exact hi18.out)
          have ho := all_oneCell_toArray (cellsM_one l3)
          clear G1 G3 G4
          go_upto_region 6 with fail
          go_wp2_with (first | refine wpList_load_mid (by rfl) _ _ (by rfl) w3.heap.size 0 (by rfl) (cellsM l3) _ q0 T55u (by rfl) hi3.out ?_ | refine wpList_store_mid (by rfl) _ _ _ (by rfl) (w.heap.size + 1) 0 (cellsM l3).toArray (by rfl) (by rfl) ht hi18'.out ho ?_ | fail)
          refine bodyPost_ret (v := .tuple #[.agg (cellsM l3).toArray, .bool true]) ?_ rfl ?_
          · simp [results, Try.results30, Sem.run_bind, asAddr, G2]
          · rw [HNB.out]
            exact ⟨l3, hl3, rfl, fun _ => ⟨hz3h.out, HF.out.2⟩, HF.out.1⟩
        · have HNB := hid hc1
          clear h456 hc1 q0
          go_upto_region 5 with fail
          have ht := rng_there r1 zn1
          have ho := all_oneCell_toArray (cellsM_one zeros9)
          obtain ⟨G1, G2, G3, G4⟩ := fin_N (w := w) (l := zeros9) (cs := zeros9) T55u rfl (by kernel_rfl) HB (by omega) r1 zn1 rfl (fun e he => by rw [List.eq_of_mem_replicate he]; exact ZE.zero_ok _)
          clear G1 G4
          have HF := hid G3
          clear G3
          go_wp2_with (first | refine wpList_store_mid (by rfl) _ _ _ (by rfl) (w.heap.size + 1) 0 (cellsM zeros9).toArray (by rfl) (by rfl) ht hi18.out ho ?_ | fail)
          refine bodyPost_ret (v := .tuple #[.agg (cellsM zeros9).toArray, .bool false]) ?_ rfl ?_
          · simp [results, Try.results30, Sem.run_bind, asAddr, G2]
          · rw [HNB.out]
            exact ⟨zeros9, rfl, rfl, fun h => by simp at h, HF.out⟩
  · have HNB : Hid (nrmB fs = false) := by unfold Hid nrmB; rw [decide_eq_false hc]; rfl
    obtain ⟨cv, hcv⟩ : ∃ cv, chkZ 40 fs = cv := ⟨_, rfl⟩
    rw [hcv] at HC hc
    clear hcv HM hm hmu
    go_wp2_with fail
    refine HC.out.mono ?_
    rintro e w1 ⟨rfl, h1⟩
    have r1 := rng_below r1 h1
    have zn1 := zn1.below h1
    have HB := bel_step HB h1
    clear r0 h1 HC
    go_upto_region 2 with fail
    have ht := rng_there r1 zn1
    have ho := all_oneCell_toArray (cellsM_one zeros9)
    obtain ⟨G1, G2, G3, G4⟩ := fin_N (w := w) (l := zeros9) (cs := zeros9) T55u rfl (by kernel_rfl) HB (by omega) r1 zn1 rfl (fun e he => by rw [List.eq_of_mem_replicate he]; exact ZE.zero_ok _)
    clear G1 G4
    have HF := hid G3
    clear G3
    go_wp2_with (first | refine wpList_store_mid (by rfl) _ _ _ (by rfl) (w.heap.size + 1) 0 (cellsM zeros9).toArray (by rfl) (by rfl) ht hi18.out ho ?_ | fail)
    refine bodyPost_ret (v := .tuple #[.agg (cellsM zeros9).toArray, .bool false]) ?_ rfl ?_
    · simp [results, Try.results30, Sem.run_bind, asAddr, G2]
    · rw [HNB.out]
      exact ⟨zeros9, rfl, rfl, fun h => by simp at h, HF.out⟩
end Go.Proofs.Ytgnfobnkhjlbbaa
/- Homographies: walks of Valid, Normal, Inverse (package). Conditions: none. -/
namespace Go.Proofs.Ytgnfobnkhjlbbaa
open Go.RowKit Big

/-- what a function answers that takes one transformation -/
def oneE (F : List Int → List Int) (fs : List Rf) : List Int × Int := if nrmB fs then resZ (F (nrmZ fs)) else (List.replicate 18 0, 1)
theorem nrmZ_len {fs : List Rf} (h9 : fs.length = 9) : (nrmZ fs).length = 9 := by unfold nrmZ; rw [redZ_len, intZ_len, List.length_map, h9]
theorem nrmB_bz {fs : List Rf} (h : nrmB fs = true) : (∀ z ∈ nrmZ fs, Bz 1280 z) ∧ detZ (nrmZ fs) ≠ 0 := by
  unfold nrmB at h
  simp only [Bool.and_eq_true, decide_eq_true_eq] at h
  exact ⟨le40_bz h.1.2, h.2⟩
set_option maxRecDepth 100000 in
set_option maxHeartbeats 8000000 in
theorem HInverse_g (fs : List Rf) (h9 : fs.length = 9) {w : World} (hm : ∀ f ∈ fs, f.mg w) :
    Calls Try.prog 11 #[.agg (cellsM (zl fs)).toArray] w (RetHE w (oneE (adjZ) fs)) := by
  have hl : (zl fs).length = 18 := by rw [zl_len, h9]
  obtain ⟨d32, u32, row32⟩ := T32u
  have hi := hid (show (Try.prog.info? 32).map (·.size) = some (cellsM (zl fs)).length by rw [cellsM_len, hl]; exact T32i)
  have hi18 := hid (show (Try.prog.info? 55).map (·.size) = some 18 by kernel_rfl)
  have HN := hid fun (w1 : World) (h : Below w.heap.size w w1) => Hnormal_g fs h9 (w := w1) (fun f hf => (hm f hf).below h)
  have hnl := nrmZ_len h9
  clear hm
  go_enter Try.func11, Try.ntmps11
  go_upto_region 1 with fail
  refine enterR2 (P := fun u => Code.wp _ _ _ _ u) ?_
  intro u HB r0 r1 zn0 zn1 hsz
  have r1 : u.rangeAt (w.heap.size + 1) 0 (cellsM zeros18) := r1
  clear hsz
  cases hb : nrmB fs
  · have HR : Hid (oneE (adjZ) fs = (List.replicate 18 0, 1)) := by unfold Hid oneE; rw [hb]; rfl
    rw [hb] at HN
    clear hb hnl
    go_wp2_with (first | refine wpList_load_mid (by rfl) _ _ (by rfl) w.heap.size 0 (by rfl) (cellsM (zl fs)) _ r0 u32 row32 hi.out ?_ | fail)
    refine (HN.out u HB).mono ?_
    rintro e w1 ⟨l1, hl1, rfl, hz1, h1⟩
    have F1 := store_new (w := w1) hl1 _ hi18.out
    have h18 : (cellsM l1).length = 18 := by rw [cellsM_len, hl1]
    go_upto_region 2 with fail
    refine enterR (P := fun u => Code.wp _ _ _ _ u) ?_
    intro v hv q0 qz hsz
    have r1 := rng_below (rng_below r1 h1) hv
    have zn1 := (zn1.below h1).below hv
    have HB := bel_step (bel_step HB h1) hv
    clear hsz F1 hz1 HN u32 row32
    go_upto_region 3 with fail
    have ht := rng_there r1 zn1
    have ho := all_oneCell_toArray (cellsM_one zeros18)
    obtain ⟨d32, u32, row32⟩ := T32u
    obtain ⟨G1, G2, G3, G4⟩ := fin_N (w := w) (l := zeros18) (cs := zeros18) u32 row32 T32i HB (by omega) r1 zn1 rfl (fun e he => by rw [List.eq_of_mem_replicate he]; exact ZE.zero_ok _)
    have HF := hid (And.intro G3 G4)
    clear G1 G3 G4
    go_wp2_with (first | refine wpList_store_mid (by rfl) _ _ _ (by rfl) (w.heap.size + 1) 0 (cellsM zeros18).toArray (by rfl) (by rfl) ht T32i ho ?_ | fail)
    refine bodyPost_ret (v := .tuple #[.agg (cellsM zeros18).toArray, .int .i64 1]) ?_ rfl ?_
    · simp [results, Try.results11, Sem.run_bind, asAddr, G2]
    · rw [HR.out]
      exact ⟨zeros18, rfl, rfl, HF.out.2, HF.out.1⟩
  · have HR : Hid (oneE (adjZ) fs = resZ ((adjZ) (nrmZ fs))) := by unfold Hid oneE; rw [hb]; rfl
    obtain ⟨hbz, hdet⟩ := nrmB_bz hb
    rw [hb] at HN
    clear hb hdet
    go_wp2_with (first | refine wpList_load_mid (by rfl) _ _ (by rfl) w.heap.size 0 (by rfl) (cellsM (zl fs)) _ r0 u32 row32 hi.out ?_ | fail)
    refine (HN.out u HB).mono ?_
    rintro e w1 ⟨l1, hl1, rfl, hz1, h1⟩
    obtain ⟨hz, hok⟩ := hz1 rfl
    have F1 := store_new (w := w1) hl1 _ hi18.out
    have h18 : (cellsM l1).length = 18 := by rw [cellsM_len, hl1]
    go_upto_region 2 with fail
    refine enterR (P := fun u => Code.wp _ _ _ _ u) ?_
    intro v hv q0 qz hsz
    have r1 := rng_below (rng_below r1 h1) hv
    have zn1 := (zn1.below h1).below hv
    have HB := bel_step (bel_step HB h1) hv
    have hok2 : ∀ e ∈ l1, e.ok v := fun e he => (hok e he).below hv
    have hbe : ∀ e ∈ l1, Bz 1280 e.z := fun e he => hbz e.z (hz ▸ List.mem_map.2 ⟨e, he, rfl⟩)
    have hi3 := hid (show (Try.prog.info? 55).map (·.size) = some (cellsM l1).length by rw [h18]; exact hi18.out)
    clear hsz F1 HN u32 row32 hz1 r0 hbz h1 hv
    go_upto_region 4 with fail
    have HAd := hid (Hadjugate_g l1 hl1 hok2 (k := 1280) (by omega) hbe)
    rw [hz] at HAd
    have hab := adjZ_bz (k := 1280) hnl (by intro z hz'; rw [← hz] at hz'; obtain ⟨e, he, rfl⟩ := List.mem_map.1 hz'; exact hbe e he)
    have hal := adjZ_len hnl
    clear hok hok2 hbe hz
    go_wp2_with (first | refine wpList_load_mid (by rfl) _ _ (by rfl) w1.heap.size 0 (by rfl) (cellsM l1) _ q0 T55u (by rfl) hi3.out ?_ | fail)
    refine HAd.out.mono ?_
    rintro e w2 ⟨l2, rfl, hz2, hok2, h2⟩
    have hl2 : l2.length = 9 := by rw [← List.length_map (·.z), hz2, hal]
    have HRes := hid (Hresult_g l2 hl2 hok2 (k := 2 * 1280 + 1) (by omega) (fun e he => hab e.z (hz2 ▸ List.mem_map.2 ⟨e, he, rfl⟩)))
    rw [hz2] at HRes
    clear hz2 hok2 hab q0
    go_wp2_with fail
    refine HRes.out.mono ?_
    rintro e w3 ⟨lh, rfl, hz_, hok_, h3⟩
    have r1 := rng_below r1 (bel_step h2 h3)
    have zn1 := zn1.below (bel_step h2 h3)
    have HB := bel_step HB (bel_step h2 h3)
    clear h2 h3 HRes HAd
    have hl18 : lh.length = 18 := by rw [← List.length_map (·.z), hz_]; exact resZ_len (by assumption)
    have ht := rng_there r1 zn1
    rw [show (cellsM zeros18).length = (cellsM lh).toArray.size by rw [List.size_toArray, cellsM_len, cellsM_len, hl18]; rfl] at ht
    have hi36 := hid (show (Try.prog.info? 32).map (·.size) = some (cellsM lh).toArray.size by rw [List.size_toArray, cellsM_len, hl18]; exact T32i)
    have hi36' := hid (show (Try.prog.info? 32).map (·.size) = some (cellsM lh).length by rw [cellsM_len, hl18]; exact T32i)
    have ho := all_oneCell_toArray (cellsM_one lh)
    obtain ⟨d32, u32, row32⟩ := T32u
    obtain ⟨G1, G2, G3, G4⟩ := fin_N (w := w) (l := lh) (cs := zeros18) u32 row32 hi36'.out HB (by omega) r1 zn1 (by rw [hl18]; rfl) hok_
    have HF := hid (And.intro hz_ (And.intro G3 G4))
    clear G1 G3 G4 hz_ hok_
    go_wp2_with (first | refine wpList_store_mid (by rfl) _ _ _ (by rfl) (w.heap.size + 1) 0 (cellsM lh).toArray (by rfl) (by rfl) ht hi36.out ho ?_ | fail)
    refine bodyPost_ret (v := .tuple #[.agg (cellsM lh).toArray, .int .i64 (resZ (adjZ (nrmZ fs))).2]) ?_ rfl ?_
    · simp [results, Try.results11, Sem.run_bind, asAddr, G2]
    · rw [HR.out]
      exact ⟨lh, rfl, HF.out.1, HF.out.2.2, HF.out.2.1⟩
end Go.Proofs.Ytgnfobnkhjlbbaa
