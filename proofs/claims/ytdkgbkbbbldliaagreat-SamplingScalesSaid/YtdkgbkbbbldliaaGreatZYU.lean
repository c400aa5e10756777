/- Homographies: walk of normal (package). Conditions: none. -/
import Derived.Test.YtdkgbkbbbldliaaGreatZYR
import Derived.Test.YtdkgbkbbbldliaaGreatZYT
import Derived.Test.YtdkgbkbbbldliaaGreatZHm10
set_option linter.unusedVariables false
set_option linter.unusedSimpArgs false
namespace Go.Proofs.YtdkgbkbbbldliaaGreat
open Go.RowKit Big
set_option maxRecDepth 100000 in
set_option maxHeartbeats 8000000 in
theorem Wk (fs : List Rf) (h9 : fs.length = 9) {w : World} (hm : ∀ f ∈ fs, f.mg w) :
  Calls Tryz.prog 57 #[.agg (Kc (zl fs)).toArray] w (Hk w (nrmB fs) (nrmZ fs)) := by
 have hl : (zl fs).length = 18 := by rw [Ky, h9]
 have hi := hid (show (Tryz.prog.info? 30).map (·.size) = some (Kc (zl fs)).length by rw [Kf, hl]; kernel_rfl)
 have hi18 := hid (show (Tryz.prog.info? 95).map (·.size) = some 18 by kernel_rfl)
 have HM := hid fun (w1 : World) (h : Below w.heap.size w w1) f hf => (hm f hf).below h
 go_enter Tryz.func57, Tryz.ntmps57
 go_upto_region 1 with fail
 refine Jc (P := fun u => Code.wp _ _ _ _ u) ?_
 intro u HB r0 r1 zn0 zn1 hsz
 have r1 : u.rangeAt (w.heap.size + 1) 0 (Kc Kx) := r1
 have hmu := HM.out u HB
 have HC := Hcheck_g 40 (by omega) fs w.heap.size 9 u (by omega) (by omega) (by omega) (fun j h => rf_at r0 hmu j h)
 rw [h9] at HC
 have HC := hid HC
 have hzl : (nrmZ fs).length = 9 := by unfold nrmZ; rw [Q4, Y7, List.length_map, h9]
 clear hsz
 by_cases hc : chkZ 40 fs = 0
 ·have hbz := G7 (k := 1280) hc (by omega) hmu
  obtain ⟨hv, _⟩ := J8 hc
  obtain ⟨hok, hz⟩ := Wy fs hv hmu
  have HI := hid fun (w1 : World) (h : Below u.heap.size u w1) => Hintegers_g (w := w1) (zl fs) (fs.map Rf.f) (by simpa using h9) hz (fun e he => (hok e he).below h) (k := 1280) (by omega) (fun f hf => (hbz f hf).1.1) (fun f hf => (hbz f hf).1.2)
  have hib := Hz (k := 1280) (l := fs.map Rf.f) (fun f hf => (hbz f hf).1.2)
  rw [List.length_map, h9] at hib
  have hil : (intZ (fs.map Rf.f)).length = 9 := by rw [Y7, List.length_map, h9]
  have HHR := hc
  rw [hc] at HC
  clear hbz hv hok hz hm HM hmu hc
  go_wp2_with fail
  refine HC.out.mono ?_
  rintro e w1 ⟨rfl, h1⟩
  have r0 := Ke r0 h1
  have r1 := Ke r1 h1
  have zn1 := zn1.below h1
  have HB := Kb HB h1
  go_wp2_with (first | refine wpList_load_mid (by rfl) _ _ (by rfl) w.heap.size 0 (by rfl) (Kc (zl fs)) _ r0 T30u (by rfl) hi.out ?_ | fail)
  refine (HI.out w1 h1).mono ?_
  rintro e w2 ⟨l2, rfl, hz2, hok2, h2⟩
  have hl2 : l2.length = 9 := by rw [← List.length_map (·.z), hz2, hil]
  have HR := hid (Gz l2 hl2 hok2 (k := 1280 * 9 + 1 + 1280) (by omega) (fun e he => hib e.z (hz2 ▸ List.mem_map.2 ⟨e, he, rfl⟩)))
  rw [hz2] at HR
  obtain ⟨tt, htt⟩ : ∃ tt, decide (gcdL (intZ (fs.map Rf.f)) ≠ 0) = tt := ⟨_, rfl⟩
  rw [htt] at HR
  have hg0 : gcdL (intZ (fs.map Rf.f)) = 0 → nrmB fs = false := fun h => by
   have : nrmZ fs = intZ (fs.map Rf.f) := by unfold nrmZ redZ; rw [if_pos h]
   unfold nrmB
   rw [detZ_zero hzl (by rw [this]; exact Wr.1 h)]
   simp
  have hg1 : tt = false → nrmB fs = false := fun h => hg0 (by rw [h] at htt; simpa using htt)
  clear hg0 htt
  clear hz2 hok2 hib HI
  go_wp2_with fail
  refine HR.out.mono ?_
  rintro e w3 ⟨l3, rfl, hz3, hok3, h3⟩
  have hz3 : l3.map (·.z) = nrmZ fs := hz3
  have hl3 : l3.length = 9 := by rw [← List.length_map (·.z), hz3, hzl]
  have F1 := Jt (w := w3) hl3 _ hi18.out
  have h18 : (Kc l3).length = 18 := by rw [Kf, hl3]
  have r1 := Ke (Ke r1 h2) h3
  have zn1 := (zn1.below h2).below h3
  have HB := Kb (Kb HB h2) h3
  clear h1 h2 h3 HR r0 hl2 hil
  go_upto_region 4 with fail
  refine Kw (P := fun u => Code.wp _ _ _ _ u) ?_
  intro v hv q0 qz hsz
  clear hsz F1
  have r1 := Ke r1 hv
  have zn1 := zn1.below hv
  have HB := Kb HB hv
  have hok4 : ∀ e ∈ l3, e.ok v := fun e he => (hok3 e he).below hv
  have hi3 := hid (show (Tryz.prog.info? 95).map (·.size) = some (Kc l3).length by rw [h18]; exact hi18.out)
  have HFi := hid (Hfits_g l3 hl3 hok4)
  rw [Dd hok4, hz3] at HFi
  obtain ⟨db, dn, dL, ID⟩ := iz (detZ (nrmZ fs))
  have ID' := ID.out
  rw [← hz3] at ID'
  cases tt
  ·have HNB := hid (hg1 rfl)
   clear HFi hg1 hok3 hok4 ID ID'
   go_upto_region 5 with fail
   have ht := Kq r1 zn1
   have ho := all_oneCell_toArray (Km Kx)
   obtain ⟨G1, G2, G3, G4⟩ := Ju (w := w) (l := Kx) (cs := Kx) T55u rfl (by kernel_rfl) HB (by omega) r1 zn1 rfl (fun e he => by rw [List.eq_of_mem_replicate he]; exact ZE.zero_ok _)
   clear G1 G4
   have HF := hid G3
   clear G3
   go_wp2_with (first | refine wpList_store_mid (by rfl) _ _ _ (by rfl) (w.heap.size + 1) 0 (Kc Kx).toArray (by rfl) (by rfl) ht hi18.out ho ?_ | fail)
   refine bodyPost_ret (v := .tuple #[.agg (Kc Kx).toArray, .bool false]) ?_ rfl ?_
   ·simp [results, Tryz.results57, Sem.run_bind, asAddr, G2]
   ·rw [HNB.out]
    exact ⟨Kx, rfl, rfl, fun h => by simp at h, HF.out⟩
  ·clear hg1
   obtain ⟨ff, hff⟩ : ∃ ff, le40 (nrmZ fs) = ff := ⟨_, rfl⟩
   rw [hff] at HFi
   have HDe := hid fun (w4 : World) (h : Below v.heap.size v w4) (hb : ∀ e ∈ l3, Bz 1280 e.z) => Gi l3 hl3 (w := w4) (fun e he => (hok4 e he).below h) (k := 1280) (by omega) hb ID'
   have hokl := hid hok3
   have hq0 := hid q0
   have hz3h := hid hz3
   have hok4h := hid hok4
   clear hok4 hok3
   cases ff
   ·have HNB : Hid (nrmB fs = false) := by unfold Hid nrmB; rw [hff]; simp
    clear ID ID' hff HDe hz3 hokl hq0 hz3h
    go_wp2_with (first | refine Jg (by rfl) _ _ (by rfl) w3.heap.size 0 (by rfl) (Kc l3) _ q0 T55u (by rfl) hi3.out ?_ | fail)
    refine HFi.out.mono ?_
    rintro e w4 ⟨rfl, h4⟩
    have r1 := Ke r1 h4
    have zn1 := zn1.below h4
    have HB := Kb HB h4
    clear h4 HFi
    go_upto_region 5 with fail
    have ht := Kq r1 zn1
    have ho := all_oneCell_toArray (Km Kx)
    obtain ⟨G1, G2, G3, G4⟩ := Ju (w := w) (l := Kx) (cs := Kx) T55u rfl (by kernel_rfl) HB (by omega) r1 zn1 rfl (fun e he => by rw [List.eq_of_mem_replicate he]; exact ZE.zero_ok _)
    clear G1 G4
    have HF := hid G3
    clear G3
    go_wp2_with (first | refine wpList_store_mid (by rfl) _ _ _ (by rfl) (w.heap.size + 1) 0 (Kc Kx).toArray (by rfl) (by rfl) ht hi18.out ho ?_ | fail)
    refine bodyPost_ret (v := .tuple #[.agg (Kc Kx).toArray, .bool false]) ?_ rfl ?_
    ·simp [results, Tryz.results57, Sem.run_bind, asAddr, G2]
    ·rw [HNB.out]
     exact ⟨Kx, rfl, rfl, fun h => by simp at h, HF.out⟩
   ·have hb3 : ∀ e ∈ l3, Bz 1280 e.z := fun e he => Dx hff e.z (hz3 ▸ List.mem_map.2 ⟨e, he, rfl⟩)
    have HDe := hid fun (w4 : World) (h : Below v.heap.size v w4) => HDe.out w4 h hb3
    have hc0 : nrmB fs = decide (detZ (nrmZ fs) ≠ 0) := by unfold nrmB; rw [hff, decide_eq_true HHR]; rfl
    have hdz := ID.out.zero
    obtain ⟨tz, htz⟩ : ∃ tz, decide (dn = 0) = tz := ⟨_, rfl⟩
    have hc1 : nrmB fs = !tz := by rw [hc0, ← htz, ← decide_not]; exact decide_eq_decide.2 (by rw [hdz])
    have HZ := hid fun (w5 : World) (A : Option Addr) (c : Nat) => W6 (b := db) (n := dn) (c := c) (A := A) (w := w5) tz htz
    clear hb3 hff ID ID' hz3 hc0 hdz htz HHR
    go_wp2_with (first | refine Jg (by rfl) _ _ (by rfl) w3.heap.size 0 (by rfl) (Kc l3) _ q0 T55u (by rfl) hi3.out ?_ | fail)
    refine HFi.out.mono ?_
    rintro e w4 ⟨rfl, h4⟩
    have q4 := Ke q0 h4
    go_wp2_with (first | refine Jg (by rfl) _ _ (by rfl) w3.heap.size 0 (by rfl) (Kc l3) _ q4 T55u (by rfl) hi3.out ?_ | fail)
    refine (HDe.out w4 h4).mono ?_
    rintro e w5 ⟨R5, d5, rfl, m5, h5⟩
    go_wp2_with fail
    refine (HZ.out w5 _ _).mono ?_
    rintro e w6 ⟨rfl, h6⟩
    have h456 := Kb (Kb h4 h5) h6
    have r1 := Ke r1 h456
    have zn1 := zn1.below h456
    have HB := Kb HB h456
    have q0 := Ke q0 h456
    clear h4 h5 h6 HFi HDe HZ q4
    cases tz
    ·have HNB := hid hc1
     have hok6 := hid fun e he => (hok4h.out e he).below h456
     clear h456 hc1
     obtain ⟨G1, G2, G3, G4⟩ := Ju (w := w) (l := l3) (cs := Kx) T55u rfl hi3.out HB (by omega) r1 zn1 (by rw [hl3]; rfl) hok6.out
     have HF := hid (And.intro G3 G4)
     have ht := Kq r1 zn1
     rw [show (Kc Kx).length = (Kc l3).toArray.size by rw [List.size_toArray, Kf, Kf, hl3]; rfl] at ht
     have hi18' := hid (show (Tryz.prog.info? 95).map (·.size) = some (Kc l3).toArray.size by rw [List.size_toArray, h18]; exact hi18.out)
     have ho := all_oneCell_toArray (Km l3)
     clear G1 G3 G4
     go_upto_region 6 with fail
     go_wp2_with (first | refine wpList_load_mid (by rfl) _ _ (by rfl) w3.heap.size 0 (by rfl) (Kc l3) _ q0 T55u (by rfl) hi3.out ?_ | refine wpList_store_mid (by rfl) _ _ _ (by rfl) (w.heap.size + 1) 0 (Kc l3).toArray (by rfl) (by rfl) ht hi18'.out ho ?_ | fail)
     refine bodyPost_ret (v := .tuple #[.agg (Kc l3).toArray, .bool true]) ?_ rfl ?_
     ·simp [results, Tryz.results57, Sem.run_bind, asAddr, G2]
     ·rw [HNB.out]
      exact ⟨l3, hl3, rfl, fun _ => ⟨hz3h.out, HF.out.2⟩, HF.out.1⟩
    ·have HNB := hid hc1
     clear h456 hc1 q0
     go_upto_region 5 with fail
     have ht := Kq r1 zn1
     have ho := all_oneCell_toArray (Km Kx)
     obtain ⟨G1, G2, G3, G4⟩ := Ju (w := w) (l := Kx) (cs := Kx) T55u rfl (by kernel_rfl) HB (by omega) r1 zn1 rfl (fun e he => by rw [List.eq_of_mem_replicate he]; exact ZE.zero_ok _)
     clear G1 G4
     have HF := hid G3
     clear G3
     go_wp2_with (first | refine wpList_store_mid (by rfl) _ _ _ (by rfl) (w.heap.size + 1) 0 (Kc Kx).toArray (by rfl) (by rfl) ht hi18.out ho ?_ | fail)
     refine bodyPost_ret (v := .tuple #[.agg (Kc Kx).toArray, .bool false]) ?_ rfl ?_
     ·simp [results, Tryz.results57, Sem.run_bind, asAddr, G2]
     ·rw [HNB.out]
      exact ⟨Kx, rfl, rfl, fun h => by simp at h, HF.out⟩
 ·have HNB : Hid (nrmB fs = false) := by unfold Hid nrmB; rw [decide_eq_false hc]; rfl
  obtain ⟨cv, hcv⟩ : ∃ cv, chkZ 40 fs = cv := ⟨_, rfl⟩
  rw [hcv] at HC hc
  clear hcv HM hm hmu
  go_wp2_with fail
  refine HC.out.mono ?_
  rintro e w1 ⟨rfl, h1⟩
  have r1 := Ke r1 h1
  have zn1 := zn1.below h1
  have HB := Kb HB h1
  clear r0 h1 HC
  go_upto_region 2 with fail
  have ht := Kq r1 zn1
  have ho := all_oneCell_toArray (Km Kx)
  obtain ⟨G1, G2, G3, G4⟩ := Ju (w := w) (l := Kx) (cs := Kx) T55u rfl (by kernel_rfl) HB (by omega) r1 zn1 rfl (fun e he => by rw [List.eq_of_mem_replicate he]; exact ZE.zero_ok _)
  clear G1 G4
  have HF := hid G3
  clear G3
  go_wp2_with (first | refine wpList_store_mid (by rfl) _ _ _ (by rfl) (w.heap.size + 1) 0 (Kc Kx).toArray (by rfl) (by rfl) ht hi18.out ho ?_ | fail)
  refine bodyPost_ret (v := .tuple #[.agg (Kc Kx).toArray, .bool false]) ?_ rfl ?_
  ·simp [results, Tryz.results57, Sem.run_bind, asAddr, G2]
  ·rw [HNB.out]
   exact ⟨Kx, rfl, rfl, fun h => by simp at h, HF.out⟩
/-- what a function answers that takes one transformation -/
def oneE (F : List Int → List Int) (fs : List Rf) : List Int × Int := if nrmB fs then resZ (F (nrmZ fs)) else (List.replicate 18 0, 1)
theorem Jf {fs : List Rf} (h9 : fs.length = 9) : (nrmZ fs).length = 9 := by unfold nrmZ; rw [Q4, Y7, List.length_map, h9]
theorem Zo {fs : List Rf} (h : nrmB fs = true) : (∀ z ∈ nrmZ fs, Bz 1280 z) ∧ detZ (nrmZ fs) ≠ 0 := by
 unfold nrmB at h
 simp only [Bool.and_eq_true, decide_eq_true_eq] at h
 exact ⟨Dx h.1.2, h.2⟩
set_option maxRecDepth 100000 in
set_option maxHeartbeats 8000000 in
theorem V7 (fs : List Rf) (h9 : fs.length = 9) {w : World} (hm : ∀ f ∈ fs, f.mg w) :
  Calls Tryz.prog 31 #[.agg (Kc (zl fs)).toArray] w (RetB w (nrmB fs)) := by
 have hl : (zl fs).length = 18 := by rw [Ky, h9]
 obtain ⟨d32, u32, row32⟩ := T32u
 have hi := hid (show (Tryz.prog.info? 32).map (·.size) = some (Kc (zl fs)).length by rw [Kf, hl]; exact T32i)
 have hi18 := hid (show (Tryz.prog.info? 95).map (·.size) = some 18 by kernel_rfl)
 have HN := hid fun (w1 : World) (h : Below w.heap.size w w1) => Wk fs h9 (w := w1) (fun f hf => (hm f hf).below h)
 generalize nrmB fs = t at *
 clear hm
 go_enter Tryz.func31, Tryz.ntmps31
 go_upto_region 1 with fail
 refine enterR1 (P := fun u => Code.wp _ _ _ _ u) ?_
 intro u HB r0 zn0 hsz
 clear hsz
 go_wp2_with (first | refine wpList_load_mid (by rfl) _ _ (by rfl) w.heap.size 0 (by rfl) (Kc (zl fs)) _ r0 u32 row32 hi.out ?_ | fail)
 refine (HN.out u HB).mono ?_
 rintro e w1 ⟨l1, hl1, rfl, hz1, h1⟩
 have F1 := Jt (w := w1) hl1 _ hi18.out
 have h18 : (Kc l1).length = 18 := by rw [Kf, hl1]
 go_wp2
 go_ret
 exact ⟨rfl, (Kb HB h1).alloc (Kb HB h1).size _⟩
set_option maxRecDepth 100000 in
set_option maxHeartbeats 8000000 in
theorem HNormal_g (fs : List Rf) (h9 : fs.length = 9) {w : World} (hm : ∀ f ∈ fs, f.mg w) :
  Calls Tryz.prog 58 #[.agg (Kc (zl fs)).toArray] w (Hn w (oneE (id) fs)) := by
 have hl : (zl fs).length = 18 := by rw [Ky, h9]
 obtain ⟨d32, u32, row32⟩ := T32u
 have hi := hid (show (Tryz.prog.info? 32).map (·.size) = some (Kc (zl fs)).length by rw [Kf, hl]; exact T32i)
 have hi18 := hid (show (Tryz.prog.info? 95).map (·.size) = some 18 by kernel_rfl)
 have HN := hid fun (w1 : World) (h : Below w.heap.size w w1) => Wk fs h9 (w := w1) (fun f hf => (hm f hf).below h)
 have hnl := Jf h9
 clear hm
 go_enter Tryz.func58, Tryz.ntmps58
 go_upto_region 1 with fail
 refine Jc (P := fun u => Code.wp _ _ _ _ u) ?_
 intro u HB r0 r1 zn0 zn1 hsz
 have r1 : u.rangeAt (w.heap.size + 1) 0 (Kc Kj) := r1
 clear hsz
 cases hb : nrmB fs
 ·have HR : Hid (oneE (id) fs = (List.replicate 18 0, 1)) := by unfold Hid oneE; rw [hb]; rfl
  rw [hb] at HN
  clear hb hnl
  go_wp2_with (first | refine wpList_load_mid (by rfl) _ _ (by rfl) w.heap.size 0 (by rfl) (Kc (zl fs)) _ r0 u32 row32 hi.out ?_ | fail)
  refine (HN.out u HB).mono ?_
  rintro e w1 ⟨l1, hl1, rfl, hz1, h1⟩
  have F1 := Jt (w := w1) hl1 _ hi18.out
  have h18 : (Kc l1).length = 18 := by rw [Kf, hl1]
  go_upto_region 2 with fail
  refine Kw (P := fun u => Code.wp _ _ _ _ u) ?_
  intro v hv q0 qz hsz
  have r1 := Ke (Ke r1 h1) hv
  have zn1 := (zn1.below h1).below hv
  have HB := Kb (Kb HB h1) hv
  clear hsz F1 hz1 HN u32 row32
  go_upto_region 3 with fail
  have ht := Kq r1 zn1
  have ho := all_oneCell_toArray (Km Kj)
  obtain ⟨d32, u32, row32⟩ := T32u
  obtain ⟨G1, G2, G3, G4⟩ := Ju (w := w) (l := Kj) (cs := Kj) u32 row32 T32i HB (by omega) r1 zn1 rfl (fun e he => by rw [List.eq_of_mem_replicate he]; exact ZE.zero_ok _)
  have HF := hid (And.intro G3 G4)
  clear G1 G3 G4
  go_wp2_with (first | refine wpList_store_mid (by rfl) _ _ _ (by rfl) (w.heap.size + 1) 0 (Kc Kj).toArray (by rfl) (by rfl) ht T32i ho ?_ | fail)
  refine bodyPost_ret (v := .tuple #[.agg (Kc Kj).toArray, .int .i64 1]) ?_ rfl ?_
  ·simp [results, Tryz.results58, Sem.run_bind, asAddr, G2]
  ·rw [HR.out]
   exact ⟨Kj, rfl, rfl, HF.out.2, HF.out.1⟩
 ·have HR : Hid (oneE (id) fs = resZ ((id) (nrmZ fs))) := by unfold Hid oneE; rw [hb]; rfl
  obtain ⟨hbz, hdet⟩ := Zo hb
  rw [hb] at HN
  clear hb hdet
  go_wp2_with (first | refine wpList_load_mid (by rfl) _ _ (by rfl) w.heap.size 0 (by rfl) (Kc (zl fs)) _ r0 u32 row32 hi.out ?_ | fail)
  refine (HN.out u HB).mono ?_
  rintro e w1 ⟨l1, hl1, rfl, hz1, h1⟩
  obtain ⟨hz, hok⟩ := hz1 rfl
  have F1 := Jt (w := w1) hl1 _ hi18.out
  have h18 : (Kc l1).length = 18 := by rw [Kf, hl1]
  go_upto_region 2 with fail
  refine Kw (P := fun u => Code.wp _ _ _ _ u) ?_
  intro v hv q0 qz hsz
  have r1 := Ke (Ke r1 h1) hv
  have zn1 := (zn1.below h1).below hv
  have HB := Kb (Kb HB h1) hv
  have hok2 : ∀ e ∈ l1, e.ok v := fun e he => (hok e he).below hv
  have hbe : ∀ e ∈ l1, Bz 1280 e.z := fun e he => hbz e.z (hz ▸ List.mem_map.2 ⟨e, he, rfl⟩)
  have hi3 := hid (show (Tryz.prog.info? 95).map (·.size) = some (Kc l1).length by rw [h18]; exact hi18.out)
  clear hsz F1 HN u32 row32 hz1 r0 hbz h1 hv
  go_upto_region 4 with fail
  have HRes := hid (Hresult_g l1 hl1 hok2 (k := 1280) (by omega) hbe)
  rw [hz] at HRes
  clear hok hok2 hbe hz
  go_wp2_with (first | refine wpList_load_mid (by rfl) _ _ (by rfl) w1.heap.size 0 (by rfl) (Kc l1) _ q0 T55u (by rfl) hi3.out ?_ | fail)
  refine HRes.out.mono ?_
  rintro e w2 ⟨lh, rfl, hz_, hok_, h2⟩
  have r1 := Ke r1 h2
  have zn1 := zn1.below h2
  have HB := Kb HB h2
  clear h2 HRes q0
  have hl18 : lh.length = 18 := by rw [← List.length_map (·.z), hz_]; exact Wf (by assumption)
  have ht := Kq r1 zn1
  rw [show (Kc Kj).length = (Kc lh).toArray.size by rw [List.size_toArray, Kf, Kf, hl18]; rfl] at ht
  have hi36 := hid (show (Tryz.prog.info? 32).map (·.size) = some (Kc lh).toArray.size by rw [List.size_toArray, Kf, hl18]; exact T32i)
  have hi36' := hid (show (Tryz.prog.info? 32).map (·.size) = some (Kc lh).length by rw [Kf, hl18]; exact T32i)
  have ho := all_oneCell_toArray (Km lh)
  obtain ⟨d32, u32, row32⟩ := T32u
  obtain ⟨G1, G2, G3, G4⟩ := Ju (w := w) (l := lh) (cs := Kj) u32 row32 hi36'.out HB (by omega) r1 zn1 (by rw [hl18]; rfl) hok_
  have HF := hid (And.intro hz_ (And.intro G3 G4))
  clear G1 G3 G4 hz_ hok_
  go_wp2_with (first | refine wpList_store_mid (by rfl) _ _ _ (by rfl) (w.heap.size + 1) 0 (Kc lh).toArray (by rfl) (by rfl) ht hi36.out ho ?_ | fail)
  refine bodyPost_ret (v := .tuple #[.agg (Kc lh).toArray, .int .i64 (resZ (nrmZ fs)).2]) ?_ rfl ?_
  ·simp [results, Tryz.results58, Sem.run_bind, asAddr, G2]
  ·rw [HR.out]
   exact ⟨lh, rfl, HF.out.1, HF.out.2.2, HF.out.2.1⟩
set_option maxRecDepth 100000 in
set_option maxHeartbeats 8000000 in
theorem HInverse_g (fs : List Rf) (h9 : fs.length = 9) {w : World} (hm : ∀ f ∈ fs, f.mg w) :
  Calls Tryz.prog 41 #[.agg (Kc (zl fs)).toArray] w (Hn w (oneE (adjZ) fs)) := by
 have hl : (zl fs).length = 18 := by rw [Ky, h9]
 obtain ⟨d32, u32, row32⟩ := T32u
 have hi := hid (show (Tryz.prog.info? 32).map (·.size) = some (Kc (zl fs)).length by rw [Kf, hl]; exact T32i)
 have hi18 := hid (show (Tryz.prog.info? 95).map (·.size) = some 18 by kernel_rfl)
 have HN := hid fun (w1 : World) (h : Below w.heap.size w w1) => Wk fs h9 (w := w1) (fun f hf => (hm f hf).below h)
 have hnl := Jf h9
 clear hm
 go_enter Tryz.func41, Tryz.ntmps41
 go_upto_region 1 with fail
 refine Jc (P := fun u => Code.wp _ _ _ _ u) ?_
 intro u HB r0 r1 zn0 zn1 hsz
 have r1 : u.rangeAt (w.heap.size + 1) 0 (Kc Kj) := r1
 clear hsz
 cases hb : nrmB fs
 ·have HR : Hid (oneE (adjZ) fs = (List.replicate 18 0, 1)) := by unfold Hid oneE; rw [hb]; rfl
  rw [hb] at HN
  clear hb hnl
  go_wp2_with (first | refine wpList_load_mid (by rfl) _ _ (by rfl) w.heap.size 0 (by rfl) (Kc (zl fs)) _ r0 u32 row32 hi.out ?_ | fail)
  refine (HN.out u HB).mono ?_
  rintro e w1 ⟨l1, hl1, rfl, hz1, h1⟩
  have F1 := Jt (w := w1) hl1 _ hi18.out
  have h18 : (Kc l1).length = 18 := by rw [Kf, hl1]
  go_upto_region 2 with fail
  refine Kw (P := fun u => Code.wp _ _ _ _ u) ?_
  intro v hv q0 qz hsz
  have r1 := Ke (Ke r1 h1) hv
  have zn1 := (zn1.below h1).below hv
  have HB := Kb (Kb HB h1) hv
  clear hsz F1 hz1 HN u32 row32
  go_upto_region 3 with fail
  have ht := Kq r1 zn1
  have ho := all_oneCell_toArray (Km Kj)
  obtain ⟨d32, u32, row32⟩ := T32u
  obtain ⟨G1, G2, G3, G4⟩ := Ju (w := w) (l := Kj) (cs := Kj) u32 row32 T32i HB (by omega) r1 zn1 rfl (fun e he => by rw [List.eq_of_mem_replicate he]; exact ZE.zero_ok _)
  have HF := hid (And.intro G3 G4)
  clear G1 G3 G4
  go_wp2_with (first | refine wpList_store_mid (by rfl) _ _ _ (by rfl) (w.heap.size + 1) 0 (Kc Kj).toArray (by rfl) (by rfl) ht T32i ho ?_ | fail)
  refine bodyPost_ret (v := .tuple #[.agg (Kc Kj).toArray, .int .i64 1]) ?_ rfl ?_
  ·simp [results, Tryz.results41, Sem.run_bind, asAddr, G2]
  ·rw [HR.out]
   exact ⟨Kj, rfl, rfl, HF.out.2, HF.out.1⟩
 ·have HR : Hid (oneE (adjZ) fs = resZ ((adjZ) (nrmZ fs))) := by unfold Hid oneE; rw [hb]; rfl
  obtain ⟨hbz, hdet⟩ := Zo hb
  rw [hb] at HN
  clear hb hdet
  go_wp2_with (first | refine wpList_load_mid (by rfl) _ _ (by rfl) w.heap.size 0 (by rfl) (Kc (zl fs)) _ r0 u32 row32 hi.out ?_ | fail)
  refine (HN.out u HB).mono ?_
  rintro e w1 ⟨l1, hl1, rfl, hz1, h1⟩
  obtain ⟨hz, hok⟩ := hz1 rfl
  have F1 := Jt (w := w1) hl1 _ hi18.out
  have h18 : (Kc l1).length = 18 := by rw [Kf, hl1]
  go_upto_region 2 with fail
  refine Kw (P := fun u => Code.wp _ _ _ _ u) ?_
  intro v hv q0 qz hsz
  have r1 := Ke (Ke r1 h1) hv
  have zn1 := (zn1.below h1).below hv
  have HB := Kb (Kb HB h1) hv
  have hok2 : ∀ e ∈ l1, e.ok v := fun e he => (hok e he).below hv
  have hbe : ∀ e ∈ l1, Bz 1280 e.z := fun e he => hbz e.z (hz ▸ List.mem_map.2 ⟨e, he, rfl⟩)
  have hi3 := hid (show (Tryz.prog.info? 95).map (·.size) = some (Kc l1).length by rw [h18]; exact hi18.out)
  clear hsz F1 HN u32 row32 hz1 r0 hbz h1 hv
  go_upto_region 4 with fail
  have HAd := hid (Ul l1 hl1 hok2 (k := 1280) (by omega) hbe)
  rw [hz] at HAd
  have hab := D3 (k := 1280) hnl (by intro z hz'; rw [← hz] at hz'; obtain ⟨e, he, rfl⟩ := List.mem_map.1 hz'; exact hbe e he)
  have hal := Ws hnl
  clear hok hok2 hbe hz
  go_wp2_with (first | refine wpList_load_mid (by rfl) _ _ (by rfl) w1.heap.size 0 (by rfl) (Kc l1) _ q0 T55u (by rfl) hi3.out ?_ | fail)
  refine HAd.out.mono ?_
  rintro e w2 ⟨l2, rfl, hz2, hok2, h2⟩
  have hl2 : l2.length = 9 := by rw [← List.length_map (·.z), hz2, hal]
  have HRes := hid (Hresult_g l2 hl2 hok2 (k := 2 * 1280 + 1) (by omega) (fun e he => hab e.z (hz2 ▸ List.mem_map.2 ⟨e, he, rfl⟩)))
  rw [hz2] at HRes
  clear hz2 hok2 hab q0
  go_wp2_with fail
  refine HRes.out.mono ?_
  rintro e w3 ⟨lh, rfl, hz_, hok_, h3⟩
  have r1 := Ke r1 (Kb h2 h3)
  have zn1 := zn1.below (Kb h2 h3)
  have HB := Kb HB (Kb h2 h3)
  clear h2 h3 HRes HAd
  have hl18 : lh.length = 18 := by rw [← List.length_map (·.z), hz_]; exact Wf (by assumption)
  have ht := Kq r1 zn1
  rw [show (Kc Kj).length = (Kc lh).toArray.size by rw [List.size_toArray, Kf, Kf, hl18]; rfl] at ht
  have hi36 := hid (show (Tryz.prog.info? 32).map (·.size) = some (Kc lh).toArray.size by rw [List.size_toArray, Kf, hl18]; exact T32i)
  have hi36' := hid (show (Tryz.prog.info? 32).map (·.size) = some (Kc lh).length by rw [Kf, hl18]; exact T32i)
  have ho := all_oneCell_toArray (Km lh)
  obtain ⟨d32, u32, row32⟩ := T32u
  obtain ⟨G1, G2, G3, G4⟩ := Ju (w := w) (l := lh) (cs := Kj) u32 row32 hi36'.out HB (by omega) r1 zn1 (by rw [hl18]; rfl) hok_
  have HF := hid (And.intro hz_ (And.intro G3 G4))
  clear G1 G3 G4 hz_ hok_
  go_wp2_with (first | refine wpList_store_mid (by rfl) _ _ _ (by rfl) (w.heap.size + 1) 0 (Kc lh).toArray (by rfl) (by rfl) ht hi36.out ho ?_ | fail)
  refine bodyPost_ret (v := .tuple #[.agg (Kc lh).toArray, .int .i64 (resZ (adjZ (nrmZ fs))).2]) ?_ rfl ?_
  ·simp [results, Tryz.results41, Sem.run_bind, asAddr, G2]
  ·rw [HR.out]
   exact ⟨lh, rfl, HF.out.1, HF.out.2.2, HF.out.2.1⟩
end Go.Proofs.YtdkgbkbbbldliaaGreat
