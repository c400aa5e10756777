/- Homographies: walk of FromPoints (package). Conditions: none. -/
import Derived.Test.YtgnfobnkhjlbbaaZHm18
import Derived.Test.YtgnfobnkhjlbbaaZHm19
import Derived.Test.YtgnfobnkhjlbbaaZYU
import Derived.Test.YtgnfobnkhjlbbaaZHm13
set_option linter.unusedVariables false
set_option linter.unusedSimpArgs false
namespace Go.Proofs.Ytgnfobnkhjlbbaa
open Go.RowKit Big

/-- what FromPoints answers -/
def fpE (fs gs : List Rf) : List Int × Int :=
  if chkZ 8 (fs ++ gs) = 0 then
    (if frmB (ptsZ (fs.map Rf.f)) && frmB (ptsZ (gs.map Rf.f)) then resZ (mulZ (redZ (frmZ (ptsZ (gs.map Rf.f)))) (adjZ (redZ (frmZ (ptsZ (fs.map Rf.f)))))) else (List.replicate 18 0, 24))
  else (List.replicate 18 0, chkZ 8 (fs ++ gs))
set_option maxRecDepth 100000 in
set_option maxHeartbeats 8000000 in
theorem HFromPoints_g (fs gs : List Rf) (h8 : fs.length = 8) (h8' : gs.length = 8) {w : World} (hm : ∀ f ∈ fs, f.mg w) (hm' : ∀ f ∈ gs, f.mg w) :
    Calls Try.prog 7 #[.agg (cellsM (zl fs)).toArray, .agg (cellsM (zl gs)).toArray] w (RetHE w (fpE fs gs)) := by
  have hl : (zl fs).length = 16 := by rw [zl_len, h8]
  have hl' : (zl gs).length = 16 := by rw [zl_len, h8']
  have hi := hid (show (Try.prog.info? 29).map (·.size) = some (cellsM (zl fs)).length by rw [cellsM_len, hl]; kernel_rfl)
  have hi' := hid (show (Try.prog.info? 29).map (·.size) = some (cellsM (zl gs)).length by rw [cellsM_len, hl']; kernel_rfl)
  have hi18 := hid (show (Try.prog.info? 55).map (·.size) = some 18 by kernel_rfl)
  have hlen : (fs ++ gs).length = 16 := by rw [List.length_append, h8, h8']
  have HMa := hid fun (W : World) (h : Below w.heap.size w W) f (hf : f ∈ fs ++ gs) => (show f.mg W from by
    rcases List.mem_append.1 hf with hf | hf
    · exact (hm f hf).below h
    · exact (hm' f hf).below h)
  have HCk := hid fun (W : World) (h : Below w.heap.size w W) (gz cz : Nat) (hr : W.rangeAt gz 0 (cellsM (zl (fs ++ gs)))) (hc : 16 ≤ cz) (hc2 : cz ≤ maxLen) => (show Calls Try.prog 19 #[.int .i64 8, .slice (some ⟨gz, 0, none⟩) 16 cz] W (RetI W (chkZ 8 (fs ++ gs))) from by
    have := Hcheck_g 8 (by omega) (fs ++ gs) gz cz W (by omega) (by omega) (by unfold maxLen at hc2; omega) (fun j hj => rf_at hr (HMa.out W h) j hj)
    rwa [hlen] at this)
  clear hm hm'
  go_enter Try.func7, Try.ntmps7
  go_upto_region 1 with fail
  refine enterR3 (P := fun u => Code.wp _ _ _ _ u) ?_
  intro u HBu r0 r0' r1 zn0 zq zn1 hsz
  have r1 : u.rangeAt (w.heap.size + 1 + 1) 0 (cellsM zeros18) := r1
  clear hsz
  have HC1 := hid fun (W : World) (h : Below u.heap.size u W) => Hcoordinates_g fs h8 (w := W) (rng_below r0 h)
  have HC2 := hid fun (W : World) (h : Below u.heap.size u W) => Hcoordinates_g gs h8' (w := W) (rng_below r0' h)
  have HB := Below.refl u.heap.size u
  have hb1 := zn1.lt
  have hcl : (cellsM (zl gs)).length = 8 * 4 := by rw [cellsM_len, hl']
  have hca : cellsM (zl fs) ++ cellsM (zl gs) = cellsM (zl (fs ++ gs)) := by rw [zl_app, cellsM_app]
  obtain ⟨cv, hcv⟩ : ∃ cv, chkZ 8 (fs ++ gs) = cv := ⟨_, rfl⟩
  rw [hcv] at HCk
  have hCV := hid hcv
  clear hcv
  go_cut [6] (fun s6 wx => s6 = .int .i64 cv ∧ Below u.heap.size u wx)
  case first =>
    go_region_held3 (fun _ => True) (trivial) (first | (go_at_call 20; (with_reducible refine (HC1.out _ (bel_step HB BG)).mono ?_); rintro e v1 ⟨s1, rfl, own1, hq1⟩; have qv1 : Below u.heap.size u v1 := bel_step BG hq1) | (go_at_call 20; (with_reducible refine (HC2.out _ (bel_step HB BG)).mono ?_); rintro e v2 ⟨s2, rfl, own2, hq2⟩; have qv2 : Below u.heap.size u v2 := bel_step BG hq2; have wv2 : Below v1.heap.size v1 v2 := bel_step BG hq2; rw [h8'] at own2; obtain ⟨ga, ca, rfl, hga, hra, hcc, hcd⟩ := own_range own2 (by omega)) | (refine step_appF rfl (.tmp 12) (.tmp 14) rfl u.heap.size s1 8 _ rfl (h8 ▸ own_belowN own1 wv2) ga 8 ca rfl (cellsM (zl gs)) hcl hra (cellsM_one _) (by omega) qv2.size ?_; intro s5 w6 own6 hb6; rw [hca] at own6; have qw6 : Below u.heap.size u w6 := qv2.trans hb6; obtain ⟨gz, cz, rfl, hgz, hrz, hcz, hcw⟩ := own_range own6 (by omega)) | (go_at_call 19; (with_reducible refine (HCk.out _ (bel_step HBu qw6) _ _ hrz hcz hcw).mono ?_); rintro e v7 ⟨rfl, hq7⟩; have qv7 : Below u.heap.size u v7 := qw6.trans (hq7.mono qw6.size)))
    all_goals
      go_wp2_with fail
      go_meet
    all_goals exact ⟨rfl, qv7⟩
  case rest =>
    obtain ⟨rfl, hx⟩ := hcut
    have r0 := rng_below r0 hx
    have r0' := rng_below r0' hx
    have r1 := rng_below r1 hx
    have zn1 := zn1.below hx
    have HBw := bel_step HBu hx
    have hxs := hx.size
    have hFP : Hid (fpE fs gs = if chkZ 8 (fs ++ gs) = 0 then (if frmB (ptsZ (fs.map Rf.f)) && frmB (ptsZ (gs.map Rf.f)) then resZ (mulZ (redZ (frmZ (ptsZ (gs.map Rf.f)))) (adjZ (redZ (frmZ (ptsZ (fs.map Rf.f)))))) else (List.replicate 18 0, 24)) else (List.replicate 18 0, chkZ 8 (fs ++ gs))) := rfl
    clear HC1 HC2 HB hcl hca hx HBu zn0 zq HCk
    by_cases hc : cv = 0
    · rw [hCV.out, if_pos hc] at hFP
      have hc0 : chkZ 8 (fs ++ gs) = 0 := hCV.out.trans hc
      subst hc
      have hmu := HMa.out wc HBw
      have hbz := chk_bz (k := 256) hc0 (by omega) hmu
      obtain ⟨hv, _⟩ := chk_parts hc0
      obtain ⟨ok1, z1⟩ := zl_good fs (fun f hf => hv f (List.mem_append_left _ hf)) (fun f hf => hmu f (List.mem_append_left _ hf))
      obtain ⟨ok2, z2⟩ := zl_good gs (fun f hf => hv f (List.mem_append_right _ hf)) (fun f hf => hmu f (List.mem_append_right _ hf))
      rw [List.map_append] at hbz
      have b1 : ∀ f ∈ fs.map Rf.f, Bz 256 f.1 ∧ f.2 < 2 ^ 256 := fun f hf => (hbz f (List.mem_append_left _ hf)).1.2
      have b2 : ∀ f ∈ gs.map Rf.f, Bz 256 f.1 ∧ f.2 < 2 ^ 256 := fun f hf => (hbz f (List.mem_append_right _ hf)).1.2
      have hq1 : (fs.map Rf.f).length = 8 := by simpa using h8
      have hq2 : (gs.map Rf.f).length = 8 := by simpa using h8'
      have HFa := hid (Hframe_g (zl fs) (fs.map Rf.f) hq1 z1 ok1 (k := 256) (by omega) b1)
      have HFb := hid fun (W : World) (h : Below wc.heap.size wc W) => Hframe_g (zl gs) (gs.map Rf.f) hq2 z2 (w := W) (fun e he => (ok2 e he).below h) (k := 256) (by omega) b2
      have m1 := frmZ_bz (ptsZ_len hq1) (ptsZ_bz hq1 b1)
      have m2 := frmZ_bz (ptsZ_len hq2) (ptsZ_bz hq2 b2)
      have n1 := frmZ_len (ptsZ_len hq1)
      have n2 := frmZ_len (ptsZ_len hq2)
      clear hbz hv ok1 ok2 z1 z2 b1 b2 hq1 hq2 hmu HMa hCV hc0
      generalize frmZ (ptsZ (fs.map Rf.f)) = Ma at *
      generalize frmZ (ptsZ (gs.map Rf.f)) = Mb at *
      generalize frmB (ptsZ (fs.map Rf.f)) = ta at *
      generalize frmB (ptsZ (gs.map Rf.f)) = tb at *
      go_upto_region 4 with fail
      go_wp2_with (first | refine wpList_load_mid (by rfl) _ _ (by rfl) w.heap.size 0 (by rfl) (cellsM (zl fs)) _ r0 T29u (by rfl) hi.out ?_ | fail)
      refine HFa.out.mono ?_
      rintro e w1 ⟨l1, hl1, rfl, hz1, h1⟩
      have F1 := store_new (w := w1) hl1 _ hi18.out
      have h18 : (cellsM l1).length = 18 := by rw [cellsM_len, hl1]
      have HB1 := bel_step HBw h1
      have r0' := rng_below r0' h1
      have r1 := rng_below r1 h1
      have zn1 := zn1.below h1
      have c1 := h1
      clear r0 h1 HFa
      go_upto_region 5 with fail
      refine enterR (P := fun u => Code.wp _ _ _ _ u) ?_
      intro v hv p0 pz hsz
      have r0' := rng_below r0' hv
      have r1 := rng_below r1 hv
      have zn1 := zn1.below hv
      have HB2 := bel_step HB1 hv
      have c2 := bel_step c1 hv
      have hok1 : ta = true → l1.map (·.z) = Ma ∧ ∀ x ∈ l1, x.ok v := fun h => ⟨(hz1 h).1, fun x hx => ((hz1 h).2 x hx).below hv⟩
      have ltm := pz.lt
      have ltw := Nat.lt_of_lt_of_le (cell_lt (r1 0 _ rfl)) (Nat.le_refl _)
      have ltw1 : w.heap.size + 1 + 1 < w1.heap.size := Nat.lt_of_lt_of_le hb1 (Nat.le_trans hxs c1.size)
      have HB1s := hid HB1.size
      clear hsz F1 hz1 HB1 hv c1
      go_wp2_with (first | refine wpList_load_mid (by rfl) _ _ (by rfl) (w.heap.size + 1) 0 (by rfl) (cellsM (zl gs)) _ r0' T29u (by rfl) hi'.out ?_ | fail)
      refine (HFb.out v c2).mono ?_
      rintro e w2 ⟨l2, hl2, rfl, hz2, h2⟩
      have F1 := store_new (w := w2) hl2 _ hi18.out
      have h18' : (cellsM l2).length = 18 := by rw [cellsM_len, hl2]
      have p0 := rng_below p0 h2
      have pz := pz.below h2
      have r1 := rng_below r1 h2
      have zn1 := zn1.below h2
      have HB3 := bel_step HB2 h2
      have hok1' : ta = true → l1.map (·.z) = Ma ∧ ∀ x ∈ l1, x.ok w2 := fun h => ⟨(hok1 h).1, fun x hx => ((hok1 h).2 x hx).below h2⟩
      have ltm := pz.lt
      have HB2s := hid HB3.size
      clear HB2 HFb r0' h2 hok1 c2
      go_upto_region 6 with fail
      refine enterR (P := fun u => Code.wp _ _ _ _ u) ?_
      intro v2 hv2 q0 qz hsz
      have p0 := rng_below p0 hv2
      have pz := pz.below hv2
      have r1 := rng_below r1 hv2
      have zn1 := zn1.below hv2
      have HB := bel_step HB3 hv2
      have hok1 := hid fun (h : ta = true) => And.intro (hok1' h).1 (fun x hx => ((hok1' h).2 x hx).below hv2)
      have hok2 := hid fun (h : tb = true) => And.intro (hz2 h).1 (fun x hx => ((hz2 h).2 x hx).below hv2)
      clear hsz F1 hz2 HB3 hv2 hok1'
      cases ta
      · have HR : Hid (fpE fs gs = (List.replicate 18 0, 24)) := by rw [hFP]; rfl
        clear hFP
        go_upto_region 7 with fail
        have ht := rng_there r1 zn1
        have ho := all_oneCell_toArray (cellsM_one zeros18)
        obtain ⟨d32, u32, row32⟩ := T32u
        obtain ⟨G1, G2, G3, G4⟩ := fin_N (w := w) (l := zeros18) (cs := zeros18) u32 row32 T32i HB (by omega) r1 zn1 rfl (fun e he => by rw [List.eq_of_mem_replicate he]; exact ZE.zero_ok _)
        have HF := hid (And.intro G3 G4)
        clear G1 G3 G4
        go_wp2_with (first | refine wpList_store_mid (by rfl) _ _ _ (by rfl) (w.heap.size + 1 + 1) 0 (cellsM zeros18).toArray (by rfl) (by rfl) ht T32i ho ?_ | fail)
        refine bodyPost_ret (v := .tuple #[.agg (cellsM zeros18).toArray, .int .i64 24]) ?_ rfl ?_
        · simp [results, Try.results7, Sem.run_bind, asAddr, G2]
        · rw [HR.out]
          exact ⟨zeros18, rfl, rfl, HF.out.2, HF.out.1⟩
      · cases tb
        · have HR : Hid (fpE fs gs = (List.replicate 18 0, 24)) := by rw [hFP]; rfl
          clear hFP
          go_upto_region 7 with fail
          have ht := rng_there r1 zn1
          have ho := all_oneCell_toArray (cellsM_one zeros18)
          obtain ⟨d32, u32, row32⟩ := T32u
          obtain ⟨G1, G2, G3, G4⟩ := fin_N (w := w) (l := zeros18) (cs := zeros18) u32 row32 T32i HB (by omega) r1 zn1 rfl (fun e he => by rw [List.eq_of_mem_replicate he]; exact ZE.zero_ok _)
          have HF := hid (And.intro G3 G4)
          clear G1 G3 G4
          go_wp2_with (first | refine wpList_store_mid (by rfl) _ _ _ (by rfl) (w.heap.size + 1 + 1) 0 (cellsM zeros18).toArray (by rfl) (by rfl) ht T32i ho ?_ | fail)
          refine bodyPost_ret (v := .tuple #[.agg (cellsM zeros18).toArray, .int .i64 24]) ?_ rfl ?_
          · simp [results, Try.results7, Sem.run_bind, asAddr, G2]
          · rw [HR.out]
            exact ⟨zeros18, rfl, rfl, HF.out.2, HF.out.1⟩
        · have HR : Hid (fpE fs gs = resZ (mulZ (redZ Mb) (adjZ (redZ Ma)))) := by rw [hFP]; rfl
          clear hFP
          obtain ⟨e1, o1⟩ := hok1.out rfl
          obtain ⟨e2, o2⟩ := hok2.out rfl
          have ba : ∀ e ∈ l1, Bz (3 * (2 * 256) + 3 + 2 * 256) e.z := fun e he => m1 e.z (e1 ▸ List.mem_map.2 ⟨e, he, rfl⟩)
          have bb : ∀ e ∈ l2, Bz (3 * (2 * 256) + 3 + 2 * 256) e.z := fun e he => m2 e.z (e2 ▸ List.mem_map.2 ⟨e, he, rfl⟩)
          have HRa := hid (Hreduced_g l1 hl1 o1 (by omega) ba)
          rw [e1] at HRa
          have rba := redZ_bz m1
          have rbb := redZ_bz m2
          have rla : (redZ Ma).length = 9 := by rw [redZ_len, n1]
          have rlb : (redZ Mb).length = 9 := by rw [redZ_len, n2]
          generalize redZ Ma = RA at *
          generalize hRB : redZ Mb = RB at *
          have HRB := hid hRB
          clear hRB
          have hi3 := hid (show (Try.prog.info? 55).map (·.size) = some (cellsM l1).length by rw [h18]; exact hi18.out)
          have hi4 := hid (show (Try.prog.info? 55).map (·.size) = some (cellsM l2).length by rw [h18']; exact hi18.out)
          have pz0 := hid pz
          clear hok1 hok2 e1 o1 ba m1 m2
          go_upto_region 8 with fail
          go_wp2_with (first | refine wpList_load_mid (by rfl) _ _ (by rfl) w1.heap.size 0 (by rfl) (cellsM l1) _ p0 T55u (by rfl) hi3.out ?_ | fail)
          refine HRa.out.mono ?_
          rintro e w3 ⟨l3, rfl, hz3, hok3, h3⟩
          have hl3 : l3.length = 9 := by rw [← List.length_map (·.z), hz3, rla]
          have h183 : (cellsM l3).length = 18 := by rw [cellsM_len, hl3]
          have hi5 := hid (show (Try.prog.info? 55).map (·.size) = some (cellsM l3).length by rw [h183]; exact hi18.out)
          obtain ⟨F1, F2, F3, F4⟩ := fin_N (w := w) (l := l3) (cs := l1) T55u rfl hi5.out (bel_step HB h3) HB1s.out (rng_below p0 h3) (pz.below h3) (by rw [hl1, hl3]) hok3
          have p0w := rng_below p0 h3
          have q0 := rng_far (o := 0) (vs := cellsM l3) (rng_below q0 h3) (show w2.heap.size ≠ w1.heap.size by omega)
          have r1 := rng_far (o := 0) (vs := cellsM l3) (rng_below r1 h3) (show w.heap.size + 1 + 1 ≠ w1.heap.size by omega)
          have zn1 := Zn.sets (k := w1.heap.size) (cellsM l3) w3 _ 0 (zn1.below h3)
          have qz := Zn.sets (k := w1.heap.size) (cellsM l3) w3 _ 0 (qz.below h3)
          have pz := Zn.sets (k := w1.heap.size) (cellsM l3) w3 _ 0 (pz.below h3)
          have o2 : ∀ e ∈ l2, e.ok (w3.setCells w1.heap.size 0 (cellsM l3)) := fun e he => ((o2 e he).below h3).sets p0w (by rw [h183, h18]; exact Nat.le_refl _) (cellsM_npl _)
          have p0 := rng_same p0w (pz0.out.below h3) (vs := cellsM l3) (by rw [h183, h18])
          have HF3 := hid (And.intro F3 F4)
          clear F2 F3 F4 p0w HRa HB
          generalize hU : w3.setCells w1.heap.size 0 (cellsM l3) = U1 at *
          have HU := hid hU
          have HRb := hid (Hreduced_g l2 hl2 o2 (by omega) bb)
          rw [e2, HRB.out] at HRb
          clear o2 bb e2
          go_upto_region 9 with fail
          clear hU F1 HU
          have g12 : w1.heap.size ≠ w2.heap.size := by omega
          go_wp2_with (first | refine wpList_load_mid (by rfl) _ _ (by rfl) w2.heap.size 0 (by rfl) (cellsM l2) _ q0 T55u (by rfl) hi4.out ?_ | fail)
          refine HRb.out.mono ?_
          rintro e w4 ⟨l4, rfl, hz4, hok4, h4⟩
          have hl4 : l4.length = 9 := by rw [← List.length_map (·.z), hz4, rlb]
          have h184 : (cellsM l4).length = 18 := by rw [cellsM_len, hl4]
          have hi6 := hid (show (Try.prog.info? 55).map (·.size) = some (cellsM l4).length by rw [h184]; exact hi18.out)
          obtain ⟨F1, F2, F3, F4⟩ := fin_N (w := w) (l := l4) (cs := l2) T55u rfl hi6.out (bel_step HF3.out.1 h4) HB2s.out (rng_below q0 h4) (qz.below h4) (by rw [hl2, hl4]) hok4
          have q0w := rng_below q0 h4
          have p0 := rng_far (o := 0) (vs := cellsM l4) (rng_below p0 h4) g12
          have r1 := rng_far (o := 0) (vs := cellsM l4) (rng_below r1 h4) (show w.heap.size + 1 + 1 ≠ w2.heap.size by omega)
          have zn1 := Zn.sets (k := w2.heap.size) (cellsM l4) w4 _ 0 (zn1.below h4)
          have o3 : ∀ e ∈ l3, e.ok (w4.setCells w2.heap.size 0 (cellsM l4)) := fun e he => ((HF3.out.2 e he).below h4).sets q0w (by rw [h184, h18']; exact Nat.le_refl _) (cellsM_npl _)
          have q0 := rng_same q0w (qz.below h4) (vs := cellsM l4) (by rw [h184, h18'])
          have HF4 := hid (And.intro F3 F4)
          clear F2 F3 F4 q0w HRb HF3
          generalize hU : w4.setCells w2.heap.size 0 (cellsM l4) = U2 at *
          have ba : ∀ e ∈ l3, Bz (3 * (2 * 256) + 3 + 2 * 256) e.z := fun e he => rba e.z (hz3 ▸ List.mem_map.2 ⟨e, he, rfl⟩)
          have bb : ∀ e ∈ l4, Bz (3 * (2 * 256) + 3 + 2 * 256) e.z := fun e he => rbb e.z (hz4 ▸ List.mem_map.2 ⟨e, he, rfl⟩)
          have HAd := hid fun (W : World) (h : Below U2.heap.size U2 W) => Hadjugate_g l3 hl3 (w := W) (fun e he => (o3 e he).below h) (k := 3 * (2 * 256) + 3 + 2 * 256) (by omega) ba
          rw [hz3] at HAd
          have hab := adjZ_bz rla rba
          have hal := adjZ_len rla
          have HTi := hid fun (W : World) (h : Below U2.heap.size U2 W) (l5 : List ZE) (hl5 : l5.length = 9) (hz5 : l5.map (·.z) = adjZ RA) (o5 : ∀ e ∈ l5, e.ok W) => (show Calls Try.prog 23 #[.agg (cellsM l4).toArray, .agg (cellsM l5).toArray] W (RetM W (mulZ RB (adjZ RA))) from by
            have := Htimes_g l4 l5 hl4 hl5 (w := W) (fun e he => (HF4.out.2 e he).below h) o5 (k := 3 * (2 * 256) + 3 + 2 * 256) (m := 2 * (3 * (2 * 256) + 3 + 2 * 256) + 1) (by omega) bb (fun e he => hab e.z (hz5 ▸ List.mem_map.2 ⟨e, he, rfl⟩))
            rwa [hz4, hz5] at this)
          have hmb := mulZ_bz rlb hal rbb hab
          have hml := mulZ_len rlb hal
          have HRs := hid fun (W : World) (l6 : List ZE) (hz6 : l6.map (·.z) = mulZ RB (adjZ RA)) (o6 : ∀ e ∈ l6, e.ok W) => (show Calls Try.prog 25 #[.agg (cellsM l6).toArray] W (RetHE W (resZ (mulZ RB (adjZ RA)))) from by
            have := Hresult_g l6 (by rw [← List.length_map (·.z), hz6, hml]) (w := W) o6 (k := 3 * (2 * 256) + 3 + 2 * 256 + (2 * (3 * (2 * 256) + 3 + 2 * 256) + 1) + 2) (by omega) (fun e he => hmb e.z (hz6 ▸ List.mem_map.2 ⟨e, he, rfl⟩))
            rwa [hz6] at this)
          clear ba bb hab hmb rba rbb hz3 hz4 o3
          go_upto_region 10 with fail
          obtain ⟨d32, u32, row32⟩ := T32u
          have HB := Below.refl U2.heap.size U2
          clear hU
          refine wp_region_held_drew (S := fun w' => w'.rangeAt w1.heap.size 0 (cellsM l3) ∧ w'.rangeAt w2.heap.size 0 (cellsM l4)) (by kernel_rfl) ?_ (fun hHeld => ?_)
          · exact ⟨p0, q0⟩
          refine' wpAnyH_take (i := 0) (v := .agg (cellsM l4).toArray) ?_ ?_ ?_ ?_ ?_ ?_ ?_ ?_
          rotate_left 1
          · (simp only [List.getElem?_toArray, List.getElem?_cons_succ, List.getElem?_cons_zero]; rfl)
          · kernel_rfl
          · kernel_rfl
          · kernel_rfl
          · exact fun _ _ _ h => h
          · exact yieldsIf_load_mid (by rfl) _ _ rfl (w2.heap.size) 0 rfl (cellsM l4) _ (fun w_ hS_ => hS_.2) T55u rfl hi6.out
          · assumption
          (try simp only [Act.put, Lp0, Lp1, Lp2])
          refine' wpAnyH_take (i := 1) (v := .agg (cellsM l3).toArray) ?_ ?_ ?_ ?_ ?_ ?_ ?_ ?_
          rotate_left 1
          · (simp only [List.getElem?_toArray, List.getElem?_cons_succ, List.getElem?_cons_zero]; rfl)
          · kernel_rfl
          · kernel_rfl
          · kernel_rfl
          · exact fun _ _ _ h => h
          · exact yieldsIf_load_mid (by rfl) _ _ rfl (w1.heap.size) 0 rfl (cellsM l3) _ (fun w_ hS_ => hS_.1) T55u rfl hi5.out
          · assumption
          (try simp only [Act.put, Lp0, Lp1, Lp2])
          refine wpAnyH_ready (rs := [2]) (by kernel_rfl) (by simp) ?_
          refine' AllReadyH.cons (o := _) (by simp only [List.getElem?_toArray, List.getElem?_cons_succ, List.getElem?_cons_zero]; rfl) (fun K hK => ?_) AllReadyH.nil
          go_simp
          (go_at_call 24; (with_reducible refine (HAd.out _ (bel_step HB BG)).mono ?_); rintro e x1 ⟨l5, rfl, hz5, o5, hq1⟩; have qx1 : Below U2.heap.size U2 x1 := bel_step BG hq1; have p0 := rng_below p0 qx1; have q0 := rng_below q0 qx1; have hl5 : l5.length = 9 := by rw [← List.length_map (·.z), hz5, hal])
          (try go_wp2_with fail)
          refine hK.out _ _ ?_ (fun hHeld => ?_)
          · exact ⟨p0, q0⟩
          clear hK K
          (try simp only [Act.put, Lp0, Lp1, Lp2])
          refine wpAnyH_ready (rs := [3]) (by kernel_rfl) (by simp) ?_
          refine' AllReadyH.cons (o := _) (by simp only [List.getElem?_toArray, List.getElem?_cons_succ, List.getElem?_cons_zero]; rfl) (fun K hK => ?_) AllReadyH.nil
          go_simp
          (go_at_call 23; (with_reducible refine (HTi.out _ (bel_step HB BG) l5 hl5 hz5 o5).mono ?_); rintro e x2 ⟨l6, rfl, hz6, o6, hq2⟩; have qx2 : Below U2.heap.size U2 x2 := bel_step BG hq2; have wx2 : Below x1.heap.size x1 x2 := hq2; have p0 := rng_below p0 wx2; have q0 := rng_below q0 wx2)
          (try go_wp2_with fail)
          refine hK.out _ _ ?_ (fun hHeld => ?_)
          · exact ⟨p0, q0⟩
          clear hK K
          (try simp only [Act.put, Lp0, Lp1, Lp2])
          refine wpAnyH_ready (rs := [4]) (by kernel_rfl) (by simp) ?_
          refine' AllReadyH.cons (o := _) (by simp only [List.getElem?_toArray, List.getElem?_cons_succ, List.getElem?_cons_zero]; rfl) (fun K hK => ?_) AllReadyH.nil
          go_simp
          (go_at_call 25; (with_reducible refine (HRs.out _ l6 hz6 o6).mono ?_); rintro e x3 ⟨lh, rfl, hz_, hok_, hq3⟩; have qx3 : Below U2.heap.size U2 x3 := bel_step qx2 hq3; have p0 := rng_below p0 hq3; have q0 := rng_below q0 hq3; have r1 := rng_below r1 qx3; have zn1 := zn1.below qx3)
          (try go_wp2_with fail)
          refine hK.out _ _ ?_ (fun hHeld => ?_)
          · exact ⟨p0, q0⟩
          clear hK K
          (try simp only [Act.put, Lp0, Lp1, Lp2])
          refine' wpAnyH_take (i := 5) ?_ ?_ ?_ ?_ ?_ ?_ ?_ ?_
          rotate_left 2
          · (simp only [List.getElem?_toArray, List.getElem?_cons_succ, List.getElem?_cons_zero]; rfl)
          · kernel_rfl
          · kernel_rfl
          · kernel_rfl
          · exact fun _ _ _ h => h
          · (refine Or.inl ⟨by rfl, ?_⟩; intro w_ hSw_; (try dsimp only at hSw_); go_simp; (try with_reducible rfl))
          · assumption
          (try simp only [Act.put, Lp0, Lp1, Lp2])
          refine' wpAnyH_take (i := 6) ?_ ?_ ?_ ?_ ?_ ?_ ?_ ?_
          rotate_left 2
          · (simp only [List.getElem?_toArray, List.getElem?_cons_succ, List.getElem?_cons_zero]; rfl)
          · kernel_rfl
          · kernel_rfl
          · kernel_rfl
          · exact fun _ _ _ h => h
          · (refine Or.inl ⟨by rfl, ?_⟩; intro w_ hSw_; (try dsimp only at hSw_); go_simp; (try with_reducible rfl))
          · assumption
          (try simp only [Act.put, Lp0, Lp1, Lp2])
          have hl18 : lh.length = 18 := by rw [← List.length_map (·.z), hz_]; exact resZ_len hml
          have ht : x3.there (w.heap.size + 1 + 1) 0 (cellsM lh).toArray.size := by
            have := rng_there r1 zn1
            rwa [show (cellsM zeros18).length = (cellsM lh).toArray.size by rw [List.size_toArray, cellsM_len, cellsM_len, hl18]; rfl] at this
          have hi36 : (Try.prog.info? 32).map (·.size) = some (cellsM lh).toArray.size := by rw [List.size_toArray, cellsM_len, hl18]; exact T32i
          have ho := cellsM_one lh
          have p0 := rng_far (o := 0) (vs := cellsM lh) p0 (show w1.heap.size ≠ w.heap.size + 1 + 1 by omega)
          have q0 := rng_far (o := 0) (vs := cellsM lh) q0 (show w2.heap.size ≠ w.heap.size + 1 + 1 by omega)
          refine wpAnyH_ready (rs := [7]) (by kernel_rfl) (by simp) ?_
          refine' AllReadyH.cons (o := _) (by simp only [List.getElem?_toArray, List.getElem?_cons_succ, List.getElem?_cons_zero]; rfl) (fun K hK => ?_) AllReadyH.nil
          rw [if_pos (by rfl)]
          refine wp_store_mid _ _ _ rfl (w.heap.size + 1 + 1) 0 (cellsM lh).toArray rfl rfl ht hi36 (all_oneCell_toArray ho) ?_
          refine hK.out _ _ ?_ (fun hHeld => ?_)
          · exact ⟨p0, q0⟩
          clear hK K
          (try simp only [Act.put, Lp0, Lp1, Lp2])
          refine' wpAnyH_take (i := 8) ?_ ?_ ?_ ?_ ?_ ?_ ?_ ?_
          rotate_left 2
          · (simp only [List.getElem?_toArray, List.getElem?_cons_succ, List.getElem?_cons_zero]; rfl)
          · kernel_rfl
          · kernel_rfl
          · kernel_rfl
          · exact fun _ _ _ h => h
          · (refine Or.inl ⟨by rfl, ?_⟩; intro w_ hSw_; (try dsimp only at hSw_); go_simp; (try with_reducible rfl))
          · assumption
          (try simp only [Act.put, Lp0, Lp1, Lp2])
          refine wpAnyH_done (by kernel_rfl) ?_ _
          have HBx := bel_step HF4.out.1 qx3
          have hi36' : (Try.prog.info? 32).map (·.size) = some (cellsM lh).length := by rw [cellsM_len, hl18]; exact T32i
          obtain ⟨G1, G2, G3, G4⟩ := fin_N (w := w) (l := lh) (cs := zeros18) u32 row32 hi36' HBx (by omega) r1 zn1 (by rw [hl18]; rfl) hok_
          have HF := hid (And.intro hz_ (And.intro G3 G4))
          clear G1 G3 G4 hz_ hok_ hi36'
          go_wp2
          refine bodyPost_ret (v := .tuple #[.agg (cellsM lh).toArray, .int .i64 (resZ (mulZ RB (adjZ RA))).2]) ?_ rfl ?_
          · simp [results, Try.results7, Sem.run_bind, asAddr, Act.put, G2]
          · rw [HR.out]
            exact ⟨lh, rfl, HF.out.1, HF.out.2.2, HF.out.2.1⟩
    · rw [hCV.out, if_neg hc] at hFP
      have HR : Hid (fpE fs gs = (List.replicate 18 0, cv)) := hFP
      have HB := HBw
      clear hFP r0 r0' HMa hCV
      go_upto_region 3 with fail
      have ht := rng_there r1 zn1
      have ho := all_oneCell_toArray (cellsM_one zeros18)
      obtain ⟨d32, u32, row32⟩ := T32u
      obtain ⟨G1, G2, G3, G4⟩ := fin_N (w := w) (l := zeros18) (cs := zeros18) u32 row32 T32i HB (by omega) r1 zn1 rfl (fun e he => by rw [List.eq_of_mem_replicate he]; exact ZE.zero_ok _)
      have HF := hid (And.intro G3 G4)
      clear G1 G3 G4
      go_wp2_with (first | refine wpList_store_mid (by rfl) _ _ _ (by rfl) (w.heap.size + 1 + 1) 0 (cellsM zeros18).toArray (by rfl) (by rfl) ht T32i ho ?_ | fail)
      refine bodyPost_ret (v := .tuple #[.agg (cellsM zeros18).toArray, .int .i64 cv]) ?_ rfl ?_
      · simp [results, Try.results7, Sem.run_bind, asAddr, G2]
      · rw [HR.out]
        exact ⟨zeros18, rfl, rfl, HF.out.2, HF.out.1⟩
end Go.Proofs.Ytgnfobnkhjlbbaa
