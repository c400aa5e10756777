/- The law HomographyMaps: its walk. Conditions: none. -/
import Derived.Test.YtgnfobnkhjlbbaaZXA
import Derived.Test.YtgnfobnkhjlbbaaZYZ
set_option linter.unusedVariables false
set_option linter.unusedSimpArgs false
namespace Go.Proofs.Ytgnfobnkhjlbbaa
open Go.RowKit Big

theorem pair_drop {fs : List Rf} {j : Nat} (hj : 2 * j + 1 < fs.length) : (fs.drop (2 * j)).take 2 = [fs[2 * j]'(by omega), fs[2 * j + 1]] := by
  rw [List.drop_eq_getElem_cons (by omega), List.drop_eq_getElem_cons (by omega)]
  rfl
/-- a part of an array in its box -/
theorem rng_pt {w : World} {g : Nat} {fs : List Rf} (h : w.rangeAt g 0 (cellsM (zl fs))) {j : Nat} (hj : 2 * j + 1 < fs.length) : w.rangeAt g (j * 8) (cellsM (zl [fs[2 * j]'(by omega), fs[2 * j + 1]])) := by
  have e : fs = fs.take (2 * j) ++ ([fs[2 * j]'(by omega), fs[2 * j + 1]] ++ fs.drop (2 * j + 2)) := by
    conv => lhs; rw [← List.take_append_drop (2 * j) fs]
    congr 1
    rw [← pair_drop hj]
    conv => lhs; rw [← List.take_append_drop 2 (fs.drop (2 * j))]
    rw [List.drop_drop]
  have h2 : w.rangeAt g 0 (cellsM (zl (fs.take (2 * j)) ++ (zl [fs[2 * j]'(by omega), fs[2 * j + 1]] ++ zl (fs.drop (2 * j + 2))))) := by
    rw [← zl_app, ← zl_app, ← e]
    exact h
  have := rng_mid _ _ _ h2
  rw [zl_len, List.length_take, Nat.min_eq_left (by omega), show 0 + 2 * (2 * (2 * j)) = j * 8 by omega] at this
  exact this
/-- the pair of coordinates of a point -/
def pr2 (fs : List Rf) (j : Nat) : List Rf := (fs.drop (2 * j)).take 2
def prZ (fs : List Rf) (j : Nat) : List Int := frZ ((pr2 fs j).map Rf.f)
theorem pr2_eq {fs : List Rf} {j : Nat} (hj : 2 * j + 1 < fs.length) : pr2 fs j = [fs[2 * j]'(by omega), fs[2 * j + 1]] := pair_drop hj
theorem prZ_eq {fs : List Rf} {j : Nat} (hj : 2 * j + 1 < fs.length) : prZ fs j = frZ [(fs[2 * j]'(by omega)).f, (fs[2 * j + 1]).f] := by unfold prZ; rw [pr2_eq hj]; rfl
theorem pr2_len {fs : List Rf} {j : Nat} (hj : 2 * j + 1 < fs.length) : (pr2 fs j).length = 2 := by rw [pr2_eq hj]; rfl
theorem two_ok {w : World} {fs : List Rf} {j : Nat} (hj : 2 * j + 1 < fs.length) (h : ∀ f ∈ fs, f.mg w) : ∀ f ∈ [fs[2 * j]'(by omega), fs[2 * j + 1]], f.mg w := fun f hf => by
  simp only [List.mem_cons, List.not_mem_nil, or_false] at hf
  rcases hf with rfl | rfl <;> exact h _ (List.getElem_mem _)
set_option maxRecDepth 100000 in
set_option maxHeartbeats 16000000 in
theorem HomographyMaps_law (fs gs : List Rf) (h8 : fs.length = 8) (h8' : gs.length = 8) {w : World} (hm : ∀ f ∈ fs, f.mg w) (hm' : ∀ f ∈ gs, f.mg w) (hex : ∀ W : World, Calls Try.prog 8 #[] W (RetB W true)) :
    Calls Try.prog 3 #[.agg (cellsM (zl fs)).toArray, .agg (cellsM (zl gs)).toArray] w (RetB w true) := by
  have hl : (zl fs).length = 16 := by rw [zl_len, h8]
  have hl' : (zl gs).length = 16 := by rw [zl_len, h8']
  have hi := hid (show (Try.prog.info? 29).map (·.size) = some (cellsM (zl fs)).length by rw [cellsM_len, hl]; kernel_rfl)
  have hi' := hid (show (Try.prog.info? 29).map (·.size) = some (cellsM (zl gs)).length by rw [cellsM_len, hl']; kernel_rfl)
  have HEx := hid fun (W : World) (_ : Below w.heap.size w W) => hex W
  have HMa := hid fun (W : World) (h : Below w.heap.size w W) f (hf : f ∈ fs) => (hm f hf).below h
  have HMb := hid fun (W : World) (h : Below w.heap.size w W) f (hf : f ∈ gs) => (hm' f hf).below h
  have HF1 := hid fun (W : World) (h : Below w.heap.size w W) => LFromPoints_h h8 h8' (HMa.out W h) (HMb.out W h)
  have HF2 := hid fun (W : World) (h : Below w.heap.size w W) => LFromPoints_h h8' h8 (HMb.out W h) (HMa.out W h)
  have hE := fpE_err fs gs
  obtain ⟨⟨q1, e1⟩, hq1⟩ : ∃ q, fpE fs gs = q := ⟨_, rfl⟩
  rw [hq1] at HF1 hE
  have hQ1 := hid hq1
  have hE := hid hE
  clear hm hm' hex hq1
  have hFl : ∀ (v : World) (rf : List Rf), rf.length = 9 → (storeCells ⟨v.heap.size, 0, none⟩ (cellsM (zl rf))).run Try.prog (v.alloc (.cells (cellsM zeros18).toArray 32)) = .ok () (v.alloc (.cells (cellsM (zl rf)).toArray 32)) := fun v rf h => store_newN (P := Try.prog) (w := v) (l := zl rf) (zs := cellsM zeros18) 32 (by rw [cellsM_len, zl_len, h]; rfl) T32i
  simp only [zeros18, List.replicate, cellsM, ZE.cells, ZE.zero, List.cons_append, List.nil_append] at hFl
  have hFl := hid hFl
  obtain ⟨d32, hU32, row32⟩ := T32u
  obtain ⟨d28, hU28, row28⟩ := T28u
  go_enter Try.func3, Try.ntmps3
  go_upto_region 1 with fail
  refine enterR2 (P := fun u => Code.wp _ _ _ _ u) ?_
  intro u HB r0 r1 zn0 zn1 hsz
  clear hsz
  have lt1 := zn1.lt
  go_wp2_with (first | refine wpList_load_mid (by rfl) _ _ (by rfl) w.heap.size 0 (by rfl) (cellsM (zl fs)) _ r0 T29u (by rfl) hi.out ?_ | refine wpList_load_mid (by rfl) _ _ (by rfl) (w.heap.size + 1) 0 (by rfl) (cellsM (zl gs)) _ r1 T29u (by rfl) hi'.out ?_ | fail)
  refine (HF1.out u HB).mono ?_
  rintro e x1 ⟨rf1, h91, rfl, hz1, ok1, mg1, hq_⟩
  have F1 := hFl.out x1 rf1 h91
  have h361 : (cellsM (zl rf1)).length = 36 := by rw [cellsM_len, zl_len, h91]
  go_upto_region 2 with fail
  refine enterR (P := fun u => Code.wp _ _ _ _ u) ?_
  intro v1 hv_ s1 sz_ hsz
  have qv1 := bel_step hq_ hv_
  have lx1 : x1.heap.size < v1.heap.size := sz_.lt
  have hi1 := hid (show (Try.prog.info? 32).map (·.size) = some (cellsM (zl rf1)).length by rw [h361]; exact T32i)
  have r0 := rng_below r0 qv1
  have r1 := rng_below r1 qv1
  have ok1 : ∀ e ∈ zl rf1, e.ok v1 := fun e he => (ok1 e he).below hv_
  have mg1 : ∀ f ∈ rf1, f.mg v1 := fun f hf => (mg1 f hf).below hv_
  have HB := bel_step HB qv1
  clear F1 sz_ hsz hv_ hq_ h361
  have hsv1 := qv1.size
  clear zn0 zn1 HF1
  rcases hE.out with rfl | rfl | rfl | rfl
  · have h0 : (fpE fs gs).2 = 0 := by rw [hQ1.out]
    obtain ⟨hc, hP, hQ, hres⟩ := fpE_zero h8 h8' h0
    have hq : (fs.map Rf.f).length = 8 := by simpa using h8
    have hq' : (gs.map Rf.f).length = 8 := by simpa using h8'
    have HH : HomR v1 rf1 (fpM (fs.map Rf.f) (gs.map Rf.f)) := resZ_hom hres (fpM_len hq hq') h0 (by rw [hz1, hQ1.out]) ok1
    obtain ⟨hback, hval⟩ := maps_back h8 h8' HH h0
    have hgv := (chk_parts (chk_app.1 hc).2).1
    have HMap := hid fun (j : Nat) (hj : j < 4) => maps_apl h8 h8' HH h0 (HMb.out v1 HB) hj
    have hE2 : (fpE gs fs).2 = 0 ∨ (fpE gs fs).2 = 4 := by
      obtain ⟨c1, c2⟩ := chk_app.1 hc
      rw [fpE_res h8' h8 (chk_app.2 ⟨c2, c1⟩) hQ hP]
      exact resZ_err _
    have HIv := hid fun (W : World) (h : Below v1.heap.size v1 W) => LInverse_h h91 (w := W) (fun f hf => (mg1 f hf).below h)
    have HVa := hid fun (W : World) (h : Below v1.heap.size v1 W) => HValid_g rf1 h91 (w := W) (fun f hf => (mg1 f hf).below h)
    have HAp0 := hid fun (W : World) (h : Below v1.heap.size v1 W) (j : Nat) (hj : j < 4) => (show Calls Try.prog 9 #[.agg (cellsM (zl rf1)).toArray, .agg (cellsM (zl (pr2 fs j))).toArray] W (RetP W (prZ gs j, 0)) from by
      rw [pr2_eq (fs := fs) (by omega), prZ_eq (fs := gs) (by omega)]
      have := LApply_h h91 rfl (w := W) (fun f hf => (mg1 f hf).below h) (two_ok (fs := fs) (j := j) (by omega) (HMa.out W (bel_step HB h)))
      rwa [HMap.out j hj] at this)
    have HPo := hid fun (W : World) (h : Below v1.heap.size v1 W) (j : Nat) (hj : j < 4) (rP : List Rf) (h2P : rP.length = 2) (okP : ∀ e ∈ zl rP, e.ok W) (hzP : (zl rP).map (·.z) = prZ gs j) => (show Calls Try.prog 10 #[.agg (cellsM (zl rP)).toArray, .agg (cellsM (zl (pr2 gs j))).toArray] W (RetB W true) from by
      rw [prZ_eq (fs := gs) (by omega)] at hzP
      rw [pr2_eq (fs := gs) (by omega)]
      obtain ⟨g1, g2⟩ := zl_good [gs[2 * j]'(by omega), gs[2 * j + 1]'(by omega)] (w := W) (fun f hf => by
        simp only [List.mem_cons, List.not_mem_nil, or_false] at hf
        rcases hf with rfl | rfl <;> exact hgv _ (List.getElem_mem _)) (two_ok (fs := gs) (j := j) (by omega) (HMb.out W (bel_step HB h)))
      exact Lpoint_g h2P rfl okP g1 true (by rw [hzP, g2]; simp))
    rw [hback] at HIv
    rw [hval] at HVa
    obtain ⟨⟨q2, e2⟩, hq2⟩ : ∃ q, fpE gs fs = q := ⟨_, rfl⟩
    rw [hq2] at HIv HF2 hE2
    have hE2 := hid hE2
    have R0 := hid r0
    have R1 := hid r1
    have S1 := hid s1
    have hBv := Below.refl v1.heap.size v1
    have hlu : w.heap.size + 1 < v1.heap.size := by omega
    clear hc hP hQ hres hq hq' HH hback hval hgv HMap hz1 ok1 mg1 hq2 h0 r0 r1 s1 hQ1 hE
    go_wp2
    go_loopw [35] (fun s35 wr => ∃ j : Nat, j ≤ 4 ∧ s35 = .int .i64 j ∧ Below v1.heap.size v1 wr) (fun s35 _ => 4 - (intOf s35).toNat)
    case atStart => exact ⟨0, by omega, rfl, hBv⟩
    case round =>
      obtain ⟨j, hj, rfl, hbl⟩ := hrel
      clear hBv
      have r0 := rng_below R0.out hbl
      have r1 := rng_below R1.out hbl
      have s1 := rng_below S1.out hbl
      have hsr := hbl.size
      by_cases h4 : j < 4
      · have h4i : (j : Int) < 4 := by omega
        have HAp := hid fun (W : World) (h : Below wr.heap.size wr W) => HAp0.out W (bel_step hbl h) j h4
        have HPo := hid fun (W : World) (h : Below wr.heap.size wr W) => HPo.out W (bel_step hbl h) j h4
        have p0 := rng_pt r0 (j := j) (by omega)
        have p1 := rng_pt r1 (j := j) (by omega)
        rw [← pr2_eq (by omega)] at p0 p1
        have hiA : (Try.prog.info? 28).map (·.size) = some (cellsM (zl (pr2 fs j))).length := by rw [cellsM_len, zl_len, pr2_len (by omega)]; exact T28i
        have hiB : (Try.prog.info? 28).map (·.size) = some (cellsM (zl (pr2 gs j))).length := by rw [cellsM_len, zl_len, pr2_len (by omega)]; exact T28i
        generalize pr2 fs j = pf at *
        generalize prZ gs j = zz at *
        generalize pr2 gs j = pg at *
        have hiA := hid hiA
        have hiB := hid hiB
        have hxw : w.heap.size < w.heap.size + 1 := by omega
        have hlw : x1.heap.size < wr.heap.size := by omega
        have hlw2 : w.heap.size + 1 < wr.heap.size := by omega
        clear r0 r1
        go_upto_region 7 with fail
        go_cut [8, 9] (fun s8 s9 wx => s9 = .int .i64 0 ∧ ∃ (g : Nat) (rp : List Rf), s8 = .pointer (some ⟨g, 0, none⟩) ∧ rp.length = 2 ∧ (zl rp).map (·.z) = zz ∧ BlkR wr g rp wx)
        case first =>
          have HBu := Below.refl wr.heap.size wr
          have P0 := And.intro s1 p0
          refine wp_region_held_drew (S := fun w' => w'.rangeAt x1.heap.size 0 (cellsM (zl rf1)) ∧ w'.rangeAt w.heap.size (j * 8) (cellsM (zl pf))) (by kernel_rfl) ?_ (fun hHeld => ?_)
          · exact P0
          refine' wpAnyH_take (i := 0) (v := .agg (cellsM (zl rf1)).toArray) ?_ ?_ ?_ ?_ ?_ ?_ ?_ ?_
          rotate_left 1
          · (simp only [List.getElem?_toArray, List.getElem?_cons_succ, List.getElem?_cons_zero]; rfl)
          · kernel_rfl
          · kernel_rfl
          · kernel_rfl
          · exact fun _ _ _ h => h
          · exact yieldsIf_load_mid (by rfl) _ _ (by rfl) (x1.heap.size) (0) (by rfl) (cellsM (zl rf1)) _ (fun w_ hS_ => hS_.1) hU32 (by first | rfl | assumption) hi1.out
          · assumption
          (try simp only [Act.put, List.setIfInBounds_toArray, List.set_cons_zero, List.set_cons_succ])
          refine' wpAnyH_take (i := 1) ?_ ?_ ?_ ?_ ?_ ?_ ?_ ?_
          rotate_left 2
          · (simp only [List.getElem?_toArray, List.getElem?_cons_succ, List.getElem?_cons_zero]; rfl)
          · kernel_rfl
          · kernel_rfl
          · kernel_rfl
          · exact fun _ _ _ h => h
          · (refine Or.inl ⟨by rfl, ?_⟩; intro w_ hSw_; (try dsimp only at hSw_); go_simp; (try with_reducible rfl))
          · assumption
          (try simp only [Act.put, List.setIfInBounds_toArray, List.set_cons_zero, List.set_cons_succ])
          refine' wpAnyH_take (i := 2) ?_ ?_ ?_ ?_ ?_ ?_ ?_ ?_
          rotate_left 2
          · (simp only [List.getElem?_toArray, List.getElem?_cons_succ, List.getElem?_cons_zero]; rfl)
          · kernel_rfl
          · kernel_rfl
          · kernel_rfl
          · exact fun _ _ _ h => h
          · (refine Or.inl ⟨by rfl, ?_⟩; intro w_ hSw_; (try dsimp only at hSw_); go_simp; (try with_reducible rfl))
          · assumption
          (try simp only [Act.put, List.setIfInBounds_toArray, List.set_cons_zero, List.set_cons_succ])
          refine' wpAnyH_take (i := 3) (v := .agg (cellsM (zl pf)).toArray) ?_ ?_ ?_ ?_ ?_ ?_ ?_ ?_
          rotate_left 1
          · (simp only [List.getElem?_toArray, List.getElem?_cons_succ, List.getElem?_cons_zero]; rfl)
          · kernel_rfl
          · kernel_rfl
          · kernel_rfl
          · exact fun _ _ _ h => h
          · exact yieldsIf_load_mid (by rfl) _ _ (by rfl) (w.heap.size) (j * 8) (by rfl) (cellsM (zl pf)) _ (fun w_ hS_ => hS_.2) hU28 (by first | rfl | assumption) hiA.out
          · assumption
          (try simp only [Act.put, List.setIfInBounds_toArray, List.set_cons_zero, List.set_cons_succ])
          refine wpAnyH_ready (rs := [4, 8]) (by kernel_rfl) (by simp) ?_
          refine' AllReadyH.cons (o := _) (by simp only [List.getElem?_toArray, List.getElem?_cons_succ, List.getElem?_cons_zero]; rfl) (fun K hK => ?_) (AllReadyH.cons (o := _) (by simp only [List.getElem?_toArray, List.getElem?_cons_succ, List.getElem?_cons_zero]; rfl) (fun K hK => ?_) AllReadyH.nil)
          · go_simp
            (go_at_call 9; (refine (HAp.out _ (by repeat' (first | with_reducible assumption | exact Below.refl _ _ | (refine Below.alloc ?_ (by first | omega | (simp only [World.size_alloc, World.size_setCell, World.size_drew]; done) | (simp only [World.size_alloc, World.size_setCell, World.size_drew]; omega)) _) | (refine Below.drew ?_) | (refine below_drewN ?_ _) | (refine Below.setCell ?_ (by first | omega | (simp only [World.size_alloc, World.size_setCell, World.size_drew]; done) | (simp only [World.size_alloc, World.size_setCell, World.size_drew]; omega)) _)))).mono ?_); rintro e a4 ⟨rP, h2P, rfl, hzP, ok4, mg4, hq_⟩; have qa4 : Below wr.heap.size wr a4 := bel_step (by repeat' (first | with_reducible assumption | exact Below.refl _ _ | (refine Below.alloc ?_ (by first | omega | (simp only [World.size_alloc, World.size_setCell, World.size_drew]; done) | (simp only [World.size_alloc, World.size_setCell, World.size_drew]; omega)) _) | (refine Below.drew ?_) | (refine below_drewN ?_ _) | (refine Below.setCell ?_ (by first | omega | (simp only [World.size_alloc, World.size_setCell, World.size_drew]; done) | (simp only [World.size_alloc, World.size_setCell, World.size_drew]; omega)) _))) hq_; have wq_ : Below wr.heap.size wr a4 := bel_step (by repeat' (first | with_reducible assumption | exact Below.refl _ _ | (refine Below.alloc ?_ (by first | omega | (simp only [World.size_alloc, World.size_setCell, World.size_drew]; done) | (simp only [World.size_alloc, World.size_setCell, World.size_drew]; omega)) _) | (refine Below.drew ?_) | (refine below_drewN ?_ _) | (refine Below.setCell ?_ (by first | omega | (simp only [World.size_alloc, World.size_setCell, World.size_drew]; done) | (simp only [World.size_alloc, World.size_setCell, World.size_drew]; omega)) _))) hq_; have hs4 := qa4.size; have P0 := And.intro (rng_below P0.1 wq_) (rng_below P0.2 wq_); (try refine (fun ra za => ?_ : _ → _ → _) (rng_below ra wq_) (Zn.below za wq_)); (try refine And.elim (fun ra za => ?_) (alloc_drew hq_)); (try refine And.elim (fun ra za => ?_) (alloc_plain hq_)))
            (try go_wp2_with fail)
            refine hK.out _ _ ?_ (fun hHeld => ?_)
            · (first | exact P0 | exact ⟨rng_below P0.1 (by repeat' (first | with_reducible assumption | exact Below.refl _ _ | (refine Below.alloc ?_ (by first | omega | (simp only [World.size_alloc, World.size_setCell, World.size_drew]; done) | (simp only [World.size_alloc, World.size_setCell, World.size_drew]; omega)) _) | (refine Below.drew ?_) | (refine below_drewN ?_ _) | (refine Below.setCell ?_ (by first | omega | (simp only [World.size_alloc, World.size_setCell, World.size_drew]; done) | (simp only [World.size_alloc, World.size_setCell, World.size_drew]; omega)) _))), rng_below P0.2 (by repeat' (first | with_reducible assumption | exact Below.refl _ _ | (refine Below.alloc ?_ (by first | omega | (simp only [World.size_alloc, World.size_setCell, World.size_drew]; done) | (simp only [World.size_alloc, World.size_setCell, World.size_drew]; omega)) _) | (refine Below.drew ?_) | (refine below_drewN ?_ _) | (refine Below.setCell ?_ (by first | omega | (simp only [World.size_alloc, World.size_setCell, World.size_drew]; done) | (simp only [World.size_alloc, World.size_setCell, World.size_drew]; omega)) _)))⟩)
            clear hK K
            (try simp only [Act.put, List.setIfInBounds_toArray, List.set_cons_zero, List.set_cons_succ])
            refine' wpAnyH_take (i := 5) ?_ ?_ ?_ ?_ ?_ ?_ ?_ ?_
            rotate_left 2
            · (simp only [List.getElem?_toArray, List.getElem?_cons_succ, List.getElem?_cons_zero]; rfl)
            · kernel_rfl
            · kernel_rfl
            · kernel_rfl
            · exact fun _ _ _ h => h
            · (refine Or.inl ⟨by rfl, ?_⟩; intro w_ hSw_; (try dsimp only at hSw_); go_simp; (try with_reducible rfl))
            · assumption
            (try simp only [Act.put, List.setIfInBounds_toArray, List.set_cons_zero, List.set_cons_succ])
            refine' wpAnyH_take (i := 6) ?_ ?_ ?_ ?_ ?_ ?_ ?_ ?_
            rotate_left 2
            · (simp only [List.getElem?_toArray, List.getElem?_cons_succ, List.getElem?_cons_zero]; rfl)
            · kernel_rfl
            · kernel_rfl
            · kernel_rfl
            · exact fun _ _ _ h => h
            · (refine Or.inl ⟨by rfl, ?_⟩; intro w_ hSw_; (try dsimp only at hSw_); go_simp; (try with_reducible rfl))
            · assumption
            (try simp only [Act.put, List.setIfInBounds_toArray, List.set_cons_zero, List.set_cons_succ])
            refine' wpAnyH_take (i := 7) ?_ ?_ ?_ ?_ ?_ ?_ ?_ ?_
            rotate_left 2
            · (simp only [List.getElem?_toArray, List.getElem?_cons_succ, List.getElem?_cons_zero]; rfl)
            · kernel_rfl
            · kernel_rfl
            · kernel_rfl
            · exact fun _ _ _ h => h
            · (refine Or.inl ⟨by rfl, ?_⟩; intro w_ hSw_; (try dsimp only at hSw_); go_simp; (try with_reducible rfl))
            · assumption
            (try simp only [Act.put, List.setIfInBounds_toArray, List.set_cons_zero, List.set_cons_succ])
            refine wpAnyH_ready (rs := [8]) (by kernel_rfl) (by simp) ?_
            refine' AllReadyH.cons (o := _) (by simp only [List.getElem?_toArray, List.getElem?_cons_succ, List.getElem?_cons_zero]; rfl) (fun K hK => ?_) AllReadyH.nil
            go_simp
            skip
            (try go_wp2_with fail)
            refine hK.out _ _ ?_ (fun hHeld => ?_)
            · (first | exact P0 | exact ⟨rng_below P0.1 (by repeat' (first | with_reducible assumption | exact Below.refl _ _ | (refine Below.alloc ?_ (by first | omega | (simp only [World.size_alloc, World.size_setCell, World.size_drew]; done) | (simp only [World.size_alloc, World.size_setCell, World.size_drew]; omega)) _) | (refine Below.drew ?_) | (refine below_drewN ?_ _) | (refine Below.setCell ?_ (by first | omega | (simp only [World.size_alloc, World.size_setCell, World.size_drew]; done) | (simp only [World.size_alloc, World.size_setCell, World.size_drew]; omega)) _))), rng_below P0.2 (by repeat' (first | with_reducible assumption | exact Below.refl _ _ | (refine Below.alloc ?_ (by first | omega | (simp only [World.size_alloc, World.size_setCell, World.size_drew]; done) | (simp only [World.size_alloc, World.size_setCell, World.size_drew]; omega)) _) | (refine Below.drew ?_) | (refine below_drewN ?_ _) | (refine Below.setCell ?_ (by first | omega | (simp only [World.size_alloc, World.size_setCell, World.size_drew]; done) | (simp only [World.size_alloc, World.size_setCell, World.size_drew]; omega)) _)))⟩)
            clear hK K
            (try simp only [Act.put, List.setIfInBounds_toArray, List.set_cons_zero, List.set_cons_succ])
            have ra : (a4.alloc (.cells (cellsM zeros4).toArray 28)).rangeAt a4.heap.size 0 (cellsM zeros4) := rng_alloc
            have za : Zn (a4.alloc (.cells (cellsM zeros4).toArray 28)) a4.heap.size := Zn.new_
            have ok4 : ∀ e ∈ zl rP, e.ok (a4.alloc (.cells (cellsM zeros4).toArray 28)) := fun e he => (ok4 e he).below ((Below.refl _ _).alloc (Nat.le_refl _) _)
            have ra : (a4.alloc (.cells (cellsM zeros4).toArray 28)).rangeAt (a4.heap.size) 0 (cellsM zeros4) := ra
            have za : Zn (a4.alloc (.cells (cellsM zeros4).toArray 28)) (a4.heap.size) := za
            have h8P : (cellsM (zl rP)).length = 8 := by rw [cellsM_len, zl_len, h2P]
            have hi8 : (Try.prog.info? 28).map (·.size) = some (cellsM (zl rP)).toArray.size := by rw [List.size_toArray, h8P]; exact T28i
            have ht8 := rng_there ra za
            rw [show (cellsM zeros4).length = (cellsM (zl rP)).toArray.size by rw [List.size_toArray, h8P]; rfl] at ht8
            refine wpAnyH_ready (rs := [9]) (by kernel_rfl) (by simp) ?_
            refine' AllReadyH.cons (o := _) (by simp only [List.getElem?_toArray, List.getElem?_cons_succ, List.getElem?_cons_zero]; rfl) (fun K hK => ?_) AllReadyH.nil
            rw [if_pos (by rfl)]
            refine wp_store_mid _ _ _ rfl (a4.heap.size) 0 (cellsM (zl rP)).toArray rfl rfl ht8 hi8 (all_oneCell_toArray (cellsM_one _)) ?_
            refine hK.out _ _ ?_ (fun hHeld => ?_)
            · (refine ⟨rng_far ?_ (by omega), rng_far ?_ (by omega)⟩; (first | exact P0.1 | exact rng_below P0.1 (by repeat' (first | with_reducible assumption | exact Below.refl _ _ | (refine Below.alloc ?_ (by first | omega | (simp only [World.size_alloc, World.size_setCell, World.size_drew]; done) | (simp only [World.size_alloc, World.size_setCell, World.size_drew]; omega)) _) | (refine Below.drew ?_) | (refine below_drewN ?_ _) | (refine Below.setCell ?_ (by first | omega | (simp only [World.size_alloc, World.size_setCell, World.size_drew]; done) | (simp only [World.size_alloc, World.size_setCell, World.size_drew]; omega)) _)))); (first | exact P0.2 | exact rng_below P0.2 (by repeat' (first | with_reducible assumption | exact Below.refl _ _ | (refine Below.alloc ?_ (by first | omega | (simp only [World.size_alloc, World.size_setCell, World.size_drew]; done) | (simp only [World.size_alloc, World.size_setCell, World.size_drew]; omega)) _) | (refine Below.drew ?_) | (refine below_drewN ?_ _) | (refine Below.setCell ?_ (by first | omega | (simp only [World.size_alloc, World.size_setCell, World.size_drew]; done) | (simp only [World.size_alloc, World.size_setCell, World.size_drew]; omega)) _)))))
            clear hK K
            (try simp only [Act.put, List.setIfInBounds_toArray, List.set_cons_zero, List.set_cons_succ])
            refine' wpAnyH_take (i := 10) ?_ ?_ ?_ ?_ ?_ ?_ ?_ ?_
            rotate_left 2
            · (simp only [List.getElem?_toArray, List.getElem?_cons_succ, List.getElem?_cons_zero]; rfl)
            · kernel_rfl
            · kernel_rfl
            · kernel_rfl
            · exact fun _ _ _ h => h
            · (refine Or.inl ⟨by rfl, ?_⟩; intro w_ hSw_; (try dsimp only at hSw_); go_simp; (try with_reducible rfl))
            · assumption
            (try simp only [Act.put, List.setIfInBounds_toArray, List.set_cons_zero, List.set_cons_succ])
            refine wpAnyH_done (by kernel_rfl) ?_ _
            go_wp2_with fail
            go_meet
            exact ⟨rfl, _, rP, rfl, h2P, hzP, BlkR.set (cs := zeros4) ra za (by repeat' (first | with_reducible assumption | exact Below.refl _ _ | (refine Below.alloc ?_ (by first | omega | (simp only [World.size_alloc, World.size_setCell, World.size_drew]; done) | (simp only [World.size_alloc, World.size_setCell, World.size_drew]; omega)) _) | (refine Below.drew ?_) | (refine below_drewN ?_ _) | (refine Below.setCell ?_ (by first | omega | (simp only [World.size_alloc, World.size_setCell, World.size_drew]; done) | (simp only [World.size_alloc, World.size_setCell, World.size_drew]; omega)) _))) (by omega) (by rw [zl_len, h2P]; rfl) ok4⟩
          · go_simp
            skip
            (try go_wp2_with fail)
            refine hK.out _ _ ?_ (fun hHeld => ?_)
            · (first | exact P0 | exact ⟨rng_below P0.1 (by repeat' (first | with_reducible assumption | exact Below.refl _ _ | (refine Below.alloc ?_ (by first | omega | (simp only [World.size_alloc, World.size_setCell, World.size_drew]; done) | (simp only [World.size_alloc, World.size_setCell, World.size_drew]; omega)) _) | (refine Below.drew ?_) | (refine below_drewN ?_ _) | (refine Below.setCell ?_ (by first | omega | (simp only [World.size_alloc, World.size_setCell, World.size_drew]; done) | (simp only [World.size_alloc, World.size_setCell, World.size_drew]; omega)) _))), rng_below P0.2 (by repeat' (first | with_reducible assumption | exact Below.refl _ _ | (refine Below.alloc ?_ (by first | omega | (simp only [World.size_alloc, World.size_setCell, World.size_drew]; done) | (simp only [World.size_alloc, World.size_setCell, World.size_drew]; omega)) _) | (refine Below.drew ?_) | (refine below_drewN ?_ _) | (refine Below.setCell ?_ (by first | omega | (simp only [World.size_alloc, World.size_setCell, World.size_drew]; done) | (simp only [World.size_alloc, World.size_setCell, World.size_drew]; omega)) _)))⟩)
            clear hK K
            (try simp only [Act.put, List.setIfInBounds_toArray, List.set_cons_zero, List.set_cons_succ])
            refine wpAnyH_ready (rs := [4]) (by kernel_rfl) (by simp) ?_
            refine' AllReadyH.cons (o := _) (by simp only [List.getElem?_toArray, List.getElem?_cons_succ, List.getElem?_cons_zero]; rfl) (fun K hK => ?_) AllReadyH.nil
            go_simp
            (go_at_call 9; (refine (HAp.out _ (by repeat' (first | with_reducible assumption | exact Below.refl _ _ | (refine Below.alloc ?_ (by first | omega | (simp only [World.size_alloc, World.size_setCell, World.size_drew]; done) | (simp only [World.size_alloc, World.size_setCell, World.size_drew]; omega)) _) | (refine Below.drew ?_) | (refine below_drewN ?_ _) | (refine Below.setCell ?_ (by first | omega | (simp only [World.size_alloc, World.size_setCell, World.size_drew]; done) | (simp only [World.size_alloc, World.size_setCell, World.size_drew]; omega)) _)))).mono ?_); rintro e a4 ⟨rP, h2P, rfl, hzP, ok4, mg4, hq_⟩; have qa4 : Below wr.heap.size wr a4 := bel_step (by repeat' (first | with_reducible assumption | exact Below.refl _ _ | (refine Below.alloc ?_ (by first | omega | (simp only [World.size_alloc, World.size_setCell, World.size_drew]; done) | (simp only [World.size_alloc, World.size_setCell, World.size_drew]; omega)) _) | (refine Below.drew ?_) | (refine below_drewN ?_ _) | (refine Below.setCell ?_ (by first | omega | (simp only [World.size_alloc, World.size_setCell, World.size_drew]; done) | (simp only [World.size_alloc, World.size_setCell, World.size_drew]; omega)) _))) hq_; have wq_ : Below wr.heap.size wr a4 := bel_step (by repeat' (first | with_reducible assumption | exact Below.refl _ _ | (refine Below.alloc ?_ (by first | omega | (simp only [World.size_alloc, World.size_setCell, World.size_drew]; done) | (simp only [World.size_alloc, World.size_setCell, World.size_drew]; omega)) _) | (refine Below.drew ?_) | (refine below_drewN ?_ _) | (refine Below.setCell ?_ (by first | omega | (simp only [World.size_alloc, World.size_setCell, World.size_drew]; done) | (simp only [World.size_alloc, World.size_setCell, World.size_drew]; omega)) _))) hq_; have hs4 := qa4.size; have P0 := And.intro (rng_below P0.1 wq_) (rng_below P0.2 wq_); (try refine (fun ra za => ?_ : _ → _ → _) (rng_below ra wq_) (Zn.below za wq_)); (try refine And.elim (fun ra za => ?_) (alloc_drew hq_)); (try refine And.elim (fun ra za => ?_) (alloc_plain hq_)))
            (try go_wp2_with fail)
            refine hK.out _ _ ?_ (fun hHeld => ?_)
            · (first | exact P0 | exact ⟨rng_below P0.1 (by repeat' (first | with_reducible assumption | exact Below.refl _ _ | (refine Below.alloc ?_ (by first | omega | (simp only [World.size_alloc, World.size_setCell, World.size_drew]; done) | (simp only [World.size_alloc, World.size_setCell, World.size_drew]; omega)) _) | (refine Below.drew ?_) | (refine below_drewN ?_ _) | (refine Below.setCell ?_ (by first | omega | (simp only [World.size_alloc, World.size_setCell, World.size_drew]; done) | (simp only [World.size_alloc, World.size_setCell, World.size_drew]; omega)) _))), rng_below P0.2 (by repeat' (first | with_reducible assumption | exact Below.refl _ _ | (refine Below.alloc ?_ (by first | omega | (simp only [World.size_alloc, World.size_setCell, World.size_drew]; done) | (simp only [World.size_alloc, World.size_setCell, World.size_drew]; omega)) _) | (refine Below.drew ?_) | (refine below_drewN ?_ _) | (refine Below.setCell ?_ (by first | omega | (simp only [World.size_alloc, World.size_setCell, World.size_drew]; done) | (simp only [World.size_alloc, World.size_setCell, World.size_drew]; omega)) _)))⟩)
            clear hK K
            (try simp only [Act.put, List.setIfInBounds_toArray, List.set_cons_zero, List.set_cons_succ])
            refine' wpAnyH_take (i := 5) ?_ ?_ ?_ ?_ ?_ ?_ ?_ ?_
            rotate_left 2
            · (simp only [List.getElem?_toArray, List.getElem?_cons_succ, List.getElem?_cons_zero]; rfl)
            · kernel_rfl
            · kernel_rfl
            · kernel_rfl
            · exact fun _ _ _ h => h
            · (refine Or.inl ⟨by rfl, ?_⟩; intro w_ hSw_; (try dsimp only at hSw_); go_simp; (try with_reducible rfl))
            · assumption
            (try simp only [Act.put, List.setIfInBounds_toArray, List.set_cons_zero, List.set_cons_succ])
            refine' wpAnyH_take (i := 6) ?_ ?_ ?_ ?_ ?_ ?_ ?_ ?_
            rotate_left 2
            · (simp only [List.getElem?_toArray, List.getElem?_cons_succ, List.getElem?_cons_zero]; rfl)
            · kernel_rfl
            · kernel_rfl
            · kernel_rfl
            · exact fun _ _ _ h => h
            · (refine Or.inl ⟨by rfl, ?_⟩; intro w_ hSw_; (try dsimp only at hSw_); go_simp; (try with_reducible rfl))
            · assumption
            (try simp only [Act.put, List.setIfInBounds_toArray, List.set_cons_zero, List.set_cons_succ])
            refine' wpAnyH_take (i := 7) ?_ ?_ ?_ ?_ ?_ ?_ ?_ ?_
            rotate_left 2
            · (simp only [List.getElem?_toArray, List.getElem?_cons_succ, List.getElem?_cons_zero]; rfl)
            · kernel_rfl
            · kernel_rfl
            · kernel_rfl
            · exact fun _ _ _ h => h
            · (refine Or.inl ⟨by rfl, ?_⟩; intro w_ hSw_; (try dsimp only at hSw_); go_simp; (try with_reducible rfl))
            · assumption
            (try simp only [Act.put, List.setIfInBounds_toArray, List.set_cons_zero, List.set_cons_succ])
            have ra : (a4).rangeAt (wr.heap.size) 0 (cellsM zeros4) := ra
            have za : Zn (a4) (wr.heap.size) := za
            have h8P : (cellsM (zl rP)).length = 8 := by rw [cellsM_len, zl_len, h2P]
            have hi8 : (Try.prog.info? 28).map (·.size) = some (cellsM (zl rP)).toArray.size := by rw [List.size_toArray, h8P]; exact T28i
            have ht8 := rng_there ra za
            rw [show (cellsM zeros4).length = (cellsM (zl rP)).toArray.size by rw [List.size_toArray, h8P]; rfl] at ht8
            refine wpAnyH_ready (rs := [9]) (by kernel_rfl) (by simp) ?_
            refine' AllReadyH.cons (o := _) (by simp only [List.getElem?_toArray, List.getElem?_cons_succ, List.getElem?_cons_zero]; rfl) (fun K hK => ?_) AllReadyH.nil
            rw [if_pos (by rfl)]
            refine wp_store_mid _ _ _ rfl (wr.heap.size) 0 (cellsM (zl rP)).toArray rfl rfl ht8 hi8 (all_oneCell_toArray (cellsM_one _)) ?_
            refine hK.out _ _ ?_ (fun hHeld => ?_)
            · (refine ⟨rng_far ?_ (by omega), rng_far ?_ (by omega)⟩; (first | exact P0.1 | exact rng_below P0.1 (by repeat' (first | with_reducible assumption | exact Below.refl _ _ | (refine Below.alloc ?_ (by first | omega | (simp only [World.size_alloc, World.size_setCell, World.size_drew]; done) | (simp only [World.size_alloc, World.size_setCell, World.size_drew]; omega)) _) | (refine Below.drew ?_) | (refine below_drewN ?_ _) | (refine Below.setCell ?_ (by first | omega | (simp only [World.size_alloc, World.size_setCell, World.size_drew]; done) | (simp only [World.size_alloc, World.size_setCell, World.size_drew]; omega)) _)))); (first | exact P0.2 | exact rng_below P0.2 (by repeat' (first | with_reducible assumption | exact Below.refl _ _ | (refine Below.alloc ?_ (by first | omega | (simp only [World.size_alloc, World.size_setCell, World.size_drew]; done) | (simp only [World.size_alloc, World.size_setCell, World.size_drew]; omega)) _) | (refine Below.drew ?_) | (refine below_drewN ?_ _) | (refine Below.setCell ?_ (by first | omega | (simp only [World.size_alloc, World.size_setCell, World.size_drew]; done) | (simp only [World.size_alloc, World.size_setCell, World.size_drew]; omega)) _)))))
            clear hK K
            (try simp only [Act.put, List.setIfInBounds_toArray, List.set_cons_zero, List.set_cons_succ])
            refine' wpAnyH_take (i := 10) ?_ ?_ ?_ ?_ ?_ ?_ ?_ ?_
            rotate_left 2
            · (simp only [List.getElem?_toArray, List.getElem?_cons_succ, List.getElem?_cons_zero]; rfl)
            · kernel_rfl
            · kernel_rfl
            · kernel_rfl
            · exact fun _ _ _ h => h
            · (refine Or.inl ⟨by rfl, ?_⟩; intro w_ hSw_; (try dsimp only at hSw_); go_simp; (try with_reducible rfl))
            · assumption
            (try simp only [Act.put, List.setIfInBounds_toArray, List.set_cons_zero, List.set_cons_succ])
            refine wpAnyH_done (by kernel_rfl) ?_ _
            go_wp2_with fail
            go_meet
            exact ⟨rfl, _, rP, rfl, h2P, hzP, BlkR.set (cs := zeros4) ra za (by repeat' (first | with_reducible assumption | exact Below.refl _ _ | (refine Below.alloc ?_ (by first | omega | (simp only [World.size_alloc, World.size_setCell, World.size_drew]; done) | (simp only [World.size_alloc, World.size_setCell, World.size_drew]; omega)) _) | (refine Below.drew ?_) | (refine below_drewN ?_ _) | (refine Below.setCell ?_ (by first | omega | (simp only [World.size_alloc, World.size_setCell, World.size_drew]; done) | (simp only [World.size_alloc, World.size_setCell, World.size_drew]; omega)) _))) (by omega) (by rw [zl_len, h2P]; rfl) ok4⟩
        case rest =>
          obtain ⟨rfl, gp, rp, rfl, h2p, hzp, kb⟩ := hcut
          have hbw := kb.b
          have h8p : (cellsM (zl rp)).length = 8 := by rw [cellsM_len, zl_len, h2p]
          have hi8 := hid (show (Try.prog.info? 28).map (·.size) = some (cellsM (zl rp)).length by rw [h8p]; exact T28i)
          have P0 := And.intro kb.r (rng_below p1 hbw)
          have HPt := hid fun (W : World) (h : Below wc.heap.size wc W) => HPo.out W (bel_step hbw h) rp h2p (fun e he => (kb.ok e he).below h) hzp
          have HBu := Below.refl wc.heap.size wc
          clear kb h8p HAp HPo p0 p1 hzp s1
          go_upto_region 8 with fail
          refine wp_region_held_drew (S := fun w' => w'.rangeAt gp 0 (cellsM (zl rp)) ∧ w'.rangeAt (w.heap.size + 1) (j * 8) (cellsM (zl pg))) (by kernel_rfl) ?_ (fun hHeld => ?_)
          · exact P0
          refine' wpAnyH_take (i := 0) ?_ ?_ ?_ ?_ ?_ ?_ ?_ ?_
          rotate_left 2
          · (simp only [List.getElem?_toArray, List.getElem?_cons_succ, List.getElem?_cons_zero]; rfl)
          · kernel_rfl
          · kernel_rfl
          · kernel_rfl
          · exact fun _ _ _ h => h
          · (refine Or.inl ⟨by rfl, ?_⟩; intro w_ hSw_; (try dsimp only at hSw_); go_simp; (try with_reducible rfl))
          · assumption
          (try simp only [Act.put, List.setIfInBounds_toArray, List.set_cons_zero, List.set_cons_succ])
          refine' wpAnyH_take (i := 1) ?_ ?_ ?_ ?_ ?_ ?_ ?_ ?_
          rotate_left 2
          · (simp only [List.getElem?_toArray, List.getElem?_cons_succ, List.getElem?_cons_zero]; rfl)
          · kernel_rfl
          · kernel_rfl
          · kernel_rfl
          · exact fun _ _ _ h => h
          · (refine Or.inl ⟨by rfl, ?_⟩; intro w_ hSw_; (try dsimp only at hSw_); go_simp; (try with_reducible rfl))
          · assumption
          (try simp only [Act.put, List.setIfInBounds_toArray, List.set_cons_zero, List.set_cons_succ])
          refine' wpAnyH_take (i := 2) ?_ ?_ ?_ ?_ ?_ ?_ ?_ ?_
          rotate_left 2
          · (simp only [List.getElem?_toArray, List.getElem?_cons_succ, List.getElem?_cons_zero]; rfl)
          · kernel_rfl
          · kernel_rfl
          · kernel_rfl
          · exact fun _ _ _ h => h
          · (refine Or.inl ⟨by rfl, ?_⟩; intro w_ hSw_; (try dsimp only at hSw_); go_simp; (try with_reducible rfl))
          · assumption
          (try simp only [Act.put, List.setIfInBounds_toArray, List.set_cons_zero, List.set_cons_succ])
          refine' wpAnyH_take (i := 3) (v := .agg (cellsM (zl rp)).toArray) ?_ ?_ ?_ ?_ ?_ ?_ ?_ ?_
          rotate_left 1
          · (simp only [List.getElem?_toArray, List.getElem?_cons_succ, List.getElem?_cons_zero]; rfl)
          · kernel_rfl
          · kernel_rfl
          · kernel_rfl
          · exact fun _ _ _ h => h
          · exact yieldsIf_load_mid (by rfl) _ _ (by rfl) (gp) (0) (by rfl) (cellsM (zl rp)) _ (fun w_ hS_ => hS_.1) hU28 (by first | rfl | assumption) hi8.out
          · assumption
          (try simp only [Act.put, List.setIfInBounds_toArray, List.set_cons_zero, List.set_cons_succ])
          refine' wpAnyH_take (i := 4) ?_ ?_ ?_ ?_ ?_ ?_ ?_ ?_
          rotate_left 2
          · (simp only [List.getElem?_toArray, List.getElem?_cons_succ, List.getElem?_cons_zero]; rfl)
          · kernel_rfl
          · kernel_rfl
          · kernel_rfl
          · exact fun _ _ _ h => h
          · (refine Or.inl ⟨by rfl, ?_⟩; intro w_ hSw_; (try dsimp only at hSw_); go_simp; (try with_reducible rfl))
          · assumption
          (try simp only [Act.put, List.setIfInBounds_toArray, List.set_cons_zero, List.set_cons_succ])
          refine' wpAnyH_take (i := 5) ?_ ?_ ?_ ?_ ?_ ?_ ?_ ?_
          rotate_left 2
          · (simp only [List.getElem?_toArray, List.getElem?_cons_succ, List.getElem?_cons_zero]; rfl)
          · kernel_rfl
          · kernel_rfl
          · kernel_rfl
          · exact fun _ _ _ h => h
          · (refine Or.inl ⟨by rfl, ?_⟩; intro w_ hSw_; (try dsimp only at hSw_); go_simp; (try with_reducible rfl))
          · assumption
          (try simp only [Act.put, List.setIfInBounds_toArray, List.set_cons_zero, List.set_cons_succ])
          refine' wpAnyH_take (i := 6) (v := .agg (cellsM (zl pg)).toArray) ?_ ?_ ?_ ?_ ?_ ?_ ?_ ?_
          rotate_left 1
          · (simp only [List.getElem?_toArray, List.getElem?_cons_succ, List.getElem?_cons_zero]; rfl)
          · kernel_rfl
          · kernel_rfl
          · kernel_rfl
          · exact fun _ _ _ h => h
          · exact yieldsIf_load_mid (by rfl) _ _ (by rfl) (w.heap.size + 1) (j * 8) (by rfl) (cellsM (zl pg)) _ (fun w_ hS_ => hS_.2) hU28 (by first | rfl | assumption) hiB.out
          · assumption
          (try simp only [Act.put, List.setIfInBounds_toArray, List.set_cons_zero, List.set_cons_succ])
          refine wpAnyH_ready (rs := [7]) (by kernel_rfl) (by simp) ?_
          refine' AllReadyH.cons (o := _) (by simp only [List.getElem?_toArray, List.getElem?_cons_succ, List.getElem?_cons_zero]; rfl) (fun K hK => ?_) AllReadyH.nil
          go_simp
          (go_at_call 10; (refine (HPt.out _ (by repeat' (first | with_reducible assumption | exact Below.refl _ _ | (refine Below.alloc ?_ (by first | omega | (simp only [World.size_alloc, World.size_setCell, World.size_drew]; done) | (simp only [World.size_alloc, World.size_setCell, World.size_drew]; omega)) _) | (refine Below.drew ?_) | (refine below_drewN ?_ _) | (refine Below.setCell ?_ (by first | omega | (simp only [World.size_alloc, World.size_setCell, World.size_drew]; done) | (simp only [World.size_alloc, World.size_setCell, World.size_drew]; omega)) _)))).mono ?_); rintro e b4 ⟨rfl, hq_⟩; have qb4 : Below wc.heap.size wc b4 := bel_step (by repeat' (first | with_reducible assumption | exact Below.refl _ _ | (refine Below.alloc ?_ (by first | omega | (simp only [World.size_alloc, World.size_setCell, World.size_drew]; done) | (simp only [World.size_alloc, World.size_setCell, World.size_drew]; omega)) _) | (refine Below.drew ?_) | (refine below_drewN ?_ _) | (refine Below.setCell ?_ (by first | omega | (simp only [World.size_alloc, World.size_setCell, World.size_drew]; done) | (simp only [World.size_alloc, World.size_setCell, World.size_drew]; omega)) _))) hq_)
          (try go_wp2_with fail)
          refine hK.out _ _ ?_ (fun hHeld => ?_)
          · (exact ⟨rng_below P0.1 qb4, rng_below P0.2 qb4⟩)
          clear hK K
          (try simp only [Act.put, List.setIfInBounds_toArray, List.set_cons_zero, List.set_cons_succ])
          refine' wpAnyH_take (i := 8) ?_ ?_ ?_ ?_ ?_ ?_ ?_ ?_
          rotate_left 2
          · (simp only [List.getElem?_toArray, List.getElem?_cons_succ, List.getElem?_cons_zero]; rfl)
          · kernel_rfl
          · kernel_rfl
          · kernel_rfl
          · exact fun _ _ _ h => h
          · (refine Or.inl ⟨by rfl, ?_⟩; intro w_ hSw_; (try dsimp only at hSw_); go_simp; (try with_reducible rfl))
          · assumption
          (try simp only [Act.put, List.setIfInBounds_toArray, List.set_cons_zero, List.set_cons_succ])
          refine' wpAnyH_take (i := 9) ?_ ?_ ?_ ?_ ?_ ?_ ?_ ?_
          rotate_left 2
          · (simp only [List.getElem?_toArray, List.getElem?_cons_succ, List.getElem?_cons_zero]; rfl)
          · kernel_rfl
          · kernel_rfl
          · kernel_rfl
          · exact fun _ _ _ h => h
          · (refine Or.inl ⟨by rfl, ?_⟩; intro w_ hSw_; (try dsimp only at hSw_); go_simp; (try with_reducible rfl))
          · assumption
          (try simp only [Act.put, List.setIfInBounds_toArray, List.set_cons_zero, List.set_cons_succ])
          refine wpAnyH_done (by kernel_rfl) ?_ _
          have hb4 := bel_step (bel_step hbl hbw) qb4
          go_wp2
          go_roundw
          case rel => exact ⟨j + 1, by omega, by go_num, hb4⟩
          case measure => simp [intOf]; omega
      · have hj9 : (j : Int) = 4 := by omega
        rw [hj9]
        obtain rfl : j = 4 := by omega
        clear hj9
        have HB := bel_step HB hbl
        have HF2 := hid fun (h : Below w.heap.size w wr) => HF2.out wr h
        have HIv := hid fun (W : World) (h : Below wr.heap.size wr W) => HIv.out W (bel_step hbl h)
        have HVa := hid fun (W : World) (h : Below wr.heap.size wr W) => HVa.out W (bel_step hbl h)
        clear HAp0 HPo R0 R1 S1
        go_upto_region 11 with fail
        go_wp2_with (first | refine wpList_load_mid (by rfl) _ _ (by rfl) w.heap.size 0 (by rfl) (cellsM (zl fs)) _ r0 T29u (by rfl) hi.out ?_ | refine wpList_load_mid (by rfl) _ _ (by rfl) (w.heap.size + 1) 0 (by rfl) (cellsM (zl gs)) _ r1 T29u (by rfl) hi'.out ?_ | fail)
        refine (HF2.out HB).mono ?_
        rintro e x2 ⟨rf2, h92, rfl, hz2, ok2, mg2, hq_⟩
        have F1 := hFl.out x2 rf2 h92
        have h362 : (cellsM (zl rf2)).length = 36 := by rw [cellsM_len, zl_len, h92]
        go_upto_region 12 with fail
        refine enterR (P := fun u => Code.wp _ _ _ _ u) ?_
        intro v2 hv_ s2 sz_ hsz
        have qv2 := bel_step hq_ hv_
        have lx2 : x2.heap.size < v2.heap.size := sz_.lt
        have hi2 := hid (show (Try.prog.info? 32).map (·.size) = some (cellsM (zl rf2)).length by rw [h362]; exact T32i)
        have s1 := rng_below s1 qv2
        have ok2 : ∀ e ∈ zl rf2, e.ok v2 := fun e he => (ok2 e he).below hv_
        have mg2 : ∀ f ∈ rf2, f.mg v2 := fun f hf => (mg2 f hf).below hv_
        have HB := bel_step HB qv2
        clear F1 sz_ hsz hv_ hq_ h362
        rcases hE2.out with rfl | rfl
        · have HIv := hid (HIv.out v2 qv2)
          have HVa := hid fun (W : World) (h : Below v2.heap.size v2 W) => HVa.out W (bel_step qv2 h)
          go_wp2_with (first | refine wpList_load_mid (by rfl) _ _ (by rfl) (x1.heap.size) 0 (by rfl) (cellsM (zl rf1)) _ s1 hU32 row32 hi1.out ?_ | fail)
          refine (HIv.out).mono ?_
          rintro e x3 ⟨rf3, h93, rfl, hz3, ok3, mg3, hq_⟩
          have F1 := hFl.out x3 rf3 h93
          have h363 : (cellsM (zl rf3)).length = 36 := by rw [cellsM_len, zl_len, h93]
          go_upto_region 15 with fail
          refine enterR (P := fun u => Code.wp _ _ _ _ u) ?_
          intro v3 hv_ s3 sz_ hsz
          have qv3 := bel_step hq_ hv_
          have lx3 : x3.heap.size < v3.heap.size := sz_.lt
          have hi3 := hid (show (Try.prog.info? 32).map (·.size) = some (cellsM (zl rf3)).length by rw [h363]; exact T32i)
          have s1 := rng_below s1 qv3
          have s2 := rng_below s2 qv3
          have ok3 : ∀ e ∈ zl rf3, e.ok v3 := fun e he => (ok3 e he).below hv_
          have mg3 : ∀ f ∈ rf3, f.mg v3 := fun f hf => (mg3 f hf).below hv_
          have HB := bel_step HB qv3
          clear F1 sz_ hsz hv_ hq_ h363
          have HQ := hid fun (W : World) (h : Below v3.heap.size v3 W) => Lequal_g (w := W) h93 h92 (fun e he => (ok3 e he).below h) (fun e he => ((ok2 e he).below qv3).below h) true (by rw [hz3, hz2]; simp)
          have HVa := hid fun (W : World) (h : Below v3.heap.size v3 W) => HVa.out W (bel_step qv3 h)
          clear ok2 ok3 mg2 mg3 hz2 hz3 HIv
          go_wp2_with (first | refine wpList_load_g (by rfl) _ _ (by rfl) x3.heap.size 0 (by rfl) (cellsM (zl rf3)) _ s3 hU32 row32 hi3.out ?_ | refine wpList_load_g (by rfl) _ _ (by rfl) x2.heap.size 0 (by rfl) (cellsM (zl rf2)) _ s2 hU32 row32 hi2.out ?_ | fail)
          refine (HQ.out v3 (Below.refl _ _)).mono ?_
          rintro e y1 ⟨rfl, hy1⟩
          have s1 := rng_below s1 hy1
          go_wp2_with (first | refine wpList_load_g (by rfl) _ _ (by rfl) x1.heap.size 0 (by rfl) (cellsM (zl rf1)) _ s1 hU32 row32 hi1.out ?_ | fail)
          refine (HVa.out y1 hy1).mono ?_
          rintro e y2 ⟨rfl, hy2⟩
          have HB := bel_step (bel_step HB hy1) hy2
          go_wp2_with fail
          refine (HEx.out y2 HB).mono ?_
          rintro e x_ ⟨rfl, hx_⟩
          go_wp2
          go_ret
          exact ⟨by simp, bel_step HB hx_⟩
        · clear hz2 ok2 mg2 HIv HVa
          go_wp2_with fail
          refine (HEx.out v2 HB).mono ?_
          rintro e x_ ⟨rfl, hx_⟩
          go_wp2
          go_ret
          exact ⟨by simp, bel_step HB hx_⟩
  · clear hQ1 s1 ok1 mg1 hz1
    go_wp2_with fail
    refine (HEx.out v1 HB).mono ?_
    rintro e x_ ⟨rfl, hx_⟩
    go_wp2
    go_ret
    exact ⟨by simp, bel_step HB hx_⟩
  · clear hQ1 s1 ok1 mg1 hz1
    go_wp2_with fail
    refine (HEx.out v1 HB).mono ?_
    rintro e x_ ⟨rfl, hx_⟩
    go_wp2
    go_ret
    exact ⟨by simp, bel_step HB hx_⟩
  · clear hQ1 s1 ok1 mg1 hz1
    go_wp2_with fail
    refine (HEx.out v1 HB).mono ?_
    rintro e x_ ⟨rfl, hx_⟩
    go_wp2
    go_ret
    exact ⟨by simp, bel_step HB hx_⟩
end Go.Proofs.Ytgnfobnkhjlbbaa
