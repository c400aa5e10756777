/- The law HomographyUnique: its walk. Conditions: none. -/
import Derived.Test.YtgnfobnkhjlbbaaZLhM
set_option linter.unusedVariables false
set_option linter.unusedSimpArgs false
namespace Go.Proofs.Ytgnfobnkhjlbbaa
open Go.RowKit Big

/-- a part of a box stored anew -/
theorem rng_part {w : World} {g : Nat} {A B B' C : List Value} (h : w.rangeAt g 0 (A ++ (B ++ C))) (z : Zn w g) (hl : B'.length = B.length) : (w.setCells g A.length B').rangeAt g 0 (A ++ (B' ++ C)) := by
  have hB : w.there g A.length B'.length := fun j hj => by
    have h1 : (A ++ (B ++ C))[A.length + j]? = some (B[j]'(by omega)) := by
      rw [List.getElem?_append_right (by omega), Nat.add_sub_cancel_left, List.getElem?_append_left (by omega), List.getElem?_eq_getElem (by omega)]
    have h2 := h _ _ h1
    rw [Nat.zero_add] at h2
    exact ⟨by rw [h2]; rfl, z.fr _⟩
  have hs : (w.setCells g A.length B').rangeAt g A.length B' := World.rangeAt_setCells_same _ _ _ _ hB
  intro i v hv
  rw [Nat.zero_add]
  rcases Nat.lt_or_ge i A.length with h1 | h1
  · rw [List.getElem?_append_left h1] at hv
    rw [World.cell?_setCells_out g B' A.length w ⟨g, i, none⟩ (fun _ _ => Or.inl h1)]
    have := h i v (by rw [List.getElem?_append_left h1]; exact hv)
    rwa [Nat.zero_add] at this
  · rw [List.getElem?_append_right h1] at hv
    rcases Nat.lt_or_ge (i - A.length) B'.length with h2 | h2
    · rw [List.getElem?_append_left h2] at hv
      have := hs _ v hv
      rwa [show A.length + (i - A.length) = i by omega] at this
    · rw [List.getElem?_append_right h2] at hv
      rw [World.cell?_setCells_out g B' A.length w ⟨g, i, none⟩ (fun _ _ => Or.inr (show A.length + B'.length ≤ i by omega))]
      have := h i v (by rw [List.getElem?_append_right h1, List.getElem?_append_right (by omega), ← hl]; exact hv)
      rwa [Nat.zero_add] at this
theorem pr2_take {gs rp : List Rf} {j i : Nat} (hg : 2 * j ≤ gs.length) (hi : i < j) (D : List Rf) : pr2 (gs.take (2 * j) ++ (rp ++ D)) i = pr2 gs i := by
  unfold pr2
  have hl : (gs.take (2 * j)).length = 2 * j := by rw [List.length_take]; omega
  rw [List.drop_append_of_le_length (by omega), List.take_append_of_le_length (by rw [List.length_drop]; omega), List.drop_take, List.take_take, Nat.min_eq_left (by omega)]
theorem pr2_new {gs rp : List Rf} {j : Nat} (hg : 2 * j ≤ gs.length) (h2 : rp.length = 2) (D : List Rf) : pr2 (gs.take (2 * j) ++ (rp ++ D)) j = rp := by
  unfold pr2
  have hl : (gs.take (2 * j)).length = 2 * j := by rw [List.length_take]; omega
  have e := List.drop_left (l₁ := gs.take (2 * j)) (l₂ := rp ++ D)
  rw [hl] at e
  rw [e, ← h2]
  exact List.take_left
/-- the images so far -/
structure UB (w0 : World) (gt : Nat) (hs fs : List Rf) (j : Nat) (wr : World) : Prop where
  b : Below w0.heap.size w0 wr
  hg : w0.heap.size ≤ gt
  z : Zn wr gt
  ex : ∃ gs : List Rf, gs.length = 8 ∧ wr.rangeAt gt 0 (cellsM (zl gs)) ∧ (∀ e ∈ zl gs, e.ok wr) ∧ ∀ i, i < j → aplE hs (pr2 fs i) = (prZ gs i, 0) ∧ ∀ f ∈ pr2 gs i, f.v = true
theorem UB.below {w0 wr wy : World} {gt j : Nat} {hs fs : List Rf} (h : UB w0 gt hs fs j wr) (hb : Below wr.heap.size wr wy) : UB w0 gt hs fs j wy := by
  obtain ⟨gs, g1, g2, g3, g4⟩ := h.ex
  exact ⟨bel_step h.b hb, h.hg, h.z.below hb, gs, g1, rng_below g2 hb, fun e he => (g3 e he).below hb, g4⟩
theorem UB.next {w0 wr : World} {gt j : Nat} {hs fs rp : List Rf} (h : UB w0 gt hs fs j wr) (hj : j < 4) (h9 : hs.length = 9) (h8 : fs.length = 8) (mf : ∀ f ∈ fs, f.mg wr) (h2 : rp.length = 2) (hz : aplE hs (pr2 fs j) = ((zl rp).map (·.z), 0)) (ok : ∀ e ∈ zl rp, e.ok wr) :
    UB w0 gt hs fs (j + 1) (wr.setCells gt (j * 8) (cellsM (zl rp))) := by
  obtain ⟨gs, g1, g2, g3, g4⟩ := h.ex
  have hgs : gs = gs.take (2 * j) ++ (pr2 gs j ++ gs.drop (2 * j + 2)) := by
    unfold pr2
    conv => lhs; rw [← List.take_append_drop (2 * j) gs]
    congr 1
    conv => lhs; rw [← List.take_append_drop 2 (gs.drop (2 * j))]
    rw [List.drop_drop]
  have hp2 : (pr2 gs j).length = 2 := pr2_len (by omega)
  have hA : (cellsM (zl (gs.take (2 * j)))).length = j * 8 := by rw [cellsM_len, zl_len, List.length_take]; omega
  have hr : wr.rangeAt gt 0 (cellsM (zl (gs.take (2 * j))) ++ (cellsM (zl (pr2 gs j)) ++ cellsM (zl (gs.drop (2 * j + 2))))) := by
    rw [← cellsM_app, ← zl_app, ← cellsM_app, ← zl_app, ← hgs]
    exact g2
  have hn := rng_part hr h.z (B' := cellsM (zl rp)) (by rw [cellsM_len, cellsM_len, zl_len, zl_len, h2, hp2])
  rw [hA] at hn
  have hpr : wr.rangeAt gt (j * 8) (cellsM (zl (pr2 gs j))) := by
    have := rng_pt g2 (j := j) (by omega)
    rwa [← pr2_eq (by omega)] at this
  have hok : ∀ e : ZE, e.ok wr → e.ok (wr.setCells gt (j * 8) (cellsM (zl rp))) := fun e he => he.sets hpr (by rw [cellsM_len, cellsM_len, zl_len, zl_len, h2, hp2]; exact Nat.le_refl _) (cellsM_npl _)
  have hv : ∀ f ∈ rp, f.v = true := by
    obtain ⟨x, y, f, g, _, hl, vf, vg, _⟩ := apl_image h9 (pr2_len (fs := fs) (by omega)) (fun f hf => by
      rw [pr2_eq (by omega)] at hf
      exact two_ok (by omega) mf f hf) hz
    have := (toRf_f [f, g] (zl rp) hl ok).2 (fun q hq => by
      simp only [List.mem_cons, List.not_mem_nil, or_false] at hq
      rcases hq with rfl | rfl <;> assumption)
    rwa [toRf_self] at this
  have hzq : (zl rp).map (·.z) = frZ (rp.map Rf.f) := (zl_good rp hv (rf_mg ok)).2
  refine ⟨below_sets h.hg _ _ _ h.b, h.hg, Zn.sets _ _ _ _ h.z, gs.take (2 * j) ++ (rp ++ gs.drop (2 * j + 2)), ?_, ?_, ?_, ?_⟩
  · rw [List.length_append, List.length_append, List.length_take, List.length_drop, h2]; omega
  · rw [zl_app, zl_app, cellsM_app, cellsM_app]; exact hn
  · intro e he
    rw [zl_app, zl_app] at he
    rcases List.mem_append.1 he with he | he
    · exact hok e (g3 e (by rw [hgs, zl_app]; exact List.mem_append_left _ he))
    · rcases List.mem_append.1 he with he | he
      · exact hok e (ok e he)
      · exact hok e (g3 e (by rw [hgs, zl_app, zl_app]; exact List.mem_append_right _ (List.mem_append_right _ he)))
  · intro i hi
    rcases Nat.lt_or_ge i j with h1 | h1
    · unfold prZ
      rw [pr2_take (by omega) h1]
      exact g4 i h1
    · obtain rfl : i = j := by omega
      unfold prZ
      rw [pr2_new (by omega) h2, ← hzq]
      exact ⟨hz, hv⟩
set_option maxRecDepth 100000 in
set_option maxHeartbeats 16000000 in
theorem HomographyUnique_law (hs fs : List Rf) (h9 : hs.length = 9) (h8 : fs.length = 8) {w : World} (hm : ∀ f ∈ hs, f.mg w) (hm' : ∀ f ∈ fs, f.mg w) (hex : ∀ W : World, Calls Try.prog 8 #[] W (RetB W true)) :
    Calls Try.prog 4 #[.agg (cellsM (zl hs)).toArray, .agg (cellsM (zl fs)).toArray] w (RetB w true) := by
  have hl : (zl hs).length = 18 := by rw [zl_len, h9]
  have hl' : (zl fs).length = 16 := by rw [zl_len, h8]
  have hi := hid (show (Try.prog.info? 32).map (·.size) = some (cellsM (zl hs)).length by rw [cellsM_len, hl]; exact T32i)
  have hi' := hid (show (Try.prog.info? 29).map (·.size) = some (cellsM (zl fs)).length by rw [cellsM_len, hl']; kernel_rfl)
  have HEx := hid fun (W : World) (_ : Below w.heap.size w W) => hex W
  have HMa := hid fun (W : World) (h : Below w.heap.size w W) f (hf : f ∈ hs) => (hm f hf).below h
  have HMb := hid fun (W : World) (h : Below w.heap.size w W) f (hf : f ∈ fs) => (hm' f hf).below h
  have HAp0 := hid fun (W : World) (h : Below w.heap.size w W) (j : Nat) (hj : j < 4) => LApply_h (w := W) (fs := hs) (gs := pr2 fs j) h9 (pr2_len (by omega)) (HMa.out W h) (by rw [pr2_eq (by omega)]; exact two_ok (by omega) (HMb.out W h))
  have HNo := hid fun (W : World) (h : Below w.heap.size w W) => LNormal_h h9 (w := W) (HMa.out W h)
  clear hm hm' hex
  have hFl : ∀ (v : World) (rf : List Rf), rf.length = 9 → (storeCells ⟨v.heap.size, 0, none⟩ (cellsM (zl rf))).run Try.prog (v.alloc (.cells (cellsM zeros18).toArray 32)) = .ok () (v.alloc (.cells (cellsM (zl rf)).toArray 32)) := fun v rf h => store_newN (P := Try.prog) (w := v) (l := zl rf) (zs := cellsM zeros18) 32 (by rw [cellsM_len, zl_len, h]; rfl) T32i
  simp only [zeros18, List.replicate, cellsM, ZE.cells, ZE.zero, List.cons_append, List.nil_append] at hFl
  have hFl := hid hFl
  obtain ⟨d32, hU32, row32⟩ := T32u
  obtain ⟨d28, hU28, row28⟩ := T28u
  go_enter Try.func4, Try.ntmps4
  go_upto_region 1 with fail
  refine enterR2 (P := fun u => Code.wp _ _ _ _ u) ?_
  intro u HB r0 r1 zn0 zn1 hsz
  clear hsz
  have lt1 := zn1.lt
  go_upto_region 2 with fail
  refine enterR (P := fun u => Code.wp _ _ _ _ u) (c := cellsM (zl (List.replicate 8 (⟨false, none, [], 0, false, none, [], 0⟩ : Rf)))) ?_
  intro v0 hv0 q0 qz hsz
  have hU0 : UB u u.heap.size hs fs 0 v0 := ⟨hv0, Nat.le_refl _, qz, _, rfl, q0, fun e he => by
    have : e = ZE.zero := by
      obtain ⟨f, hf, he⟩ := List.mem_flatMap.1 he
      rw [List.eq_of_mem_replicate hf] at he
      simp only [Rf.ze, List.mem_cons, List.not_mem_nil, or_false] at he
      rcases he with rfl | rfl <;> simp [ZE.zero, val, sg]
    rw [this]; exact ZE.zero_ok _, fun i hi => by omega⟩
  have R0 := hid r0
  have R1 := hid r1
  obtain ⟨gt, hgt⟩ : ∃ g, g = u.heap.size := ⟨_, rfl⟩
  have hgu : w.heap.size + 1 < gt := by omega
  rw [← hgt] at hU0 ⊢
  clear hsz q0 qz hv0 zn0 zn1 r0 r1 hgt
  go_wp2
  go_loopw [13] (fun s13 wr => ∃ j : Nat, j ≤ 4 ∧ s13 = .int .i64 j ∧ UB u gt hs fs j wr) (fun s13 _ => 4 - (intOf s13).toNat)
  case atStart => exact ⟨0, by omega, rfl, hU0⟩
  case round =>
    obtain ⟨j, hj, rfl, hU⟩ := hrel
    clear hU0
    have hbl := hU.b
    have HBr := bel_step HB hbl
    have r0 := rng_below R0.out hbl
    have r1 := rng_below R1.out hbl
    have hsr := hbl.size
    have hgr := hU.z.lt
    by_cases h4 : j < 4
    · have h4i : (j : Int) < 4 := by omega
      have HAp := hid fun (W : World) (h : Below wr.heap.size wr W) => HAp0.out W (bel_step HBr h) j h4
      have hE := hid (aplE_err (fs := hs) (ps := pr2 fs j) (pr2_len (by omega)))
      have HUn := hid fun (W : World) (h : Below wr.heap.size wr W) (rp : List Rf) (h2 : rp.length = 2) (hz : aplE hs (pr2 fs j) = ((zl rp).map (·.z), 0)) (ok : ∀ e ∈ zl rp, e.ok W) => (hU.below h).next h4 h9 h8 (HMb.out W (bel_step HBr h)) h2 hz ok
      have p0 := rng_pt r1 (j := j) (by omega)
      rw [← pr2_eq (by omega)] at p0
      have hiA : (Try.prog.info? 28).map (·.size) = some (cellsM (zl (pr2 fs j))).length := by rw [cellsM_len, zl_len, pr2_len (by omega)]; exact T28i
      obtain ⟨⟨q1, e1⟩, hq1⟩ : ∃ q, aplE hs (pr2 fs j) = q := ⟨_, rfl⟩
      rw [hq1] at HAp hE HUn
      have HTh := hid fun (W : World) (h : Below wr.heap.size wr W) => (show W.there gt (j * 8) 8 from by
        obtain ⟨gs, g1, g2, _, _⟩ := (hU.below h).ex
        have hp := rng_pt g2 (j := j) (by omega)
        have := rng_there hp (hU.below h).z
        rwa [cellsM_len, zl_len] at this)
      clear hq1
      generalize pr2 fs j = pf at *
      have hiA := hid hiA
      have hlw : w.heap.size + 1 < wr.heap.size := by omega
      clear hU
      go_upto_region 5 with fail
      go_cut [7, 8] (fun s7 s8 wx => s8 = .int .i64 e1 ∧ ∃ (g : Nat) (rp : List Rf), s7 = .pointer (some ⟨g, 0, none⟩) ∧ rp.length = 2 ∧ (zl rp).map (·.z) = q1 ∧ BlkR wr g rp wx)
      case first =>
        have HBu := Below.refl wr.heap.size wr
        have P0 := And.intro r0 p0
        refine wp_region_held_drew (S := fun w' => w'.rangeAt w.heap.size 0 (cellsM (zl hs)) ∧ w'.rangeAt (w.heap.size + 1) (j * 8) (cellsM (zl pf))) (by kernel_rfl) ?_ (fun hHeld => ?_)
        · exact P0
        refine' wpAnyH_take (i := 0) (v := .agg (cellsM (zl hs)).toArray) ?_ ?_ ?_ ?_ ?_ ?_ ?_ ?_
        rotate_left 1
        · (simp only [List.getElem?_toArray, List.getElem?_cons_succ, List.getElem?_cons_zero]; rfl)
        · kernel_rfl
        · kernel_rfl
        · kernel_rfl
        · exact fun _ _ _ h => h
        · exact yieldsIf_load_mid (by rfl) _ _ (by rfl) (w.heap.size) (0) (by rfl) (cellsM (zl hs)) _ (fun w_ hS_ => hS_.1) hU32 (by first | rfl | assumption) hi.out
        · assumption
        (try simp only [Act.put, List.setIfInBounds_toArray, List.set_cons_zero, List.set_cons_succ])
        refine' wpAnyH_take (i := 1) ?_ ?_ ?_ ?_ ?_ ?_ ?_ ?_
        rotate_left 2
        · (simp only [List.getElem?_toArray, List.getElem?_cons_succ, List.getElem?_cons_zero]; rfl)
        · kernel_rfl
        · kernel_rfl
        · kernel_rfl
        · exact fun _ _ _ h => h
        · (refine Or.inl ⟨by rfl, ?_⟩; intro w_ hSw_; (try dsimp only at hSw_); go_simp; (try with_reducible rfl))
        · assumption
        (try simp only [Act.put, List.setIfInBounds_toArray, List.set_cons_zero, List.set_cons_succ])
        refine' wpAnyH_take (i := 2) ?_ ?_ ?_ ?_ ?_ ?_ ?_ ?_
        rotate_left 2
        · (simp only [List.getElem?_toArray, List.getElem?_cons_succ, List.getElem?_cons_zero]; rfl)
        · kernel_rfl
        · kernel_rfl
        · kernel_rfl
        · exact fun _ _ _ h => h
        · (refine Or.inl ⟨by rfl, ?_⟩; intro w_ hSw_; (try dsimp only at hSw_); go_simp; (try with_reducible rfl))
        · assumption
        (try simp only [Act.put, List.setIfInBounds_toArray, List.set_cons_zero, List.set_cons_succ])
        refine' wpAnyH_take (i := 3) (v := .agg (cellsM (zl pf)).toArray) ?_ ?_ ?_ ?_ ?_ ?_ ?_ ?_
        rotate_left 1
        · (simp only [List.getElem?_toArray, List.getElem?_cons_succ, List.getElem?_cons_zero]; rfl)
        · kernel_rfl
        · kernel_rfl
        · kernel_rfl
        · exact fun _ _ _ h => h
        · exact yieldsIf_load_mid (by rfl) _ _ (by rfl) (w.heap.size + 1) (j * 8) (by rfl) (cellsM (zl pf)) _ (fun w_ hS_ => hS_.2) hU28 (by first | rfl | assumption) hiA.out
        · assumption
        (try simp only [Act.put, List.setIfInBounds_toArray, List.set_cons_zero, List.set_cons_succ])
        refine wpAnyH_ready (rs := [4, 8]) (by kernel_rfl) (by simp) ?_
        refine' AllReadyH.cons (o := _) (by simp only [List.getElem?_toArray, List.getElem?_cons_succ, List.getElem?_cons_zero]; rfl) (fun K hK => ?_) (AllReadyH.cons (o := _) (by simp only [List.getElem?_toArray, List.getElem?_cons_succ, List.getElem?_cons_zero]; rfl) (fun K hK => ?_) AllReadyH.nil)
        · go_simp
          (go_at_call 9; (refine (HAp.out _ (by repeat' (first | with_reducible assumption | exact Below.refl _ _ | (refine Below.alloc ?_ (by first | omega | (simp only [World.size_alloc, World.size_setCell, World.size_drew]; done) | (simp only [World.size_alloc, World.size_setCell, World.size_drew]; omega)) _) | (refine Below.drew ?_) | (refine below_drewN ?_ _) | (refine Below.setCell ?_ (by first | omega | (simp only [World.size_alloc, World.size_setCell, World.size_drew]; done) | (simp only [World.size_alloc, World.size_setCell, World.size_drew]; omega)) _)))).mono ?_); rintro e a4 ⟨rP, h2P, rfl, hzP, ok4, mg4, hq_⟩; have qa4 : Below wr.heap.size wr a4 := bel_step (by repeat' (first | with_reducible assumption | exact Below.refl _ _ | (refine Below.alloc ?_ (by first | omega | (simp only [World.size_alloc, World.size_setCell, World.size_drew]; done) | (simp only [World.size_alloc, World.size_setCell, World.size_drew]; omega)) _) | (refine Below.drew ?_) | (refine below_drewN ?_ _) | (refine Below.setCell ?_ (by first | omega | (simp only [World.size_alloc, World.size_setCell, World.size_drew]; done) | (simp only [World.size_alloc, World.size_setCell, World.size_drew]; omega)) _))) hq_; have wq_ : Below wr.heap.size wr a4 := bel_step (by repeat' (first | with_reducible assumption | exact Below.refl _ _ | (refine Below.alloc ?_ (by first | omega | (simp only [World.size_alloc, World.size_setCell, World.size_drew]; done) | (simp only [World.size_alloc, World.size_setCell, World.size_drew]; omega)) _) | (refine Below.drew ?_) | (refine below_drewN ?_ _) | (refine Below.setCell ?_ (by first | omega | (simp only [World.size_alloc, World.size_setCell, World.size_drew]; done) | (simp only [World.size_alloc, World.size_setCell, World.size_drew]; omega)) _))) hq_; have hs4 := qa4.size; have P0 := And.intro (rng_below P0.1 wq_) (rng_below P0.2 wq_); (try refine (fun ra za => ?_ : _ → _ → _) (rng_below ra wq_) (Zn.below za wq_)); (try refine And.elim (fun ra za => ?_) (alloc_drew hq_)); (try refine And.elim (fun ra za => ?_) (alloc_plain hq_)))
          (try go_wp2_with fail)
          refine hK.out _ _ ?_ (fun hHeld => ?_)
          · (first | exact P0 | exact ⟨rng_below P0.1 (by repeat' (first | with_reducible assumption | exact Below.refl _ _ | (refine Below.alloc ?_ (by first | omega | (simp only [World.size_alloc, World.size_setCell, World.size_drew]; done) | (simp only [World.size_alloc, World.size_setCell, World.size_drew]; omega)) _) | (refine Below.drew ?_) | (refine below_drewN ?_ _) | (refine Below.setCell ?_ (by first | omega | (simp only [World.size_alloc, World.size_setCell, World.size_drew]; done) | (simp only [World.size_alloc, World.size_setCell, World.size_drew]; omega)) _))), rng_below P0.2 (by repeat' (first | with_reducible assumption | exact Below.refl _ _ | (refine Below.alloc ?_ (by first | omega | (simp only [World.size_alloc, World.size_setCell, World.size_drew]; done) | (simp only [World.size_alloc, World.size_setCell, World.size_drew]; omega)) _) | (refine Below.drew ?_) | (refine below_drewN ?_ _) | (refine Below.setCell ?_ (by first | omega | (simp only [World.size_alloc, World.size_setCell, World.size_drew]; done) | (simp only [World.size_alloc, World.size_setCell, World.size_drew]; omega)) _)))⟩)
          clear hK K
          (try simp only [Act.put, List.setIfInBounds_toArray, List.set_cons_zero, List.set_cons_succ])
          refine' wpAnyH_take (i := 5) ?_ ?_ ?_ ?_ ?_ ?_ ?_ ?_
          rotate_left 2
          · (simp only [List.getElem?_toArray, List.getElem?_cons_succ, List.getElem?_cons_zero]; rfl)
          · kernel_rfl
          · kernel_rfl
          · kernel_rfl
          · exact fun _ _ _ h => h
          · (refine Or.inl ⟨by rfl, ?_⟩; intro w_ hSw_; (try dsimp only at hSw_); go_simp; (try with_reducible rfl))
          · assumption
          (try simp only [Act.put, List.setIfInBounds_toArray, List.set_cons_zero, List.set_cons_succ])
          refine' wpAnyH_take (i := 6) ?_ ?_ ?_ ?_ ?_ ?_ ?_ ?_
          rotate_left 2
          · (simp only [List.getElem?_toArray, List.getElem?_cons_succ, List.getElem?_cons_zero]; rfl)
          · kernel_rfl
          · kernel_rfl
          · kernel_rfl
          · exact fun _ _ _ h => h
          · (refine Or.inl ⟨by rfl, ?_⟩; intro w_ hSw_; (try dsimp only at hSw_); go_simp; (try with_reducible rfl))
          · assumption
          (try simp only [Act.put, List.setIfInBounds_toArray, List.set_cons_zero, List.set_cons_succ])
          refine' wpAnyH_take (i := 7) ?_ ?_ ?_ ?_ ?_ ?_ ?_ ?_
          rotate_left 2
          · (simp only [List.getElem?_toArray, List.getElem?_cons_succ, List.getElem?_cons_zero]; rfl)
          · kernel_rfl
          · kernel_rfl
          · kernel_rfl
          · exact fun _ _ _ h => h
          · (refine Or.inl ⟨by rfl, ?_⟩; intro w_ hSw_; (try dsimp only at hSw_); go_simp; (try with_reducible rfl))
          · assumption
          (try simp only [Act.put, List.setIfInBounds_toArray, List.set_cons_zero, List.set_cons_succ])
          refine wpAnyH_ready (rs := [8]) (by kernel_rfl) (by simp) ?_
          refine' AllReadyH.cons (o := _) (by simp only [List.getElem?_toArray, List.getElem?_cons_succ, List.getElem?_cons_zero]; rfl) (fun K hK => ?_) AllReadyH.nil
          go_simp
          skip
          (try go_wp2_with fail)
          refine hK.out _ _ ?_ (fun hHeld => ?_)
          · (first | exact P0 | exact ⟨rng_below P0.1 (by repeat' (first | with_reducible assumption | exact Below.refl _ _ | (refine Below.alloc ?_ (by first | omega | (simp only [World.size_alloc, World.size_setCell, World.size_drew]; done) | (simp only [World.size_alloc, World.size_setCell, World.size_drew]; omega)) _) | (refine Below.drew ?_) | (refine below_drewN ?_ _) | (refine Below.setCell ?_ (by first | omega | (simp only [World.size_alloc, World.size_setCell, World.size_drew]; done) | (simp only [World.size_alloc, World.size_setCell, World.size_drew]; omega)) _))), rng_below P0.2 (by repeat' (first | with_reducible assumption | exact Below.refl _ _ | (refine Below.alloc ?_ (by first | omega | (simp only [World.size_alloc, World.size_setCell, World.size_drew]; done) | (simp only [World.size_alloc, World.size_setCell, World.size_drew]; omega)) _) | (refine Below.drew ?_) | (refine below_drewN ?_ _) | (refine Below.setCell ?_ (by first | omega | (simp only [World.size_alloc, World.size_setCell, World.size_drew]; done) | (simp only [World.size_alloc, World.size_setCell, World.size_drew]; omega)) _)))⟩)
          clear hK K
          (try simp only [Act.put, List.setIfInBounds_toArray, List.set_cons_zero, List.set_cons_succ])
          have ra : (a4.alloc (.cells (cellsM zeros4).toArray 28)).rangeAt a4.heap.size 0 (cellsM zeros4) := rng_alloc
          have za : Zn (a4.alloc (.cells (cellsM zeros4).toArray 28)) a4.heap.size := Zn.new_
          have ok4 : ∀ e ∈ zl rP, e.ok (a4.alloc (.cells (cellsM zeros4).toArray 28)) := fun e he => (ok4 e he).below ((Below.refl _ _).alloc (Nat.le_refl _) _)
          have ra : (a4.alloc (.cells (cellsM zeros4).toArray 28)).rangeAt (a4.heap.size) 0 (cellsM zeros4) := ra
          have za : Zn (a4.alloc (.cells (cellsM zeros4).toArray 28)) (a4.heap.size) := za
          have h8P : (cellsM (zl rP)).length = 8 := by rw [cellsM_len, zl_len, h2P]
          have hi8 : (Try.prog.info? 28).map (·.size) = some (cellsM (zl rP)).toArray.size := by rw [List.size_toArray, h8P]; exact T28i
          have ht8 := rng_there ra za
          rw [show (cellsM zeros4).length = (cellsM (zl rP)).toArray.size by rw [List.size_toArray, h8P]; rfl] at ht8
          refine wpAnyH_ready (rs := [9]) (by kernel_rfl) (by simp) ?_
          refine' AllReadyH.cons (o := _) (by simp only [List.getElem?_toArray, List.getElem?_cons_succ, List.getElem?_cons_zero]; rfl) (fun K hK => ?_) AllReadyH.nil
          rw [if_pos (by rfl)]
          refine wp_store_mid _ _ _ rfl (a4.heap.size) 0 (cellsM (zl rP)).toArray rfl rfl ht8 hi8 (all_oneCell_toArray (cellsM_one _)) ?_
          refine hK.out _ _ ?_ (fun hHeld => ?_)
          · (refine ⟨rng_far ?_ (by omega), rng_far ?_ (by omega)⟩; (first | exact P0.1 | exact rng_below P0.1 (by repeat' (first | with_reducible assumption | exact Below.refl _ _ | (refine Below.alloc ?_ (by first | omega | (simp only [World.size_alloc, World.size_setCell, World.size_drew]; done) | (simp only [World.size_alloc, World.size_setCell, World.size_drew]; omega)) _) | (refine Below.drew ?_) | (refine below_drewN ?_ _) | (refine Below.setCell ?_ (by first | omega | (simp only [World.size_alloc, World.size_setCell, World.size_drew]; done) | (simp only [World.size_alloc, World.size_setCell, World.size_drew]; omega)) _)))); (first | exact P0.2 | exact rng_below P0.2 (by repeat' (first | with_reducible assumption | exact Below.refl _ _ | (refine Below.alloc ?_ (by first | omega | (simp only [World.size_alloc, World.size_setCell, World.size_drew]; done) | (simp only [World.size_alloc, World.size_setCell, World.size_drew]; omega)) _) | (refine Below.drew ?_) | (refine below_drewN ?_ _) | (refine Below.setCell ?_ (by first | omega | (simp only [World.size_alloc, World.size_setCell, World.size_drew]; done) | (simp only [World.size_alloc, World.size_setCell, World.size_drew]; omega)) _)))))
          clear hK K
          (try simp only [Act.put, List.setIfInBounds_toArray, List.set_cons_zero, List.set_cons_succ])
          refine' wpAnyH_take (i := 10) ?_ ?_ ?_ ?_ ?_ ?_ ?_ ?_
          rotate_left 2
          · (simp only [List.getElem?_toArray, List.getElem?_cons_succ, List.getElem?_cons_zero]; rfl)
          · kernel_rfl
          · kernel_rfl
          · kernel_rfl
          · exact fun _ _ _ h => h
          · (refine Or.inl ⟨by rfl, ?_⟩; intro w_ hSw_; (try dsimp only at hSw_); go_simp; (try with_reducible rfl))
          · assumption
          (try simp only [Act.put, List.setIfInBounds_toArray, List.set_cons_zero, List.set_cons_succ])
          refine wpAnyH_done (by kernel_rfl) ?_ _
          go_wp2_with fail
          go_meet
          exact ⟨rfl, _, rP, rfl, h2P, hzP, BlkR.set (cs := zeros4) ra za (by repeat' (first | with_reducible assumption | exact Below.refl _ _ | (refine Below.alloc ?_ (by first | omega | (simp only [World.size_alloc, World.size_setCell, World.size_drew]; done) | (simp only [World.size_alloc, World.size_setCell, World.size_drew]; omega)) _) | (refine Below.drew ?_) | (refine below_drewN ?_ _) | (refine Below.setCell ?_ (by first | omega | (simp only [World.size_alloc, World.size_setCell, World.size_drew]; done) | (simp only [World.size_alloc, World.size_setCell, World.size_drew]; omega)) _))) (by omega) (by rw [zl_len, h2P]; rfl) ok4⟩
        · go_simp
          skip
          (try go_wp2_with fail)
          refine hK.out _ _ ?_ (fun hHeld => ?_)
          · (first | exact P0 | exact ⟨rng_below P0.1 (by repeat' (first | with_reducible assumption | exact Below.refl _ _ | (refine Below.alloc ?_ (by first | omega | (simp only [World.size_alloc, World.size_setCell, World.size_drew]; done) | (simp only [World.size_alloc, World.size_setCell, World.size_drew]; omega)) _) | (refine Below.drew ?_) | (refine below_drewN ?_ _) | (refine Below.setCell ?_ (by first | omega | (simp only [World.size_alloc, World.size_setCell, World.size_drew]; done) | (simp only [World.size_alloc, World.size_setCell, World.size_drew]; omega)) _))), rng_below P0.2 (by repeat' (first | with_reducible assumption | exact Below.refl _ _ | (refine Below.alloc ?_ (by first | omega | (simp only [World.size_alloc, World.size_setCell, World.size_drew]; done) | (simp only [World.size_alloc, World.size_setCell, World.size_drew]; omega)) _) | (refine Below.drew ?_) | (refine below_drewN ?_ _) | (refine Below.setCell ?_ (by first | omega | (simp only [World.size_alloc, World.size_setCell, World.size_drew]; done) | (simp only [World.size_alloc, World.size_setCell, World.size_drew]; omega)) _)))⟩)
          clear hK K
          (try simp only [Act.put, List.setIfInBounds_toArray, List.set_cons_zero, List.set_cons_succ])
          refine wpAnyH_ready (rs := [4]) (by kernel_rfl) (by simp) ?_
          refine' AllReadyH.cons (o := _) (by simp only [List.getElem?_toArray, List.getElem?_cons_succ, List.getElem?_cons_zero]; rfl) (fun K hK => ?_) AllReadyH.nil
          go_simp
          (go_at_call 9; (refine (HAp.out _ (by repeat' (first | with_reducible assumption | exact Below.refl _ _ | (refine Below.alloc ?_ (by first | omega | (simp only [World.size_alloc, World.size_setCell, World.size_drew]; done) | (simp only [World.size_alloc, World.size_setCell, World.size_drew]; omega)) _) | (refine Below.drew ?_) | (refine below_drewN ?_ _) | (refine Below.setCell ?_ (by first | omega | (simp only [World.size_alloc, World.size_setCell, World.size_drew]; done) | (simp only [World.size_alloc, World.size_setCell, World.size_drew]; omega)) _)))).mono ?_); rintro e a4 ⟨rP, h2P, rfl, hzP, ok4, mg4, hq_⟩; have qa4 : Below wr.heap.size wr a4 := bel_step (by repeat' (first | with_reducible assumption | exact Below.refl _ _ | (refine Below.alloc ?_ (by first | omega | (simp only [World.size_alloc, World.size_setCell, World.size_drew]; done) | (simp only [World.size_alloc, World.size_setCell, World.size_drew]; omega)) _) | (refine Below.drew ?_) | (refine below_drewN ?_ _) | (refine Below.setCell ?_ (by first | omega | (simp only [World.size_alloc, World.size_setCell, World.size_drew]; done) | (simp only [World.size_alloc, World.size_setCell, World.size_drew]; omega)) _))) hq_; have wq_ : Below wr.heap.size wr a4 := bel_step (by repeat' (first | with_reducible assumption | exact Below.refl _ _ | (refine Below.alloc ?_ (by first | omega | (simp only [World.size_alloc, World.size_setCell, World.size_drew]; done) | (simp only [World.size_alloc, World.size_setCell, World.size_drew]; omega)) _) | (refine Below.drew ?_) | (refine below_drewN ?_ _) | (refine Below.setCell ?_ (by first | omega | (simp only [World.size_alloc, World.size_setCell, World.size_drew]; done) | (simp only [World.size_alloc, World.size_setCell, World.size_drew]; omega)) _))) hq_; have hs4 := qa4.size; have P0 := And.intro (rng_below P0.1 wq_) (rng_below P0.2 wq_); (try refine (fun ra za => ?_ : _ → _ → _) (rng_below ra wq_) (Zn.below za wq_)); (try refine And.elim (fun ra za => ?_) (alloc_drew hq_)); (try refine And.elim (fun ra za => ?_) (alloc_plain hq_)))
          (try go_wp2_with fail)
          refine hK.out _ _ ?_ (fun hHeld => ?_)
          · (first | exact P0 | exact ⟨rng_below P0.1 (by repeat' (first | with_reducible assumption | exact Below.refl _ _ | (refine Below.alloc ?_ (by first | omega | (simp only [World.size_alloc, World.size_setCell, World.size_drew]; done) | (simp only [World.size_alloc, World.size_setCell, World.size_drew]; omega)) _) | (refine Below.drew ?_) | (refine below_drewN ?_ _) | (refine Below.setCell ?_ (by first | omega | (simp only [World.size_alloc, World.size_setCell, World.size_drew]; done) | (simp only [World.size_alloc, World.size_setCell, World.size_drew]; omega)) _))), rng_below P0.2 (by repeat' (first | with_reducible assumption | exact Below.refl _ _ | (refine Below.alloc ?_ (by first | omega | (simp only [World.size_alloc, World.size_setCell, World.size_drew]; done) | (simp only [World.size_alloc, World.size_setCell, World.size_drew]; omega)) _) | (refine Below.drew ?_) | (refine below_drewN ?_ _) | (refine Below.setCell ?_ (by first | omega | (simp only [World.size_alloc, World.size_setCell, World.size_drew]; done) | (simp only [World.size_alloc, World.size_setCell, World.size_drew]; omega)) _)))⟩)
          clear hK K
          (try simp only [Act.put, List.setIfInBounds_toArray, List.set_cons_zero, List.set_cons_succ])
          refine' wpAnyH_take (i := 5) ?_ ?_ ?_ ?_ ?_ ?_ ?_ ?_
          rotate_left 2
          · (simp only [List.getElem?_toArray, List.getElem?_cons_succ, List.getElem?_cons_zero]; rfl)
          · kernel_rfl
          · kernel_rfl
          · kernel_rfl
          · exact fun _ _ _ h => h
          · (refine Or.inl ⟨by rfl, ?_⟩; intro w_ hSw_; (try dsimp only at hSw_); go_simp; (try with_reducible rfl))
          · assumption
          (try simp only [Act.put, List.setIfInBounds_toArray, List.set_cons_zero, List.set_cons_succ])
          refine' wpAnyH_take (i := 6) ?_ ?_ ?_ ?_ ?_ ?_ ?_ ?_
          rotate_left 2
          · (simp only [List.getElem?_toArray, List.getElem?_cons_succ, List.getElem?_cons_zero]; rfl)
          · kernel_rfl
          · kernel_rfl
          · kernel_rfl
          · exact fun _ _ _ h => h
          · (refine Or.inl ⟨by rfl, ?_⟩; intro w_ hSw_; (try dsimp only at hSw_); go_simp; (try with_reducible rfl))
          · assumption
          (try simp only [Act.put, List.setIfInBounds_toArray, List.set_cons_zero, List.set_cons_succ])
          refine' wpAnyH_take (i := 7) ?_ ?_ ?_ ?_ ?_ ?_ ?_ ?_
          rotate_left 2
          · (simp only [List.getElem?_toArray, List.getElem?_cons_succ, List.getElem?_cons_zero]; rfl)
          · kernel_rfl
          · kernel_rfl
          · kernel_rfl
          · exact fun _ _ _ h => h
          · (refine Or.inl ⟨by rfl, ?_⟩; intro w_ hSw_; (try dsimp only at hSw_); go_simp; (try with_reducible rfl))
          · assumption
          (try simp only [Act.put, List.setIfInBounds_toArray, List.set_cons_zero, List.set_cons_succ])
          have ra : (a4).rangeAt (wr.heap.size) 0 (cellsM zeros4) := ra
          have za : Zn (a4) (wr.heap.size) := za
          have h8P : (cellsM (zl rP)).length = 8 := by rw [cellsM_len, zl_len, h2P]
          have hi8 : (Try.prog.info? 28).map (·.size) = some (cellsM (zl rP)).toArray.size := by rw [List.size_toArray, h8P]; exact T28i
          have ht8 := rng_there ra za
          rw [show (cellsM zeros4).length = (cellsM (zl rP)).toArray.size by rw [List.size_toArray, h8P]; rfl] at ht8
          refine wpAnyH_ready (rs := [9]) (by kernel_rfl) (by simp) ?_
          refine' AllReadyH.cons (o := _) (by simp only [List.getElem?_toArray, List.getElem?_cons_succ, List.getElem?_cons_zero]; rfl) (fun K hK => ?_) AllReadyH.nil
          rw [if_pos (by rfl)]
          refine wp_store_mid _ _ _ rfl (wr.heap.size) 0 (cellsM (zl rP)).toArray rfl rfl ht8 hi8 (all_oneCell_toArray (cellsM_one _)) ?_
          refine hK.out _ _ ?_ (fun hHeld => ?_)
          · (refine ⟨rng_far ?_ (by omega), rng_far ?_ (by omega)⟩; (first | exact P0.1 | exact rng_below P0.1 (by repeat' (first | with_reducible assumption | exact Below.refl _ _ | (refine Below.alloc ?_ (by first | omega | (simp only [World.size_alloc, World.size_setCell, World.size_drew]; done) | (simp only [World.size_alloc, World.size_setCell, World.size_drew]; omega)) _) | (refine Below.drew ?_) | (refine below_drewN ?_ _) | (refine Below.setCell ?_ (by first | omega | (simp only [World.size_alloc, World.size_setCell, World.size_drew]; done) | (simp only [World.size_alloc, World.size_setCell, World.size_drew]; omega)) _)))); (first | exact P0.2 | exact rng_below P0.2 (by repeat' (first | with_reducible assumption | exact Below.refl _ _ | (refine Below.alloc ?_ (by first | omega | (simp only [World.size_alloc, World.size_setCell, World.size_drew]; done) | (simp only [World.size_alloc, World.size_setCell, World.size_drew]; omega)) _) | (refine Below.drew ?_) | (refine below_drewN ?_ _) | (refine Below.setCell ?_ (by first | omega | (simp only [World.size_alloc, World.size_setCell, World.size_drew]; done) | (simp only [World.size_alloc, World.size_setCell, World.size_drew]; omega)) _)))))
          clear hK K
          (try simp only [Act.put, List.setIfInBounds_toArray, List.set_cons_zero, List.set_cons_succ])
          refine' wpAnyH_take (i := 10) ?_ ?_ ?_ ?_ ?_ ?_ ?_ ?_
          rotate_left 2
          · (simp only [List.getElem?_toArray, List.getElem?_cons_succ, List.getElem?_cons_zero]; rfl)
          · kernel_rfl
          · kernel_rfl
          · kernel_rfl
          · exact fun _ _ _ h => h
          · (refine Or.inl ⟨by rfl, ?_⟩; intro w_ hSw_; (try dsimp only at hSw_); go_simp; (try with_reducible rfl))
          · assumption
          (try simp only [Act.put, List.setIfInBounds_toArray, List.set_cons_zero, List.set_cons_succ])
          refine wpAnyH_done (by kernel_rfl) ?_ _
          go_wp2_with fail
          go_meet
          exact ⟨rfl, _, rP, rfl, h2P, hzP, BlkR.set (cs := zeros4) ra za (by repeat' (first | with_reducible assumption | exact Below.refl _ _ | (refine Below.alloc ?_ (by first | omega | (simp only [World.size_alloc, World.size_setCell, World.size_drew]; done) | (simp only [World.size_alloc, World.size_setCell, World.size_drew]; omega)) _) | (refine Below.drew ?_) | (refine below_drewN ?_ _) | (refine Below.setCell ?_ (by first | omega | (simp only [World.size_alloc, World.size_setCell, World.size_drew]; done) | (simp only [World.size_alloc, World.size_setCell, World.size_drew]; omega)) _))) (by omega) (by rw [zl_len, h2P]; rfl) ok4⟩
      case rest =>
        obtain ⟨rfl, gp, rp, rfl, h2p, hzp, kb⟩ := hcut
        have hbw := kb.b
        have h8p : (cellsM (zl rp)).length = 8 := by rw [cellsM_len, zl_len, h2p]
        have hi8 := hid (show (Try.prog.info? 28).map (·.size) = some (cellsM (zl rp)).length by rw [h8p]; exact T28i)
        have hi8' := hid (show (Try.prog.info? 28).map (·.size) = some (cellsM (zl rp)).toArray.size by rw [List.size_toArray, h8p]; exact T28i)
        have HB := bel_step HBr hbw
        have p8 := kb.r
        rcases hE.out with rfl | rfl | rfl | rfl
        · have ht : wc.there gt (j * 8) (cellsM (zl rp)).toArray.size := by rw [List.size_toArray, h8p]; exact HTh.out wc hbw
          have ho := all_oneCell_toArray (cellsM_one (zl rp))
          have hN := hid (HUn.out wc hbw rp h2p (by rw [hzp]) kb.ok)
          clear kb HUn HTh hzp h8p HAp
          go_upto_region 8 with fail
          go_wp2_with (first | refine wpList_load_mid (by rfl) _ _ (by rfl) gp 0 (by rfl) (cellsM (zl rp)) _ p8 hU28 row28 hi8.out ?_ | refine wpList_store_mid (by rfl) _ _ _ (by rfl) gt (j * 8) (cellsM (zl rp)).toArray (by rfl) (by rfl) ht hi8'.out ho ?_ | fail)
          go_roundw
          case rel => exact ⟨j + 1, by omega, by go_num, hN.out⟩
          case measure => simp [intOf]; omega
        · clear kb HUn HTh
          go_wp2_with fail
          refine (HEx.out wc HB).mono ?_
          rintro e x_ ⟨rfl, hx_⟩
          go_wp2
          go_ret
          exact ⟨by simp, bel_step HB hx_⟩
        · clear kb HUn HTh
          go_wp2_with fail
          refine (HEx.out wc HB).mono ?_
          rintro e x_ ⟨rfl, hx_⟩
          go_wp2
          go_ret
          exact ⟨by simp, bel_step HB hx_⟩
        · clear kb HUn HTh
          go_wp2_with fail
          refine (HEx.out wc HB).mono ?_
          rintro e x_ ⟨rfl, hx_⟩
          go_wp2
          go_ret
          exact ⟨by simp, bel_step HB hx_⟩
    · have hj9 : (j : Int) = 4 := by omega
      rw [hj9]
      obtain rfl : j = 4 := by omega
      clear hj9
      obtain ⟨gs, g1, g2, g3, g4⟩ := hU.ex
      have hgv : ∀ f ∈ gs, f.v = true := fun f hf => by
        obtain ⟨i, hi, rfl⟩ := List.getElem_of_mem hf
        have hi4 : i / 2 < 4 := by omega
        have hpv := (g4 (i / 2) hi4).2
        rw [pr2_eq (by omega)] at hpv
        rcases Nat.mod_two_eq_zero_or_one i with h2 | h2
        · have := hpv (gs[2 * (i / 2)]'(by omega)) (by simp)
          have e : 2 * (i / 2) = i := by omega
          simpa only [e] using this
        · have := hpv (gs[2 * (i / 2) + 1]'(by omega)) (by simp)
          have e : 2 * (i / 2) + 1 = i := by omega
          simpa only [e] using this
      obtain ⟨hne, hnb, hpr⟩ := uni_fp h9 h8 g1 (HMb.out wr HBr) hgv (fun j hj => by
        have := (g4 j hj).1
        rwa [pr2_eq (by omega), prZ_eq (by omega)] at this)
      have hq : (fs.map Rf.f).length = 8 := by simpa using h8
      have hq' : (gs.map Rf.f).length = 8 := by simpa using g1
      obtain ⟨HX, dX, eX, lX⟩ := nrm_homR h9 (HMa.out wr HBr) hnb
      have HFP := hid (LFromPoints_h h8 g1 (w := wr) (HMb.out wr HBr) (rf_mg g3))
      have hE2 : (fpE fs gs).2 = 0 ∨ (fpE fs gs).2 = 4 ∨ (fpE fs gs).2 = 24 := by
        rcases fpE_err fs gs with h | h | h | h
        · exact Or.inl h
        · exact absurd h hne
        · exact Or.inr (Or.inl h)
        · exact Or.inr (Or.inr h)
      have hZ0 := hid fun (h0 : (fpE fs gs).2 = 0) => And.intro (fpE_zero h8 g1 h0).2.2.2 (hpr h0)
      have hNo1 : oneE id hs = (homZ (nrmZ hs), 0) := by
        rw [(HX.one dX).2]; unfold resZ; rw [eX, if_pos lX]
      have HNo1 := hid fun (W : World) (h : Below wr.heap.size wr W) => HNo.out W (bel_step HBr h)
      rw [hNo1] at HNo1
      have HX' := hid fun (W : World) (h : Below wr.heap.size wr W) => HX.below h
      have HEqh := hid fun (rf : List Rf) (W : World) (h : Below wr.heap.size wr W) (h9r : rf.length = 9) (hR : HomR W rf (fpM (fs.map Rf.f) (gs.map Rf.f))) (hp : Pr (fpM (fs.map Rf.f) (gs.map Rf.f)) (nrmZ hs)) => (show Calls Try.prog 15 #[.agg (cellsM (zl rf)).toArray, .agg (cellsM (zl hs)).toArray] W (RetB W true) from by
        have := HEqual_g rf hs h9r h9 (w := W) hR.m (HMa.out W (bel_step HBr h))
        rwa [hR.eqb HX (fun h0 => dX ((hp.det (fpM_len hq hq')).1 h0)) dX hp] at this)
      have hFl9 := fpM_len hq hq'
      have hig := hid (show (Try.prog.info? 29).map (·.size) = some (cellsM (zl gs)).length by rw [cellsM_len, zl_len, g1]; kernel_rfl)
      have hres : ∀ X, Pr X (nrmZ hs) → (resZ X).1 = homZ (nrmZ hs) := fun X hp => by
        rw [resZ_pr hp]; unfold resZ; rw [eX, if_pos lX]
      have hres := hid hres
      obtain ⟨⟨q2, e2⟩, hq2⟩ : ∃ q, fpE fs gs = q := ⟨_, rfl⟩
      rw [hq2] at HFP hE2 hZ0
      have hE2 := hid hE2
      have HB := HBr
      clear hU hgv hne hnb hpr HX dX eX lX hNo1 HAp0 HNo g3 g4 hq2 hq hq' HMa HMb R0 R1
      go_upto_region 10 with fail
      go_wp2_with (first | refine wpList_load_mid (by rfl) _ _ (by rfl) (w.heap.size + 1) 0 (by rfl) (cellsM (zl fs)) _ r1 T29u (by rfl) hi'.out ?_ | refine wpList_load_mid (by rfl) _ _ (by rfl) gt 0 (by rfl) (cellsM (zl gs)) _ g2 T29u (by rfl) hig.out ?_ | fail)
      refine (HFP.out).mono ?_
      rintro e x2 ⟨rf2, h92, rfl, hz2, ok2, mg2, hq_⟩
      have F1 := hFl.out x2 rf2 h92
      have h362 : (cellsM (zl rf2)).length = 36 := by rw [cellsM_len, zl_len, h92]
      go_upto_region 11 with fail
      refine enterR (P := fun u => Code.wp _ _ _ _ u) ?_
      intro v2 hv_ s2 sz_ hsz
      have qv2 := bel_step hq_ hv_
      have lx2 : x2.heap.size < v2.heap.size := sz_.lt
      have hi2 := hid (show (Try.prog.info? 32).map (·.size) = some (cellsM (zl rf2)).length by rw [h362]; exact T32i)
      have r0 := rng_below r0 qv2
      have ok2 : ∀ e ∈ zl rf2, e.ok v2 := fun e he => (ok2 e he).below hv_
      have mg2 : ∀ f ∈ rf2, f.mg v2 := fun f hf => (mg2 f hf).below hv_
      have HB := bel_step HB qv2
      clear F1 sz_ hsz hv_ hq_ h362
      rcases hE2.out with rfl | rfl | rfl
      · obtain ⟨hr, hp⟩ := hZ0.out (by trivial)
        have HM2 : HomR v2 rf2 (fpM (fs.map Rf.f) (gs.map Rf.f)) := resZ_hom hr hFl9 rfl hz2 ok2
        have hz2' : (zl rf2).map (·.z) = homZ (nrmZ hs) := by rw [hz2, ← hres.out _ hp, ← hr]
        have HN3 := hid (HNo1.out v2 qv2)
        go_upto_region 13 with fail
        go_wp2_with (first | refine wpList_load_mid (by rfl) _ _ (by rfl) (w.heap.size) 0 (by rfl) (cellsM (zl hs)) _ r0 hU32 row32 hi.out ?_ | fail)
        refine (HN3.out).mono ?_
        rintro e x3 ⟨rf3, h93, rfl, hz3, ok3, mg3, hq_⟩
        have F1 := hFl.out x3 rf3 h93
        have h363 : (cellsM (zl rf3)).length = 36 := by rw [cellsM_len, zl_len, h93]
        go_upto_region 14 with fail
        refine enterR (P := fun u => Code.wp _ _ _ _ u) ?_
        intro v3 hv_ s3 sz_ hsz
        have qv3 := bel_step hq_ hv_
        have lx3 : x3.heap.size < v3.heap.size := sz_.lt
        have hi3 := hid (show (Try.prog.info? 32).map (·.size) = some (cellsM (zl rf3)).length by rw [h363]; exact T32i)
        have r0 := rng_below r0 qv3
        have s2 := rng_below s2 qv3
        have ok3 : ∀ e ∈ zl rf3, e.ok v3 := fun e he => (ok3 e he).below hv_
        have mg3 : ∀ f ∈ rf3, f.mg v3 := fun f hf => (mg3 f hf).below hv_
        have HB := bel_step HB qv3
        clear F1 sz_ hsz hv_ hq_ h363
        have HQ := hid fun (W : World) (h : Below v3.heap.size v3 W) => Lequal_g (w := W) h92 h93 (fun e he => ((ok2 e he).below qv3).below h) (fun e he => (ok3 e he).below h) true (by rw [hz2', hz3]; simp)
        have HQ2 := hid fun (W : World) (h : Below v3.heap.size v3 W) => HEqh.out rf2 W (bel_step (bel_step qv2 qv3) h) h92 ((HM2.below qv3).below h) hp
        clear HM2 hz2 hz2' hz3 ok2 ok3 mg2 mg3 hr hp HN3 HNo1 HEqh hZ0 HX' hres
        go_wp2_with (first | refine wpList_load_g (by rfl) _ _ (by rfl) x2.heap.size 0 (by rfl) (cellsM (zl rf2)) _ s2 hU32 row32 hi2.out ?_ | refine wpList_load_g (by rfl) _ _ (by rfl) x3.heap.size 0 (by rfl) (cellsM (zl rf3)) _ s3 hU32 row32 hi3.out ?_ | fail)
        refine (HQ.out v3 (Below.refl _ _)).mono ?_
        rintro e y1 ⟨rfl, hy1⟩
        have s2 := rng_below s2 hy1
        have r0 := rng_below r0 hy1
        go_wp2_with (first | refine wpList_load_g (by rfl) _ _ (by rfl) x2.heap.size 0 (by rfl) (cellsM (zl rf2)) _ s2 hU32 row32 hi2.out ?_ | refine wpList_load_g (by rfl) _ _ (by rfl) w.heap.size 0 (by rfl) (cellsM (zl hs)) _ r0 hU32 row32 hi.out ?_ | fail)
        refine (HQ2.out y1 hy1).mono ?_
        rintro e y2 ⟨rfl, hy2⟩
        have HB := bel_step (bel_step HB hy1) hy2
        go_wp2_with fail
        refine (HEx.out y2 HB).mono ?_
        rintro e x_ ⟨rfl, hx_⟩
        go_wp2
        go_ret
        exact ⟨by simp, bel_step HB hx_⟩
      · clear hZ0 HNo1 HEqh HX' hres hz2 ok2 mg2
        go_wp2_with fail
        refine (HEx.out v2 HB).mono ?_
        rintro e x_ ⟨rfl, hx_⟩
        go_wp2
        go_ret
        exact ⟨by simp, bel_step HB hx_⟩
      · clear hZ0 HNo1 HEqh HX' hres hz2 ok2 mg2
        go_wp2_with fail
        refine (HEx.out v2 HB).mono ?_
        rintro e x_ ⟨rfl, hx_⟩
        go_wp2
        go_ret
        exact ⟨by simp, bel_step HB hx_⟩
end Go.Proofs.Ytgnfobnkhjlbbaa
