/- The laws on homographies: contracts between arrays of fractions; the helpers. Conditions: none. -/
import Derived.Test.YtgnfobnkhjlbbaaZYZ
import Derived.Test.YtgnfobnkhjlbbaaZHm21
import Derived.Test.YtgnfobnkhjlbbaaZYY
import Derived.Test.YtgnfobnkhjlbbaaZYJ
import Derived.Test.YtgnfobnkhjlbbaaZYX
import Derived.Test.YtgnfobnkhjlbbaaZAr10
set_option linter.unusedVariables false
set_option linter.unusedSimpArgs false
namespace Go.Proofs.Ytgnfobnkhjlbbaa
open Go.RowKit Big

theorem toRf_self (rf : List Rf) : toRf (zl rf) = rf := by
  induction rf with
  | nil => rfl
  | cons f fs ih =>
    rw [zl_cons]
    show (⟨f.na, f.A, f.xs, f.ca, f.nb, f.B, f.ys, f.cb⟩ : Rf) :: toRf (zl fs) = f :: fs
    rw [ih]
/-- a transformation and an error -/
def RetH (w : World) (q : List Int × Int) (e : Ending) (w' : World) : Prop := ∃ rf : List Rf, rf.length = 9 ∧ e = .returned (.tuple #[.agg (cellsM (zl rf)).toArray, .int .i64 q.2]) ∧ (zl rf).map (·.z) = q.1 ∧ (∀ x ∈ zl rf, x.ok w') ∧ (∀ f ∈ rf, f.mg w') ∧ Below w.heap.size w w'
/-- a point and an error -/
def RetP (w : World) (q : List Int × Int) (e : Ending) (w' : World) : Prop := ∃ rf : List Rf, rf.length = 2 ∧ e = .returned (.tuple #[.agg (cellsM (zl rf)).toArray, .int .i64 q.2]) ∧ (zl rf).map (·.z) = q.1 ∧ (∀ x ∈ zl rf, x.ok w') ∧ (∀ f ∈ rf, f.mg w') ∧ Below w.heap.size w w'
theorem RetHE.h {w w' : World} {q : List Int × Int} {e : Ending} (hl : q.1.length = 18) (h : RetHE w q e w') : RetH w q e w' := by
  obtain ⟨l, rfl, hz, ho, hb⟩ := h
  obtain ⟨h1, h2, h3⟩ := toRf_zl 9 l (by rw [← List.length_map (·.z), hz, hl]) ho
  exact ⟨toRf l, h2, by rw [h1], by rw [h1, hz], by rw [h1]; exact ho, h3, hb⟩
theorem RetPE.h {w w' : World} {q : List Int × Int} {e : Ending} (hl : q.1.length = 4) (h : RetPE w q e w') : RetP w q e w' := by
  obtain ⟨l, rfl, hz, ho, hb⟩ := h
  obtain ⟨h1, h2, h3⟩ := toRf_zl 2 l (by rw [← List.length_map (·.z), hz, hl]) ho
  exact ⟨toRf l, h2, by rw [h1], by rw [h1, hz], by rw [h1]; exact ho, h3, hb⟩
/-- a result that is a transformation -/
theorem homR_rf {w : World} {rf : List Rf} {X : List Int} (h9 : X.length = 9) (h40 : le40 (redZ X) = true) (hz : (zl rf).map (·.z) = homZ (redZ X)) (ho : ∀ e ∈ zl rf, e.ok w) : HomR w rf X := by
  have := (homR h9 h40 hz ho).2
  rwa [toRf_self] at this
theorem oneE_len {F : List Int → List Int} {fs : List Rf} (h : (F (nrmZ fs)).length = 9) : (oneE F fs).1.length = 18 := by
  unfold oneE
  split
  · exact resZ_len h
  · simp
theorem redfrm_len {fs : List Rf} (h8 : fs.length = 8) : (redZ (frmZ (ptsZ (fs.map Rf.f)))).length = 9 := by
  rw [redZ_len]
  exact frmZ_len (ptsZ_len (by simpa using h8))
theorem fpE_len {fs gs : List Rf} (h8 : fs.length = 8) (h8' : gs.length = 8) : (fpE fs gs).1.length = 18 := by
  unfold fpE
  split
  · split
    · exact resZ_len (mulZ_len (redfrm_len h8') (adjZ_len (redfrm_len h8)))
    · simp
  · simp
theorem aplE_len {fs gs : List Rf} : (aplE fs gs).1.length = 4 := by
  unfold aplE
  split
  · split
    · split
      · split
        · simp
        · simp [frZ]
      · simp
    · simp
  · simp
theorem LInverse_h {fs : List Rf} (h9 : fs.length = 9) {w : World} (hm : ∀ f ∈ fs, f.mg w) : Calls Try.prog 11 #[.agg (cellsM (zl fs)).toArray] w (RetH w (oneE adjZ fs)) :=
  (HInverse_g fs h9 hm).mono fun e w' h => h.h (oneE_len (adjZ_len (nrmZ_len h9)))
theorem LFromPoints_h {fs gs : List Rf} (h8 : fs.length = 8) (h8' : gs.length = 8) {w : World} (hm : ∀ f ∈ fs, f.mg w) (hm' : ∀ f ∈ gs, f.mg w) : Calls Try.prog 7 #[.agg (cellsM (zl fs)).toArray, .agg (cellsM (zl gs)).toArray] w (RetH w (fpE fs gs)) :=
  (HFromPoints_g fs gs h8 h8' hm hm').mono fun e w' h => h.h (fpE_len h8 h8')
theorem LApply_h {fs gs : List Rf} (h9 : fs.length = 9) (h2 : gs.length = 2) {w : World} (hm : ∀ f ∈ fs, f.mg w) (hm' : ∀ f ∈ gs, f.mg w) : Calls Try.prog 9 #[.agg (cellsM (zl fs)).toArray, .agg (cellsM (zl gs)).toArray] w (RetP w (aplE fs gs)) :=
  (HApply_g fs gs h9 h2 hm hm').mono fun e w' h => h.h aplE_len
set_option maxRecDepth 100000 in
set_option maxHeartbeats 2000000 in
theorem Lpoint_g {rf rg : List Rf} (h2 : rf.length = 2) (h2' : rg.length = 2) {w : World} (oa : ∀ e ∈ zl rf, e.ok w) (ob : ∀ e ∈ zl rg, e.ok w) (t : Bool) (ht : decide ((zl rf).map (·.z) = (zl rg).map (·.z)) = t) :
    Calls Try.prog 10 #[.agg (cellsM (zl rf)).toArray, .agg (cellsM (zl rg)).toArray] w (RetB w t) := by
  obtain ⟨d28, u28, row28⟩ := T28u
  have hl : (zl rf).length = 4 := by rw [zl_len, h2]
  have hl' : (zl rg).length = 4 := by rw [zl_len, h2']
  have hi := hid (show (Try.prog.info? 28).map (·.size) = some (cellsM (zl rf)).length by rw [cellsM_len, hl]; exact T28i)
  have hi' := hid (show (Try.prog.info? 28).map (·.size) = some (cellsM (zl rg)).length by rw [cellsM_len, hl']; exact T28i)
  have HS := hid fun (W : World) (h : Below w.heap.size w W) => (show Calls Try.prog 35 #[.agg (cellsM (zl rf)).toArray, .agg (cellsM (zl rg)).toArray] W (RetB W t) from by
    match zl rf, zl rg, hl, hl', oa, ob, ht with
    | [e0, e1, e2, e3], [f0, f1, f2, f3], _, _, oa, ob, ht =>
      refine (HSamePoint_g ((oa e0 (by simp)).below h) ((oa e1 (by simp)).below h) ((oa e2 (by simp)).below h) ((oa e3 (by simp)).below h) ((ob f0 (by simp)).below h) ((ob f1 (by simp)).below h) ((ob f2 (by simp)).below h) ((ob f3 (by simp)).below h)).mono fun e w' h => ?_
      rw [← ht]
      have e1 : decide ([e0, e1, e2, e3].map (·.z) = [f0, f1, f2, f3].map (·.z)) = ((decide (e0.z = f0.z) && decide (e1.z = f1.z)) && (decide (e2.z = f2.z) && decide (e3.z = f3.z))) := by
        rw [Bool.eq_iff_iff]
        simp [and_assoc]
      rw [e1]
      exact h)
  clear oa ob ht hl hl'
  generalize cellsM (zl rf) = ca at *
  generalize cellsM (zl rg) = cb at *
  go_enter Try.func10, Try.ntmps10
  go_upto_region 1 with fail
  refine enterR2 (P := fun u => Code.wp _ _ _ _ u) ?_
  intro u HB r0 r1 zn0 zn1 hsz
  clear hsz zn0 zn1
  go_wp2_with (first | refine wpList_load_mid (by rfl) _ _ (by rfl) w.heap.size 0 (by rfl) ca _ r0 u28 row28 hi.out ?_ | refine wpList_load_mid (by rfl) _ _ (by rfl) (w.heap.size + 1) 0 (by rfl) cb _ r1 u28 row28 hi'.out ?_ | fail)
  refine (HS.out u HB).mono ?_
  rintro e w1 ⟨rfl, h1⟩
  go_wp2
  go_ret
  exact ⟨rfl, bel_step HB h1⟩
set_option maxRecDepth 100000 in
set_option maxHeartbeats 2000000 in
theorem Lsame_g {e0 e1 f0 f1 : ZE} {w : World} (o0 : e0.ok w) (o1 : e1.ok w) (p0 : f0.ok w) (p1 : f1.ok w) (t : Bool) (ht : (decide (e0.z = f0.z) && decide (e1.z = f1.z)) = t) :
    Calls Try.prog 29 #[.agg (cellsM [e0, e1]).toArray, .agg (cellsM [f0, f1]).toArray] w (RetB w t) := by
  have HS := hid fun (W : World) (h : Below w.heap.size w W) => (show Calls Try.prog 53 #[.agg (cellsM [e0, e1]).toArray, .agg (cellsM [f0, f1]).toArray] W (RetB W t) from by
    have := HSameFrac_g (w := W) (o0.below h) (o1.below h) (p0.below h) (p1.below h)
    rwa [ht] at this)
  clear ht o0 o1 p0 p1
  obtain ⟨z0, b0, n0, x0, A0, c0⟩ := e0
  obtain ⟨z1, b1, n1, x1, A1, c1⟩ := e1
  obtain ⟨z2, b2, n2, x2, A2, c2⟩ := f0
  obtain ⟨z3, b3, n3, x3, A3, c3⟩ := f1
  simp only [cellsM, ZE.cells, List.cons_append, List.nil_append] at *
  go_enter Try.func29, Try.ntmps29
  go_wp2_with fail
  refine enterFF (P := fun u => Calls _ _ _ u _) ?_
  intro u HB q0 q1 q2 q3 r0 r1 r2 r3 z1 z2 hsz
  clear hsz
  have f_z1 := z1.fr
  have f_z2 := z2.fr
  have lt_q0 := cell_lt q0
  have lt_r0 := cell_lt r0
  refine (HS.out u HB).mono ?_
  rintro e w1 ⟨rfl, h1⟩
  go_wp2
  go_ret
  exact ⟨rfl, bel_step HB h1⟩
set_option maxRecDepth 100000 in
set_option maxHeartbeats 2000000 in
theorem Lof_h {x y : Int} {w : World} (h1 : -9223372036854775808 ≤ x) (h2 : x ≤ 9223372036854775807) (h3 : -9223372036854775808 ≤ y) (h4 : y ≤ 9223372036854775807) {p : Int × Nat} (hq : newE x y = (p, 0)) :
    Calls Try.prog 26 #[.int .i64 x, .int .i64 y] w (fun e w' => ∃ e0 e1 : ZE, e = .returned (.agg (cellsM [e0, e1]).toArray) ∧ e0.z = p.1 ∧ e1.z = p.2 ∧ e0.ok w' ∧ e1.ok w' ∧ Below w.heap.size w w') := by
  obtain ⟨bq, kq, Xq, lq, Yq, IQ⟩ := fz p
  have HO := hid fun (w1 : World) => (show Calls Try.prog 51 #[.int .i64 x, .int .i64 y] w1 (GF w1 bq kq Xq lq Yq 0) from by
    have h := FrOf_any x y w1 h1 h2 h3 h4
    rw [hq] at h
    exact h.mono fun e w' h => RetFE.g h IQ.out)
  clear hq h1 h2 h3 h4
  go_enter Try.func26, Try.ntmps26
  go_wp2_with fail
  refine enterF (P := fun u => Calls _ _ _ u _) ?_
  intro u HB q0 q1 q2 q3 z1 hsz
  clear hsz
  have f_z1 := z1.fr
  have lt_q0 := cell_lt q0
  refine (HO.out _).mono ?_
  rintro e w1 ⟨R1, c1, R2, c2, rfl, m1, m2, h1⟩
  have hv_ : Below u.heap.size u w1 := Below.trans (b := _) (by repeat (first | assumption | exact Bv _ _ | refine Ba ?_ (by simp; try omega) _ | refine Bd ?_ | refine Bn ?_ _)) (h1.mono (by simp; try omega))
  replace q0 := keep_cell hv_ q0
  replace q1 := keep_cell hv_ q1
  replace q2 := keep_cell hv_ q2
  replace q3 := keep_cell hv_ q3
  have lt_q0 := cell_lt q0
  have lt_q1 := cell_lt q1
  have lt_q2 := cell_lt q2
  have lt_q3 := cell_lt q3
  replace z1 := z1.below hv_
  replace f_z1 := z1.fr
  replace HB := HB.trans (hv_.mono HB.size)
  clear hv_
  go_upto_region 2 with fail
  have a0 := at_allocF0 (W := w1) (a := .bool bq) (b := .slice R1 kq c1) (c := .bool false) (d := .slice R2 lq c2) (t := 26) rfl
  have a1 := at_allocF1 (W := w1) (a := .bool bq) (b := .slice R1 kq c1) (c := .bool false) (d := .slice R2 lq c2) (t := 26) rfl
  have a2 := at_allocF2 (W := w1) (a := .bool bq) (b := .slice R1 kq c1) (c := .bool false) (d := .slice R2 lq c2) (t := 26) rfl
  have a3 := at_allocF3 (W := w1) (a := .bool bq) (b := .slice R1 kq c1) (c := .bool false) (d := .slice R2 lq c2) (t := 26) rfl
  have hv_ : Below w1.heap.size w1 (w1.alloc (.cells #[.bool bq, .slice R1 kq c1, .bool false, .slice R2 lq c2] 26)) := (Below.refl _ _).alloc (Nat.le_refl _) _
  generalize w1.alloc (.cells #[.bool bq, .slice R1 kq c1, .bool false, .slice R2 lq c2] 26) = u1 at *
  replace m1 := m1.below hv_
  replace m2 := m2.below hv_
  replace z1 := z1.below hv_
  replace q0 := keep_cell hv_ q0
  replace q1 := keep_cell hv_ q1
  replace q2 := keep_cell hv_ q2
  replace q3 := keep_cell hv_ q3
  replace HB := HB.trans (hv_.mono HB.size)
  clear hv_
  have lt_a := cell_lt a0
  have f_z1 := z1.fr
  go_wp2
  refine bodyPost_ret (v := .agg #[.bool bq, .slice R1 kq c1, .bool false, .slice R2 lq c2]) ?_ rfl ?_
  · simp [results, Try.results26, go_sem, q0, q1, q2, q3]
  · obtain ⟨j1_, j2_, j3_⟩ := fin_fr m1 m2 HB (by omega) q0 q1 q2 q3 (.bool bq) (.slice R1 kq c1) (.bool false) (.slice R2 lq c2)
    exact ⟨⟨p.1, bq, kq, Xq, R1, c1⟩, ⟨(p.2 : Int), false, lq, Yq, R2, c2⟩, rfl, rfl, rfl, ⟨IQ.out.num, j1_⟩, ⟨IQ.out.den, j2_⟩, j3_⟩
set_option maxRecDepth 100000 in
set_option maxHeartbeats 4000000 in
theorem Lat_g {e0 e1 e2 e3 : ZE} {w : World} (o0 : e0.ok w) (o1 : e1.ok w) (o2 : e2.ok w) (o3 : e3.ok w) :
    Calls Try.prog 27 #[.agg (cellsM [e0, e1]).toArray, .agg (cellsM [e2, e3]).toArray] w (fun e w' => e = .returned (.agg (cellsM [e0, e1, e2, e3]).toArray) ∧ (e0.ok w' ∧ e1.ok w' ∧ e2.ok w' ∧ e3.ok w') ∧ Below w.heap.size w w') := by
  obtain ⟨d28, u28, row28⟩ := T28u
  have hi := hid (show (Try.prog.info? 28).map (·.size) = some (cellsM [e0, e1, e2, e3]).toArray.size by rw [List.size_toArray, cellsM_len]; exact T28i)
  have HO := hid fun (W : World) (h : Below w.heap.size w W) (e : ZE) (he : e ∈ [e0, e1, e2, e3]) => (show e.ok W from by
    simp only [List.mem_cons, List.not_mem_nil, or_false] at he
    rcases he with rfl | rfl | rfl | rfl
    · exact o0.below h
    · exact o1.below h
    · exact o2.below h
    · exact o3.below h)
  clear o0 o1 o2 o3
  go_enter Try.func27, Try.ntmps27
  go_upto_region 1 with fail
  refine enterR3 (P := fun u => Code.wp _ _ _ _ u) ?_
  intro u HB r0 r1 r2 zn0 zn1 zn2 hsz
  have r2 : u.rangeAt (w.heap.size + 1 + 1) 0 (cellsM zeros4) := r2
  obtain ⟨G1, G2, G3, G4⟩ := fin_N (w := w) (l := [e0, e1, e2, e3]) (cs := zeros4) u28 row28 T28i HB (by omega) r2 zn2 rfl (fun e he => HO.out u HB e he)
  have HF := hid (And.intro G3 G4)
  have ht := rng_there r2 zn2
  have ho := all_oneCell_toArray (cellsM_one [e0, e1, e2, e3])
  have p00 : u.cell? ⟨w.heap.size, 0, none⟩ = some (.bool e0.b) := r0 0 _ rfl
  have p01 : u.cell? ⟨w.heap.size, 1, none⟩ = some (.slice e0.A e0.n e0.c) := r0 1 _ rfl
  have p02 : u.cell? ⟨w.heap.size, 2, none⟩ = some (.bool e1.b) := r0 2 _ rfl
  have p03 : u.cell? ⟨w.heap.size, 3, none⟩ = some (.slice e1.A e1.n e1.c) := r0 3 _ rfl
  have p10 : u.cell? ⟨w.heap.size + 1, 0, none⟩ = some (.bool e2.b) := r1 0 _ rfl
  have p11 : u.cell? ⟨w.heap.size + 1, 1, none⟩ = some (.slice e2.A e2.n e2.c) := r1 1 _ rfl
  have p12 : u.cell? ⟨w.heap.size + 1, 2, none⟩ = some (.bool e3.b) := r1 2 _ rfl
  have p13 : u.cell? ⟨w.heap.size + 1, 3, none⟩ = some (.slice e3.A e3.n e3.c) := r1 3 _ rfl
  clear r0 r1 r2 hsz G1 G3 G4 HO
  go_wp2_with (first | refine wpList_store_mid (by rfl) _ _ _ (by rfl) (w.heap.size + 1 + 1) 0 (cellsM [e0, e1, e2, e3]).toArray (by rfl) (by rfl) ht hi.out ho ?_ | fail)
  refine bodyPost_ret (v := .agg (cellsM [e0, e1, e2, e3]).toArray) ?_ rfl ?_
  · simp [results, Try.results27, Sem.run_bind, asAddr, Act.put, G2]
  · exact ⟨rfl, ⟨HF.out.2 e0 (by simp), HF.out.2 e1 (by simp), HF.out.2 e2 (by simp), HF.out.2 e3 (by simp)⟩, HF.out.1⟩
end Go.Proofs.Ytgnfobnkhjlbbaa
/- The laws on homographies: an array of fractions in a block. Conditions: none. -/
namespace Go.Proofs.Ytgnfobnkhjlbbaa
open Go.RowKit Big

/-- an array of fractions in a block -/
structure BlkR (u : World) (g : Nat) (rf : List Rf) (wx : World) : Prop where
  b : Below u.heap.size u wx
  hg : u.heap.size ≤ g
  r : wx.rangeAt g 0 (cellsM (zl rf))
  z : Zn wx g
  ok : ∀ e ∈ zl rf, e.ok wx
  m : ∀ f ∈ rf, f.mg wx
theorem rf_mg {w : World} {rf : List Rf} (h : ∀ e ∈ zl rf, e.ok w) : ∀ f ∈ rf, f.mg w := by
  have := (toRf_zl rf.length (zl rf) (zl_len rf) h).2.2
  rwa [toRf_self] at this
theorem BlkR.below {u wx wy : World} {g : Nat} {rf : List Rf} (h : BlkR u g rf wx) (hb : Below wx.heap.size wx wy) : BlkR u g rf wy := ⟨bel_step h.b hb, h.hg, rng_below h.r hb, h.z.below hb, fun e he => (h.ok e he).below hb, fun f hf => (h.m f hf).below hb⟩
theorem BlkR.new {u W : World} {rf : List Rf} {t : TypeId} (hb : Below u.heap.size u W) (ho : ∀ e ∈ zl rf, e.ok W) : BlkR u W.heap.size rf (W.alloc (.cells (cellsM (zl rf)).toArray t)) := by
  have h : Below W.heap.size W (W.alloc (.cells (cellsM (zl rf)).toArray t)) := (Below.refl _ _).alloc (Nat.le_refl _) _
  have ho' : ∀ e ∈ zl rf, e.ok (W.alloc (.cells (cellsM (zl rf)).toArray t)) := fun e he => (ho e he).below h
  exact ⟨bel_step hb h, hb.size, rng_alloc, Zn.new_, ho', rf_mg ho'⟩
theorem BlkR.set {u W : World} {g : Nat} {rf : List Rf} {cs : List ZE} (hr : W.rangeAt g 0 (cellsM cs)) (z : Zn W g) (hb : Below u.heap.size u W) (hg : u.heap.size ≤ g) (hl : (zl rf).length = cs.length) (ho : ∀ e ∈ zl rf, e.ok W) : BlkR u g rf (W.setCells g 0 (cellsM (zl rf))) := by
  obtain ⟨F1, F2, F3, F4⟩ := fin_M hb hg hr z (by rw [cellsM_len, cellsM_len, hl]) (cellsM_npl _) ho
  exact ⟨F1, hg, F2, F4, F3, rf_mg F3⟩
end Go.Proofs.Ytgnfobnkhjlbbaa
/- The laws on homographies: the chapter's examples in numbers. Conditions: none. -/
namespace Go.Proofs.Ytgnfobnkhjlbbaa
open Go.RowKit Big

theorem n_10_1 : newE 10 1 = ((10, 1), 0) := new_lit (by decide) (by decide) (by decide) (by decide)
theorem n_20_1 : newE 20 1 = ((20, 1), 0) := new_lit (by decide) (by decide) (by decide) (by decide)
theorem n_15_1 : newE 15 1 = ((15, 1), 0) := new_lit (by decide) (by decide) (by decide) (by decide)
theorem n_2_1 : newE 2 1 = ((2, 1), 0) := new_lit (by decide) (by decide) (by decide) (by decide)
theorem n_60_4 : newE 60 4 = ((15, 1), 0) := new_lit (by decide) (by decide) (by decide) (by decide)
def exA : List (Int × Nat) := [(0, 1), (0, 1), (1, 1), (0, 1), (1, 1), (1, 1), (0, 1), (1, 1)]
def exB : List (Int × Nat) := [(10, 1), (10, 1), (20, 1), (10, 1), (20, 1), (20, 1), (10, 1), (20, 1)]
def exH : List Int := [10, 0, 10, 0, 10, 10, 0, 0, 1]
def exM : List Int := [1, 0, 0, 0, 1, 0, 0, 0, 2]
def exI : List Int := [2, 0, 0, 0, 2, 0, 0, 0, 1]
theorem le40_small {zs : List Int} (h : ∀ z ∈ zs, z.natAbs < 2 ^ 32) : le40 zs = true := by
  unfold le40
  rw [decide_eq_true_eq]
  intro z hz
  exact limbs_lt40 (k := 32) (h z hz) (by omega)
theorem szQ_small {q : Int × Nat} (h1 : q.1.natAbs < 2 ^ 32) (h2 : q.2 < 2 ^ 32) : szQ q ≤ 1 := by
  unfold szQ
  have a := limbs_lt40 (K := 1) h1 (by omega)
  have b := limbs_lt40 (K := 1) h2 (by omega)
  omega
theorem chk_small {w : World} {fs : List Rf} {qs : List (Int × Nat)} (h : RfG fs qs) (m : ∀ f ∈ fs, f.mg w) (hs : ∀ q ∈ qs, q.1.natAbs < 2 ^ 32 ∧ q.2 < 2 ^ 32) {k : Nat} (hk : 1 ≤ k) : chkZ k fs = 0 := by
  rw [h.chk m, if_pos]
  exact List.all_eq_true.2 fun q hq => decide_eq_true (Nat.le_trans (szQ_small (hs q hq).1 (hs q hq).2) hk)
theorem vf_small {q : Int × Nat} (n : Nf q) (h1 : q.1.natAbs < 2 ^ 32) (h2 : q.2 < 2 ^ 32) : Vf q := ⟨n, Bz.ft (k := 32) h1 (by omega), Bz.ft (k := 32) (bz_nat h2) (by omega)⟩
/-- fractions out of an array of integers -/
theorem rfG_of {w : World} {l : List ZE} {qs : List (Int × Nat)} (hz : l.map (·.z) = frZ qs) (ho : ∀ e ∈ l, e.ok w) (hs : ∀ q ∈ qs, Nf q ∧ q.1.natAbs < 2 ^ 32 ∧ q.2 < 2 ^ 32) : zl (toRf l) = l ∧ (toRf l).length = qs.length ∧ (∀ f ∈ toRf l, f.mg w) ∧ RfG (toRf l) qs := by
  have hl : l.length = 2 * qs.length := by rw [← List.length_map (·.z), hz, frZ_len]
  obtain ⟨h1, h2, h3⟩ := toRf_zl qs.length l hl ho
  obtain ⟨h4, h5⟩ := toRf_f qs l hz ho
  exact ⟨h1, h2, h3, h5 (fun q hq => vf_small (hs q hq).1 (hs q hq).2.1 (hs q hq).2.2), h4⟩
theorem red_exH : redZ exH = exH := by decide
theorem red_exM : redZ exM = exM := by decide
theorem red_exI : redZ exI = exI := by decide
theorem le_exH : le40 (redZ exH) = true := by rw [red_exH]; exact le40_small (by decide)
theorem le_exM : le40 (redZ exM) = true := by rw [red_exM]; exact le40_small (by decide)
theorem le_exI : le40 (redZ exI) = true := by rw [red_exI]; exact le40_small (by decide)
theorem exA_ok : ∀ q ∈ exA, Nf q ∧ q.1.natAbs < 2 ^ 32 ∧ q.2 < 2 ^ 32 := by unfold Nf; decide
theorem exB_ok : ∀ q ∈ exB, Nf q ∧ q.1.natAbs < 2 ^ 32 ∧ q.2 < 2 ^ 32 := by unfold Nf; decide
theorem ex_fp {w w' : World} {fs gs : List Rf} (h8 : fs.length = 8) (h8' : gs.length = 8) (hf : RfG fs exA) (hg : RfG gs exB) (mf : ∀ f ∈ fs, f.mg w) (mg : ∀ f ∈ gs, f.mg w') : fpE fs gs = (homZ exH, 0) := by
  have c1 := chk_small hf mf (fun q hq => (exA_ok q hq).2) (k := 8) (by omega)
  have c2 := chk_small hg mg (fun q hq => (exB_ok q hq).2) (k := 8) (by omega)
  rw [fpE_res h8 h8' (chk_app.2 ⟨c1, c2⟩) (by rw [hf.q]; decide) (by rw [hg.q]; decide), hf.q, hg.q]
  have e : redZ (fpM exA exB) = exH := by decide
  unfold resZ
  rw [e, if_pos (by have := le_exH; rwa [red_exH] at this)]
theorem det_exH : detZ exH ≠ 0 := by decide
theorem det_exM : detZ exM ≠ 0 := by decide
theorem ex_apl {w w' : World} {rf ps : List Rf} (h : HomR w rf exH) (hp : RfG ps [(1, 2), (1, 2)]) (m : ∀ f ∈ ps, f.mg w') : aplE rf ps = (frZ [(15, 1), (15, 1)], 0) := by
  have c := chk_small hp m (by decide) (k := 40) (by omega)
  rw [h.apl det_exH c hp.q]
  rw [show mvZ exH (ptZ ((1 : Int), 2) ((1 : Int), 2)) = [60, 60, 4] by decide, ptE_three, if_neg (by decide), n_60_4]
theorem ex_inv {w : World} {rf : List Rf} (h : HomR w rf exM) : oneE adjZ rf = (homZ exI, 0) := by
  rw [(h.one det_exM).1]
  have e : redZ (adjZ exM) = exI := by decide
  unfold resZ
  rw [e, if_pos (by have := le_exI; rwa [red_exI] at this)]
theorem ex_eq {w w' : World} {rf rg : List Rf} (h : HomR w rf exM) (h' : HomR w' rg exI) : eqB rf rg = false := by
  unfold eqB
  rw [h.n, h'.n, red_exM, red_exI, decide_eq_false (by decide)]
  simp
theorem ex_aff {w : World} {f0 f1 f2 f3 f4 f5 : Rf} (h : RfG [f0, f1, f2, f3, f4, f5] [(1, 2), (0, 1), (0, 1), (0, 1), (1, 2), (0, 1)]) (m : ∀ f ∈ [f0, f1, f2, f3, f4, f5], f.mg w) : affE [f0, f1, f2, f3, f4, f5] = (homZ exM, 0) := by
  have c := chk_small h m (by decide) (k := 40) (by omega)
  unfold affE
  rw [if_pos c, h.q, if_neg (by decide)]
  have e : redZ (intZ ([((1 : Int), 2), (0, 1), (0, 1), (0, 1), (1, 2), (0, 1)] ++ [(0, 1), (0, 1), (1, 1)])) = exM := by decide
  unfold resZ
  rw [e, if_pos (by have := le_exM; rwa [red_exM] at this)]
theorem ex_aff0 {w : World} {f0 f1 f2 f3 f4 f5 : Rf} (h : RfG [f0, f1, f2, f3, f4, f5] [(0, 1), (0, 1), (0, 1), (0, 1), (0, 1), (0, 1)]) (m : ∀ f ∈ [f0, f1, f2, f3, f4, f5], f.mg w) : affE [f0, f1, f2, f3, f4, f5] = (List.replicate 18 0, 24) := by
  have c := chk_small h m (by decide) (k := 40) (by omega)
  unfold affE
  rw [if_pos c, h.q, if_pos (by decide)]
/-- the affine transformation of six fractions that lie as pairs of integers -/
theorem LAffine_z {e0 e1 e2 e3 e4 e5 e6 e7 e8 e9 e10 e11 : ZE} {w : World} (ho : ∀ e ∈ [e0, e1, e2, e3, e4, e5, e6, e7, e8, e9, e10, e11], e.ok w) {q : List Int × Int} (hq : affE (toRf [e0, e1, e2, e3, e4, e5, e6, e7, e8, e9, e10, e11]) = q) (h18 : q.1.length = 18) :
    Calls Try.prog 28 #[.agg (cellsM [e0, e1]).toArray, .agg (cellsM [e2, e3]).toArray, .agg (cellsM [e4, e5]).toArray, .agg (cellsM [e6, e7]).toArray, .agg (cellsM [e8, e9]).toArray, .agg (cellsM [e10, e11]).toArray] w (RetH w q) := by
  obtain ⟨_, _, hm⟩ := toRf_zl 6 _ rfl ho
  have h := HAffine_g (w := w) hm
  have n0 := (ho e0 (by simp)).i.hn
  have n1 := (ho e1 (by simp)).i.hn
  have n2 := (ho e2 (by simp)).i.hn
  have n3 := (ho e3 (by simp)).i.hn
  have n4 := (ho e4 (by simp)).i.hn
  have n5 := (ho e5 (by simp)).i.hn
  have n6 := (ho e6 (by simp)).i.hn
  have n7 := (ho e7 (by simp)).i.hn
  have n8 := (ho e8 (by simp)).i.hn
  have n9 := (ho e9 (by simp)).i.hn
  have n10 := (ho e10 (by simp)).i.hn
  have n11 := (ho e11 (by simp)).i.hn
  simp only [Rf.val, ← n0, ← n1, ← n2, ← n3, ← n4, ← n5, ← n6, ← n7, ← n8, ← n9, ← n10, ← n11] at h
  refine h.mono fun e w' hh => ?_
  have hh : RetHE w (affE (toRf [e0, e1, e2, e3, e4, e5, e6, e7, e8, e9, e10, e11])) e w' := hh
  rw [hq] at hh
  exact hh.h h18
end Go.Proofs.Ytgnfobnkhjlbbaa
