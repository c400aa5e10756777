/- Sampling, the reference: Corners. Conditions: none. -/
import Derived.Test.YtdkgbkbbbldliaaGreatZSK
import Derived.Test.YtdkgbkbbbldliaaGreatZXD
import Derived.Test.YtdkgbkbbbldliaaGreatZHr19
import Derived.Test.YtdkgbkbbbldliaaGreatZSO
set_option linter.unusedVariables false
set_option linter.unusedSimpArgs false
namespace Go.Proofs.YtdkgbkbbbldliaaGreat
open Go.RowKit Big
set_option maxRecDepth 100000 in
set_option maxHeartbeats 8000000 in
theorem S4Corners_g (fs : List Rf) (h9 : fs.length = 9) {w : World} (hm : ∀ f ∈ fs, f.mg w) (cols rows : Int) :
  Calls Tryz.prog 19 #[.agg (Kc (zl fs)).toArray, .int .i64 cols, .int .i64 rows] w (RetC w (crnB (nrmB fs) (nrmZ fs) cols rows)) := by
 have hi := hid (show (Tryz.prog.info? 32).map (·.size) = some (Kc (zl fs)).length by rw [Kf, Ky, h9]; exact T32i)
 obtain ⟨P, hP⟩ : ∃ P, crnB (nrmB fs) (nrmZ fs) cols rows = P := ⟨_, rfl⟩
 have hQ : Hid (crnB (nrmB fs) (nrmZ fs) cols rows = P) := hP
 rw [hP]
 clear hP
 have HVa := hid fun (W : World) (h : Below w.heap.size w W) => Wp fs h9 (w := W) (fun f hf => (hm f hf).below h)
 have HP1 := hid fun (W : World) => Yy cols rows W
 have HW := hid fun (n : Int) (hn : -9223372036854775808 ≤ n ∧ n ≤ 9223372036854775807) (W : World) => QOf_z n hn.1 hn.2 W
 have HAp0 := hid fun (hv : nrmB fs = true) (x y : Int) (hx : Bz 64 x) (hy : Bz 64 y) (e0 e1 e2 e3 : ZE) (z0 : e0.z = x) (z1 : e1.z = 1) (z2 : e2.z = y) (z3 : e3.z = 1) (W : World) (h : Below w.heap.size w W) (o0 : e0.ok W) (o1 : e1.ok W) (o2 : e2.ok W) (o3 : e3.ok W) => (show Calls Tryz.prog 45 #[.agg (Kc (zl fs)).toArray, .agg (Kc [e0, e1, e2, e3]).toArray] W (RetP W (ptN (nrmZ fs) (x, y))) from by
  obtain ⟨ps, p2, pz, pg, pm⟩ := pt_rf z0 z1 z2 z3 (hx.ft (by omega)) (hy.ft (by omega)) (fun e he => by
   simp only [List.mem_cons, List.not_mem_nil, or_false] at he
   rcases he with rfl | rfl | rfl | rfl <;> assumption)
  have hmW : ∀ f ∈ fs, f.mg W := fun f hf => (hm f hf).below h
  have := (HRApply_g fs ps h9 p2 hmW pm).mono (R' := RetP W (aplE fs ps)) fun e w' h => h.h aplE_len
  rwa [pz, aplE_pt h9 hmW hv pg pm hx hy] at this)
 have hN9 := Jf h9
 clear hm h9
 have hFl : ∀ (v : World) (rf : List Rf), rf.length = 9 → (storeCells ⟨v.heap.size, 0, none⟩ (Kc (zl rf))).run Tryz.prog (v.alloc (.cells (Kc Kj).toArray 32)) = .ok () (v.alloc (.cells (Kc (zl rf)).toArray 32)) := fun v rf h => Jw (P := Tryz.prog) (w := v) (l := zl rf) (zs := Kc Kj) 32 (by rw [Kf, Ky, h]; rfl) T32i
 simp only [Kj, List.replicate, Kc, ZE.cells, ZE.zero, List.cons_append, List.nil_append] at hFl
 have hFl := hid hFl
 obtain ⟨d32, hU32, row32⟩ := T32u
 have hFp : ∀ (v : World) (rf : List Rf), rf.length = 2 → (storeCells ⟨v.heap.size, 0, none⟩ (Kc (zl rf))).run Tryz.prog (v.alloc (.cells (Kc Kt).toArray 42)) = .ok () (v.alloc (.cells (Kc (zl rf)).toArray 42)) := fun v rf h => Jw (P := Tryz.prog) (w := v) (l := zl rf) (zs := Kc Kt) 42 (by rw [Kf, Ky, h]; rfl) T28i
 simp only [Kt, List.replicate, Kc, ZE.cells, ZE.zero, List.cons_append, List.nil_append] at hFp
 have hFp := hid hFp
 obtain ⟨d28, hU28, row28⟩ := T28u
 go_enter Tryz.func19, Tryz.ntmps19
 go_upto_region 1 with fail
 refine Jc (P := fun u => Code.wp _ _ _ _ u) (c0 := Kc (zl fs)) (c1 := Kc Ku) ?_
 intro u HB r0 r1 zn0 zn1 hsz
 clear hsz
 go_wp2_with (first | refine wpList_load_mid (by rfl) _ _ (by rfl) w.heap.size 0 (by rfl) (Kc (zl fs)) _ r0 hU32 row32 hi.out ?_ | fail)
 refine (HVa.out u HB).mono ?_
 rintro e v1 ⟨rfl, hv1⟩
 have r0 := Ke r0 hv1
 have r1 := Ke r1 hv1
 have zn0 := zn0.below hv1
 have zn1 := zn1.below hv1
 have HB := Kb HB hv1
 clear HVa hv1
 cases hva : nrmB fs
 ·have HR : Hid (P = (List.replicate 16 0, 1)) := by unfold Hid; rw [← hQ.out]; unfold crnB; rw [hva]; rfl
  clear hQ HP1 HW HAp0 r0 zn0
  have ht := Kq r1 zn1
  have hi32 := T43i
  have ho := all_oneCell_toArray (Km Ku)
  obtain ⟨G1, G2, G3, G4⟩ := Ju (w := w) (l := Ku) (cs := Ku) T29u (by rfl) T43i HB (by omega) r1 zn1 rfl (fun e he => by rw [List.eq_of_mem_replicate he]; exact ZE.zero_ok _)
  have HF := hid (And.intro G3 G4)
  clear G1 G3 G4 r1 zn1 HB
  go_wp2_with (first | refine wpList_store_mid (by rfl) _ _ _ (by rfl) (w.heap.size + 1) 0 (Kc Ku).toArray (by rfl) (by rfl) ht hi32 ho ?_ | fail)
  refine bodyPost_ret (v := .tuple #[.agg (Kc Ku).toArray, .int .i64 (1)]) ?_ rfl ?_
  ·simp [results, Tryz.results19, Sem.run_bind, asAddr, G2]
  ·rw [HR.out]
   exact ⟨Ku, rfl, rfl, rfl, HF.out.2, HF.out.1⟩
 ·have HAp0 := hid (HAp0.out hva)
  go_wp2_with fail
  refine (HP1.out v1).mono ?_
  rintro e v2 ⟨rfl, hv2⟩
  have r0 := Ke r0 hv2
  have r1 := Ke r1 hv2
  have zn0 := zn0.below hv2
  have zn1 := zn1.below hv2
  have HB := Kb HB hv2
  clear HP1 hv2
  cases hs : J9 cols rows
  ·have HR : Hid (P = (List.replicate 16 0, 23)) := by unfold Hid; rw [← hQ.out]; unfold crnB; rw [hva, hs]; rfl
   clear hQ HW HAp0 r0 zn0
   simp only [Bool.false_eq_true, if_false]
   have ht := Kq r1 zn1
   have hi32 := T43i
   have ho := all_oneCell_toArray (Km Ku)
   obtain ⟨G1, G2, G3, G4⟩ := Ju (w := w) (l := Ku) (cs := Ku) T29u (by rfl) T43i HB (by omega) r1 zn1 rfl (fun e he => by rw [List.eq_of_mem_replicate he]; exact ZE.zero_ok _)
   have HF := hid (And.intro G3 G4)
   clear G1 G3 G4 r1 zn1 HB
   go_wp2_with (first | refine wpList_store_mid (by rfl) _ _ _ (by rfl) (w.heap.size + 1) 0 (Kc Ku).toArray (by rfl) (by rfl) ht hi32 ho ?_ | fail)
   refine bodyPost_ret (v := .tuple #[.agg (Kc Ku).toArray, .int .i64 (23)]) ?_ rfl ?_
   ·simp [results, Tryz.results19, Sem.run_bind, asAddr, G2]
   ·rw [HR.out]
    exact ⟨Ku, rfl, rfl, rfl, HF.out.2, HF.out.1⟩
  ·simp only [if_true]
   obtain ⟨a1, a2, a3, a4, _⟩ := Jj.1 hs
   have hQ0 := hid fun (p : Int × Int) (hp : p ∈ crns cols rows) (h : (ptN (nrmZ fs) p).2 ≠ 0) => (show P = (List.replicate 16 0, 24) by rw [← hQ.out]; unfold crnB; rw [hva, hs]; exact crnE_no hp h)
   have hQ1 := hid fun (h : ∀ p ∈ crns cols rows, (ptN (nrmZ fs) p).2 = 0) => (show P = (crnT (nrmZ fs) cols rows, 0) by rw [← hQ.out]; unfold crnB; rw [hva, hs]; exact crnE_yes h)
   have hbd : ∀ p ∈ crns cols rows, (0 ≤ p.1 ∧ p.1 ≤ 4096) ∧ (0 ≤ p.2 ∧ p.2 ≤ 4096) := by
    intro p hp
    unfold crns at hp
    simp only [List.mem_cons, List.not_mem_nil, or_false] at hp
    rcases hp with rfl | rfl | rfl | rfl <;> exact ⟨⟨by dsimp only; omega, by dsimp only; omega⟩, ⟨by dsimp only; omega, by dsimp only; omega⟩⟩
   have hbd := hid hbd
   have hTl := crnT_len hN9 cols rows
   have hTa := hid fun (j : Nat) (hj : j < (crns cols rows).length) => crnT_at hN9 cols rows hj
   clear a1 a2 a3 a4 hs hva hQ
   generalize nrmZ fs = N at *
   have hl2 := zn1.lt
   go_upto_region 7 with fail
   refine Kw (P := fun u => Code.wp _ _ _ _ u) (c := Kc Ku) ?_
   intro v3 hv3 rl zl_ hsz
   have r0 := Ke r0 hv3
   have r1 := Ke r1 hv3
   have zn0 := zn0.below hv3
   have zn1 := zn1.below hv3
   have HBv := Kb HB hv3
   have hF : Fil w [(w.heap.size, Kc (zl fs)), (w.heap.size + 1, Kc Ku)] v2.heap.size (sofar (crnT N cols rows) (4 * 0)) v3 := by
    refine ⟨HBv, fun p hp => ?_, zl_, by omega, Ku, rl, fun e he => by rw [List.eq_of_mem_replicate he]; exact ZE.zero_ok _, ?_⟩
    ·simp only [List.mem_cons, List.not_mem_nil, or_false] at hp
     rcases hp with rfl | rfl
     ·exact ⟨r0, zn0, by dsimp only; omega⟩
     ·exact ⟨r1, zn1, by dsimp only; omega⟩
    ·rw [Nat.mul_zero, Zd, hTl]; rfl
   obtain ⟨gl, hgl⟩ : ∃ g, g = v2.heap.size := ⟨_, rfl⟩
   have hg3 := zl_.lt
   rw [← hgl] at hF hl2 hg3 ⊢
   clear hgl r0 r1 zn0 zn1 HBv HB hv3 rl zl_ hsz
   go_upto_region 8 with fail
   refine Jc (P := fun u => Code.wp _ _ _ _ u) (c0 := (crns cols rows).map fun p => iv p.1) (c1 := (crns cols rows).map fun p => iv p.2) ?_
   intro v4 hv4 rx ry zx zy hsz
   have hF := hF.below hv4
   have hFx : Fil w [(w.heap.size, Kc (zl fs)), (w.heap.size + 1, Kc Ku), (v3.heap.size, (crns cols rows).map fun p => iv p.1), (v3.heap.size + 1, (crns cols rows).map fun p => iv p.2)] gl (sofar (crnT N cols rows) (4 * 0)) v4 := by
    refine ⟨hF.b, fun p hp => ?_, hF.zm, hF.hg, hF.ex⟩
    simp only [List.mem_cons, List.not_mem_nil, or_false] at hp
    rcases hp with rfl | rfl | rfl | rfl
    ·exact hF.k _ (by simp)
    ·exact hF.k _ (by simp)
    ·exact ⟨rx, zx, by dsimp only; omega⟩
    ·exact ⟨ry, zy, by dsimp only; omega⟩
   obtain ⟨gx, hgx⟩ : ∃ g, g = v3.heap.size := ⟨_, rfl⟩
   obtain ⟨gy, hgy⟩ : ∃ g, g = v3.heap.size + 1 := ⟨_, rfl⟩
   rw [← hgy, ← hgx] at hFx
   rw [← hgy, ← hgx]
   clear hF hv4 rx ry zx zy hsz hgx hgy hg3
   go_wp2
   go_loopw [12] (fun s12 wr => ∃ j : Nat, j ≤ 4 ∧ s12 = .int .i64 j ∧ Fil w [(w.heap.size, Kc (zl fs)), (w.heap.size + 1, Kc Ku), (gx, (crns cols rows).map fun p => iv p.1), (gy, (crns cols rows).map fun p => iv p.2)] gl (sofar (crnT N cols rows) (4 * j)) wr ∧ Hid (∀ i (h : i < (crns cols rows).length), i < j → (ptN N (crns cols rows)[i]).2 = 0)) (fun s12 _ => 4 - (intOf s12).toNat)
   case atStart => exact ⟨0, by omega, rfl, hFx, fun i _ h => absurd h (by omega)⟩
   case round =>
    clear hFx
    obtain ⟨j, hj, rfl, hF, hI⟩ := hrel
    obtain ⟨r0, zn0, ne0⟩ := hF.k (w.heap.size, Kc (zl fs)) (by simp)
    obtain ⟨r1, zn1, ne1⟩ := hF.k (w.heap.size + 1, Kc Ku) (by simp)
    obtain ⟨rx, zx, nex⟩ := hF.k (gx, (crns cols rows).map fun p => iv p.1) (by simp)
    obtain ⟨ry, zy, ney⟩ := hF.k (gy, (crns cols rows).map fun p => iv p.2) (by simp)
    dsimp only at r0 zn0 ne0 r1 zn1 ne1 rx zx nex ry zy ney
    have HBw := hF.b
    by_cases h4 : j < 4
    ·have h4i : (j : Int) < 4 := by omega
     have hjc : j < (crns cols rows).length := h4
     have hp := hbd.out (crns cols rows)[j] (List.getElem_mem hjc)
     have hqa := hTa.out j hjc
     have hq0 := hid (hQ0.out (crns cols rows)[j] (List.getElem_mem hjc))
     have hin := hid fun (h : (ptN N (crns cols rows)[j]).2 = 0) => (show ∀ i (h : i < (crns cols rows).length), i < j + 1 → (ptN N (crns cols rows)[i]).2 = 0 from fun i h1 h2 => by
      rcases Nat.lt_or_ge i j with h3 | h3
      ·exact hI.out i h1 h3
      ·obtain rfl : i = j := by omega
       exact h)
     have cx : wr.cell? ⟨gx, 0 + j, none⟩ = some (iv (crns cols rows)[j].1) := rx j _ (by rw [List.getElem?_map, List.getElem?_eq_getElem hjc]; rfl)
     have cy : wr.cell? ⟨gy, 0 + j, none⟩ = some (iv (crns cols rows)[j].2) := ry j _ (by rw [List.getElem?_map, List.getElem?_eq_getElem hjc]; rfl)
     rw [Nat.zero_add] at cx cy
     generalize (crns cols rows)[j] = p at *
     obtain ⟨px, py⟩ := p
     obtain ⟨hpx, hpy⟩ := hp
     dsimp only [iv] at cx cy hpx hpy
     have hpx : -9223372036854775808 ≤ px ∧ px ≤ 9223372036854775807 := by omega
     have hpy : -9223372036854775808 ≤ py ∧ py ≤ 9223372036854775807 := by omega
     have HAp := hid fun (e0 e1 e2 e3 : ZE) (z0 : e0.z = px) (z1 : e1.z = 1) (z2 : e2.z = py) (z3 : e3.z = 1) (W : World) (h : Below wr.heap.size wr W) (o0 : e0.ok W) (o1 : e1.ok W) (o2 : e2.ok W) (o3 : e3.ok W) => HAp0.out px py (Xb hpx) (Xb hpy) e0 e1 e2 e3 z0 z1 z2 z3 W (Kb HBw h) o0 o1 o2 o3
     obtain ⟨⟨zz, ze⟩, hz⟩ : ∃ z, ptN N (px, py) = z := ⟨_, rfl⟩
     rw [hz] at HAp hq0 hin hqa
     have hzl : zz.length = 4 := by rw [show zz = (ptN N (px, py)).1 by rw [hz]]; exact Yr hN9 _
     have hno : ze ≠ 0 → ze = 24 := fun h => by
      have := ptN_no (N := N) (p := (px, py)) (by rw [hz]; exact h)
      rwa [hz] at this
     have hqa := hid hqa
     have hF := hid hF
     have hno := hid hno
     have ltx := Kd cx
     have lty := Kd cy
     clear hz rx ry zx zy nex ney r1 zn1 HBw zn0
     go_wp2_with fail
     refine (HW.out px hpx wr).mono ?_
     rintro e x1 ⟨e0, e1, rfl, z0, z1, o0, o1, hq_⟩
     have HB := hq_
     have cy := Ka hq_ cy
     have r0 := Ke r0 hq_
     simp only [Kc, ZE.cells, List.cons_append, List.nil_append]
     go_upto_region 12 with fail
     refine Kw (P := fun u => Code.wp _ _ _ _ u) (c := Kc [e0, e1]) ?_
     intro x2 hx2 ra za hsz
     have HB := Kb HB hx2
     have cy := Ka hx2 cy
     have r0 := Ke r0 hx2
     have o0 := o0.below hx2
     have o1 := o1.below hx2
     clear hq_ hx2 za hsz cx
     go_wp2_with fail
     refine (HW.out py hpy x2).mono ?_
     rintro e x3 ⟨e2, e3, rfl, z2, z3, o2, o3, hq_⟩
     have HB := Kb HB hq_
     have r0 := Ke r0 hq_
     have ra := Ke ra hq_
     have o0 := o0.below hq_
     have o1 := o1.below hq_
     simp only [Kc, ZE.cells, List.cons_append, List.nil_append]
     go_upto_region 13 with fail
     refine Kw (P := fun u => Code.wp _ _ _ _ u) (c := Kc [e2, e3]) ?_
     intro x4 hx4 rb zb hsz
     have HB := Kb HB hx4
     have r0 := Ke r0 hx4
     have ra := Ke ra hx4
     have o0 := o0.below hx4
     have o1 := o1.below hx4
     have o2 := o2.below hx4
     have o3 := o3.below hx4
     have a0 : x4.cell? ⟨x1.heap.size, 0, none⟩ = some (.bool e0.b) := ra 0 _ rfl
     have a1 : x4.cell? ⟨x1.heap.size, 1, none⟩ = some (.slice e0.A e0.n e0.c) := ra 1 _ rfl
     have a2 : x4.cell? ⟨x1.heap.size, 2, none⟩ = some (.bool e1.b) := ra 2 _ rfl
     have a3 : x4.cell? ⟨x1.heap.size, 3, none⟩ = some (.slice e1.A e1.n e1.c) := ra 3 _ rfl
     have b0 : x4.cell? ⟨x3.heap.size, 0, none⟩ = some (.bool e2.b) := rb 0 _ rfl
     have b1 : x4.cell? ⟨x3.heap.size, 1, none⟩ = some (.slice e2.A e2.n e2.c) := rb 1 _ rfl
     have b2 : x4.cell? ⟨x3.heap.size, 2, none⟩ = some (.bool e3.b) := rb 2 _ rfl
     have b3 : x4.cell? ⟨x3.heap.size, 3, none⟩ = some (.slice e3.A e3.n e3.c) := rb 3 _ rfl
     clear hq_ hx4 zb hsz cy ra rb
     go_wp2_with (first | refine wpList_load_mid (by rfl) _ _ (by rfl) w.heap.size 0 (by rfl) (Kc (zl fs)) _ r0 hU32 row32 hi.out ?_ | fail)
     clear a0 a1 a2 a3 b0 b1 b2 b3
     refine (HAp.out e0 e1 e2 e3 z0 z1 z2 z3 x4 HB o0 o1 o2 o3).mono ?_
     rintro e x5 ⟨rf1, h21, rfl, hz1, ok1, mg1, hq_⟩
     have F1 := hFp.out x5 rf1 h21
     have h81 : (Kc (zl rf1)).length = 8 := by rw [Kf, Ky, h21]
     go_upto_region 14 with fail
     refine Kw (P := fun u => Code.wp _ _ _ _ u) ?_
     intro x6 hv_ s1 sz_ hsz
     have qx6 := Kb hq_ hv_
     have hi1 := hid (show (Tryz.prog.info? 42).map (·.size) = some (Kc (zl rf1)).length by rw [h81]; exact T28i)
     have r0 := Ke r0 qx6
     have ok1 : ∀ e ∈ zl rf1, e.ok x6 := fun e he => (ok1 e he).below hv_
     have mg1 : ∀ f ∈ rf1, f.mg x6 := fun f hf => (mg1 f hf).below hv_
     have HB := Kb HB qx6
     clear F1 sz_ hsz hv_ hq_ h81
     have h2p := h21
     clear o0 o1 o2 o3 r0
     by_cases he : ze = 0
     ·subst he
      have hF := hF.out.below HB
      have hI' := hid (hin.out rfl)
      have h8p : (Kc (zl rf1)).length = 8 := by rw [Kf, Ky, h2p]
      have hi8' := hid (show (Tryz.prog.info? 42).map (·.size) = some (Kc (zl rf1)).toArray.size by rw [List.size_toArray, h8p]; exact T28i)
      have h16 : 4 * j + 4 ≤ (sofar (crnT N cols rows) (4 * j)).length := by rw [Xp _ _ (by rw [hTl]; omega), hTl]; omega
      obtain ⟨hth, hF5⟩ := hF.put4 h16 (l4 := zl rf1) (by rw [Ky, h2p]) ok1
      rw [hz1, Gt (by rw [hTl]; omega) hqa.out] at hF5
      have hF5 := hid hF5
      have hth : x6.there gl (j * 8) (Kc (zl rf1)).toArray.size := by rw [List.size_toArray, h8p]; exact hth
      have ho8 := all_oneCell_toArray (Km (zl rf1))
      clear hF h8p hin hq0 hno hI h16 HB
      go_wp2_with (first | refine wpList_load_mid (by rfl) _ _ (by rfl) x5.heap.size 0 (by rfl) (Kc (zl rf1)) _ s1 hU28 row28 hi1.out ?_ | refine wpList_store_mid (by rfl) _ _ _ (by rfl) gl (j * 8) (Kc (zl rf1)).toArray (by rfl) (by rfl) hth hi8'.out ho8 ?_ | fail)
      go_roundw
      case rel => exact ⟨j + 1, by omega, by go_num, hF5.out, hI'⟩
      case measure => simp [intOf]; omega
     ·have HR := hid (hq0.out he)
      obtain rfl := hno.out he
      have hF := hF.out.below HB
      obtain ⟨r1, zn1, ne1⟩ := hF.k (w.heap.size + 1, Kc Ku) (by simp)
      dsimp only at r1 zn1 ne1
      have HB := hF.b
      clear hin hq0 hno hI hqa hF s1 ok1 mg1 hz1
      have ht := Kq r1 zn1
      have hi32 := T43i
      have ho := all_oneCell_toArray (Km Ku)
      obtain ⟨G1, G2, G3, G4⟩ := Ju (w := w) (l := Ku) (cs := Ku) T29u (by rfl) T43i HB (by omega) r1 zn1 rfl (fun e he => by rw [List.eq_of_mem_replicate he]; exact ZE.zero_ok _)
      have HF := hid (And.intro G3 G4)
      clear G1 G3 G4 r1 zn1 HB
      go_wp2_with (first | refine wpList_store_mid (by rfl) _ _ _ (by rfl) (w.heap.size + 1) 0 (Kc Ku).toArray (by rfl) (by rfl) ht hi32 ho ?_ | fail)
      refine bodyPost_ret (v := .tuple #[.agg (Kc Ku).toArray, .int .i64 (24)]) ?_ rfl ?_
      ·simp [results, Tryz.results19, Sem.run_bind, asAddr, G2]
      ·rw [HR.out]
       exact ⟨Ku, rfl, rfl, rfl, HF.out.2, HF.out.1⟩
    ·have hj4 : (j : Int) = 4 := by omega
     rw [hj4]
     obtain rfl : j = 4 := by omega
     clear hj4
     have HR := hid (hQ1.out fun p hp => by
      obtain ⟨i, hi, rfl⟩ := List.getElem_of_mem hp
      exact hI.out i hi hi)
     obtain ⟨lm, e2, e3, e4⟩ := hF.ex
     rw [show sofar (crnT N cols rows) (4 * 4) = crnT N cols rows by rw [← hTl.trans (show 16 = 4 * 4 from rfl), Wn]] at e4
     have hl16 : lm.length = 16 := by rw [← List.length_map (·.z), e4, hTl]
     have hi32 := hid (show (Tryz.prog.info? 43).map (·.size) = some (Kc lm).length by rw [Kf, hl16]; exact T43i)
     have hi32' := hid (show (Tryz.prog.info? 43).map (·.size) = some (Kc lm).toArray.size by rw [List.size_toArray]; exact hi32.out)
     have ht := Kq r1 zn1
     rw [show (Kc Ku).length = (Kc lm).toArray.size by rw [List.size_toArray, Kf, Kf, hl16]; rfl] at ht
     have ho := all_oneCell_toArray (Km lm)
     obtain ⟨G1, G2, G3, G4⟩ := Ju (w := w) (l := lm) (cs := Ku) T29u (by rfl) hi32.out HBw (by omega) r1 zn1 (by rw [hl16]; rfl) e3
     have HF := hid (And.intro (And.intro hl16 e4) (And.intro G3 G4))
     clear G1 G3 G4 e3 e4 hF hI hl16 HBw r1 zn1 HAp0 HW hbd hTl hTa hQ0 hQ1 rx ry zx zy
     go_wp2_with (first | refine wpList_load_mid (by rfl) _ _ (by rfl) gl 0 (by rfl) (Kc lm) _ e2 T29u (by rfl) hi32.out ?_ | refine wpList_store_mid (by rfl) _ _ _ (by rfl) (w.heap.size + 1) 0 (Kc lm).toArray (by rfl) (by rfl) ht hi32'.out ho ?_ | fail)
     refine bodyPost_ret (v := .tuple #[.agg (Kc lm).toArray, .int .i64 0]) ?_ rfl ?_
     ·simp [results, Tryz.results19, Sem.run_bind, asAddr, G2]
     ·rw [HR.out]
      exact ⟨lm, HF.out.1.1, rfl, HF.out.1.2, HF.out.2.2, HF.out.2.1⟩
end Go.Proofs.YtdkgbkbbbldliaaGreat
