/- Sampling: arrays of points that are being filled. Conditions: none. -/
import Derived.Test.YtdkgbkbbbldliaaGreatZSJ
import Derived.Test.YtdkgbkbbbldliaaGreatZYS
import Derived.Test.YtdkgbkbbbldliaaGreatZSI
import Derived.Test.YtdkgbkbbbldliaaGreatZXA
set_option linter.unusedVariables false
set_option linter.unusedSimpArgs false
namespace Go.Proofs.YtdkgbkbbbldliaaGreat
open Go.RowKit Big
def Ku : List ZE := List.replicate 16 ZE.zero
theorem rng_app {w : World} {g o : Nat} {xs ys : List Value} (h1 : w.rangeAt g o xs) (h2 : w.rangeAt g (o + xs.length) ys) : w.rangeAt g o (xs ++ ys) := fun j v hv => by
 rcases Nat.lt_or_ge j xs.length with h | h
 ·rw [List.getElem?_append_left h] at hv
  exact h1 j v hv
 ·rw [List.getElem?_append_right h] at hv
  have := h2 (j - xs.length) v hv
  rwa [show o + xs.length + (j - xs.length) = o + j by omega] at this
theorem split4 {α : Type} (l : List α) (k : Nat) : l = l.take k ++ ((l.drop k).take 4 ++ l.drop (k + 4)) := by
 conv => lhs; rw [← List.take_append_drop k l, ← List.take_append_drop 4 (l.drop k), List.drop_drop]
theorem Fil.put4 {w wr : World} {kp : List (Nat × List Value)} {gm : Nat} {zs : List Int} (h : Fil w kp gm zs wr) {j : Nat} (hj : 4 * j + 4 ≤ zs.length) {l4 : List ZE} (hl : l4.length = 4) (ho : ∀ e ∈ l4, e.ok wr) :
  wr.there gm (j * 8) 8 ∧ Fil w kp gm (zs.take (4 * j) ++ (l4.map (·.z) ++ zs.drop (4 * j + 4))) (wr.setCells gm (j * 8) (Kc l4)) := by
 obtain ⟨lm, e2, e3, e4⟩ := h.ex
 have hlm : lm.length = zs.length := by rw [← e4, List.length_map]
 obtain ⟨X, hX⟩ : ∃ X, X = lm.take (4 * j) := ⟨_, rfl⟩
 obtain ⟨M, hM⟩ : ∃ M, M = (lm.drop (4 * j)).take 4 := ⟨_, rfl⟩
 obtain ⟨Y, hY⟩ : ∃ Y, Y = lm.drop (4 * j + 4) := ⟨_, rfl⟩
 have hsp : lm = X ++ (M ++ Y) := by rw [hX, hM, hY]; exact split4 lm (4 * j)
 have lX : X.length = 4 * j := by rw [hX, List.length_take]; omega
 have lM : M.length = 4 := by rw [hM, List.length_take, List.length_drop]; omega
 have e2' := e2
 rw [hsp] at e2'
 have rX := Qm [] X (M ++ Y) e2'
 have rM := Qm X M Y e2'
 have rY := Qm (X ++ M) Y [] (by rw [List.append_nil, List.append_assoc]; exact e2')
 rw [List.length_append, lX, lM, Nat.zero_add] at rY
 rw [lX, Nat.zero_add, show 2 * (4 * j) = j * 8 by omega] at rM
 rw [show (0 : Nat) + 2 * ([] : List ZE).length = 0 from rfl] at rX
 have cX : (Kc X).length = j * 8 := by rw [Kf, lX]; omega
 have cM : (Kc M).length = 8 := by rw [Kf, lM]
 have c4 : (Kc l4).length = 8 := by rw [Kf, hl]
 have ht := Kq rM h.zm
 rw [cM] at ht
 refine ⟨ht, ?_⟩
 have sX := World.rangeAt_setCells_apart rX gm (j * 8) (Kc l4) (Or.inr (Or.inl (by omega)))
 have sY := World.rangeAt_setCells_apart rY gm (j * 8) (Kc l4) (Or.inr (Or.inr (by omega)))
 have sM := World.rangeAt_setCells_same wr gm (j * 8) (Kc l4) (by rw [c4]; exact ht)
 have hg := h.hg
 have hok : ∀ e : ZE, e.ok wr → e.ok (wr.setCells gm (j * 8) (Kc l4)) := fun e he => he.sets rM (by omega) (Js _)
 refine ⟨J4 hg _ _ _ h.b, fun p hp => ⟨Wv (h.k p hp).1 (h.k p hp).2.2, Zn.sets _ _ _ _ (h.k p hp).2.1, (h.k p hp).2.2⟩, Zn.sets _ _ _ _ h.zm, hg, X ++ (l4 ++ Y), ?_, fun e he => ?_, ?_⟩
 ·rw [Qx, Qx]
  refine rng_app sX (rng_app ?_ ?_)
  ·rw [cX, Nat.zero_add]; exact sM
  ·rw [cX, c4, Nat.zero_add]
   rwa [show 2 * (4 * j + 4) = j * 8 + 8 by omega] at sY
 ·rcases List.mem_append.1 he with he | he
  ·exact hok e (e3 e (by rw [hsp]; simp [he]))
  ·rcases List.mem_append.1 he with he | he
   ·exact hok e (ho e he)
   ·exact hok e (e3 e (by rw [hsp]; simp [he]))
 ·rw [List.map_append, List.map_append, hX, hY, List.map_take, List.map_drop, e4]
theorem Gt {T : List Int} {j : Nat} (hj : 4 * j + 4 ≤ T.length) {q : List Int} (hq : (T.drop (4 * j)).take 4 = q) : (sofar T (4 * j)).take (4 * j) ++ (q ++ (sofar T (4 * j)).drop (4 * j + 4)) = sofar T (4 * (j + 1)) := by
 have e1 : (T.take (4 * j)).length = 4 * j := by rw [List.length_take]; omega
 have e2 : (sofar T (4 * j)).take (4 * j) = T.take (4 * j) := by
  unfold sofar
  rw [List.take_append_of_le_length (by omega), List.take_of_length_le (by omega)]
 have e3 : (sofar T (4 * j)).drop (4 * j + 4) = List.replicate (T.length - 4 * (j + 1)) 0 := by
  unfold sofar
  rw [List.drop_append, List.drop_eq_nil_of_le (by omega), e1, List.nil_append, List.drop_replicate]
  congr 1
  omega
 have e4 : T.take (4 * (j + 1)) = T.take (4 * j) ++ q := by
  rw [show 4 * (j + 1) = 4 * j + 4 by omega, List.take_add, hq]
 rw [e2, e3]
 show _ = T.take (4 * (j + 1)) ++ List.replicate (T.length - 4 * (j + 1)) 0
 rw [e4, List.append_assoc]
def crnT (N : List Int) (c r : Int) : List Int := (crns c r).flatMap (fun p => (ptN N p).1)
theorem crnT_len {N : List Int} (h : N.length = 9) (c r : Int) : (crnT N c r).length = 16 := by
 unfold crnT crns
 simp [Yr h]
theorem crnT_at {N : List Int} (h : N.length = 9) (c r : Int) {j : Nat} (hj : j < (crns c r).length) : ((crnT N c r).drop (4 * j)).take 4 = (ptN N (crns c r)[j]).1 := by
 have h0 := Yr h (0, 0)
 have h1 := Yr h (c, 0)
 have h2 := Yr h (c, r)
 have h3 := Yr h (0, r)
 have e : crnT N c r = (ptN N (0, 0)).1 ++ ((ptN N (c, 0)).1 ++ ((ptN N (c, r)).1 ++ ((ptN N (0, r)).1 ++ []))) := rfl
 rw [e]
 match j, hj with
 | 0, _ =>
  show ((ptN N (0, 0)).1 ++ _).take 4 = (ptN N (0, 0)).1
  exact List.take_left' h0
 | 1, _ =>
  show (((ptN N (0, 0)).1 ++ _).drop 4).take 4 = (ptN N (c, 0)).1
  rw [List.drop_left' h0]
  exact List.take_left' h1
 | 2, _ =>
  show (((ptN N (0, 0)).1 ++ _).drop (4 + 4)).take 4 = (ptN N (c, r)).1
  rw [← List.drop_drop, List.drop_left' h0, List.drop_left' h1]
  exact List.take_left' h2
 | 3, _ =>
  show (((ptN N (0, 0)).1 ++ _).drop (4 + 8)).take 4 = (ptN N (0, r)).1
  rw [← List.drop_drop, List.drop_left' h0, show (8 : Nat) = 4 + 4 from rfl, ← List.drop_drop, List.drop_left' h1, List.drop_left' h2]
  exact List.take_left' h3
def RetC (w : World) (q : List Int × Int) (e : Ending) (w' : World) : Prop := ∃ l : List ZE, l.length = 16 ∧ e = .returned (.tuple #[.agg (Kc l).toArray, .int .i64 q.2]) ∧ l.map (·.z) = q.1 ∧ (∀ x ∈ l, x.ok w') ∧ Below w.heap.size w w'
theorem T43i : (Tryz.prog.info? 43).map (·.size) = some 32 := by kernel_rfl
theorem Hs (W : World) (c r : Int) (j : Nat) (hj : j < (crns c r).length) :
  (Instr.index 82 (.agg #[.int .i64 0, .int .i64 0, .int .i64 c, .int .i64 0, .int .i64 c, .int .i64 r, .int .i64 0, .int .i64 r]) (.int .i64 j)).run Tryz.prog W = .ok (.agg #[.int .i64 (crns c r)[j].1, .int .i64 (crns c r)[j].2]) W := by
 have hs : (sizeOf 73).run Tryz.prog W = .ok 2 W := by simp [Tryz.sizeOf73]
 have ha : (isAgg 73).run Tryz.prog W = .ok true W := by simp [Tryz.isAgg73]
 have hu : Tryz.prog.underlying 82 = some (.array 4 73) := Tryz.underlying82
 unfold Instr.index
 match j, hj with
 | 0, _ => simp [Sem.run_bind, asIntOf, run_underlying hu W, hs, part, ha, crns]
 | 1, _ => simp [Sem.run_bind, asIntOf, run_underlying hu W, hs, part, ha, crns]
 | 2, _ => simp [Sem.run_bind, asIntOf, run_underlying hu W, hs, part, ha, crns]
 | 3, _ => simp [Sem.run_bind, asIntOf, run_underlying hu W, hs, part, ha, crns]
theorem pt_rf {w : World} {x y : Int} {e0 e1 e2 e3 : ZE} (z0 : e0.z = x) (z1 : e1.z = 1) (z2 : e2.z = y) (z3 : e3.z = 1) (hx : fits x) (hy : fits y) (ho : ∀ e ∈ [e0, e1, e2, e3], e.ok w) :
  ∃ ps : List Rf, ps.length = 2 ∧ zl ps = [e0, e1, e2, e3] ∧ RfG ps [(x, 1), (y, 1)] ∧ ∀ f ∈ ps, f.mg w := by
 obtain ⟨h1, h2, h3⟩ := Wz 2 [e0, e1, e2, e3] rfl ho
 obtain ⟨h4, h5⟩ := toRf_f [(x, 1), (y, 1)] [e0, e1, e2, e3] (by simp [frZ, z0, z1, z2, z3]) ho
 refine ⟨toRf [e0, e1, e2, e3], h2, h1, ⟨h5 fun q hq => ?_, h4⟩, h3⟩
 simp only [List.mem_cons, List.not_mem_nil, or_false] at hq
 rcases hq with rfl | rfl
 ·exact vf_int hx
 ·exact vf_int hy
set_option maxRecDepth 100000 in
set_option maxHeartbeats 2000000 in
theorem Swhole_g (n : Int) (h1 : -9223372036854775808 ≤ n) (h2 : n ≤ 9223372036854775807) (w : World) :
  Calls Tryz.prog 44 #[.int .i64 n] w (fun e w' => ∃ e0 e1 : ZE, e = .returned (.agg (Kc [e0, e1]).toArray) ∧ e0.z = n ∧ e1.z = 1 ∧ e0.ok w' ∧ e1.ok w' ∧ Below w.heap.size w w') := by
 obtain ⟨bq, kq, Xq, IX⟩ := iz n
 obtain ⟨br, lq, Yq, IY⟩ := iz (1 : Int)
 have HX := hid fun (W : World) => Q7 (w := W) IX.out (by omega) (by omega)
 have HY := hid fun (W : World) => Q7 (w := W) IY.out (by omega) (by omega)
 clear h1 h2
 go_enter Tryz.func44, Tryz.ntmps44
 go_upto_region 1 with fail
 refine Kw (P := fun u => Code.wp _ _ _ _ u) (c := [.bool false, .slice none 0 0, .bool false, .slice none 0 0]) ?_
 intro u HB r0 z0 hsz
 clear hsz
 go_wp2_with fail
 refine (HX.out u).mono ?_
 rintro e w1 ⟨R1, c1, rfl, m1, h1⟩
 have HB := Kb HB h1
 have r0 := Ke r0 h1
 have z0 := z0.below h1
 go_wp2_with fail
 refine (HY.out w1).mono ?_
 rintro e w2 ⟨R2, c2, rfl, m2, h2⟩
 have HB := Kb HB h2
 have r0 := Ke r0 h2
 have z0 := z0.below h2
 have m1 := m1.below h2
 have q0 : w2.cell? ⟨w.heap.size, 0, none⟩ = some (.bool false) := r0 0 _ rfl
 have q1 : w2.cell? ⟨w.heap.size, 1, none⟩ = some (.slice none 0 0) := r0 1 _ rfl
 have q2 : w2.cell? ⟨w.heap.size, 2, none⟩ = some (.bool false) := r0 2 _ rfl
 have q3 : w2.cell? ⟨w.heap.size, 3, none⟩ = some (.slice none 0 0) := r0 3 _ rfl
 have ltq := Kd q0
 have fq := z0.fr
 have HF := hid (Zc m1 m2 HB (Nat.le_refl _) q0 q1 q2 q3 (.bool bq) (.slice R1 kq c1) (.bool br) (.slice R2 lq c2))
 clear m1 m2 HB h1 h2 r0 z0 HX HY
 go_wp2
 refine bodyPost_ret (v := .agg #[.bool bq, .slice R1 kq c1, .bool br, .slice R2 lq c2]) ?_ rfl ?_
 ·simp [results, Tryz.results44, go_sem, q0, q1, q2, q3]
 ·obtain ⟨j1_, j2_, j3_⟩ := HF.out
  exact ⟨⟨n, bq, kq, Xq, R1, c1⟩, ⟨1, br, lq, Yq, R2, c2⟩, rfl, rfl, rfl, ⟨IX.out, j1_⟩, ⟨IY.out, j2_⟩, j3_⟩
set_option maxRecDepth 100000 in
set_option maxHeartbeats 8000000 in
theorem Hd (fs : List Rf) (h9 : fs.length = 9) {w : World} (hm : ∀ f ∈ fs, f.mg w) (cols rows : Int) :
  Calls Tryz.prog 18 #[.agg (Kc (zl fs)).toArray, .int .i64 cols, .int .i64 rows] w (RetC w (crnB (nrmB fs) (nrmZ fs) cols rows)) := by
 have hi := hid (show (Tryz.prog.info? 32).map (·.size) = some (Kc (zl fs)).length by rw [Kf, Ky, h9]; exact T32i)
 obtain ⟨P, hP⟩ : ∃ P, crnB (nrmB fs) (nrmZ fs) cols rows = P := ⟨_, rfl⟩
 have hQ : Hid (crnB (nrmB fs) (nrmZ fs) cols rows = P) := hP
 rw [hP]
 clear hP
 have HVa := hid fun (W : World) (h : Below w.heap.size w W) => V7 fs h9 (w := W) (fun f hf => (hm f hf).below h)
 have HP1 := hid fun (W : World) => Z4 cols rows W
 have HW := hid fun (n : Int) (hn : -9223372036854775808 ≤ n ∧ n ≤ 9223372036854775807) (W : World) => Swhole_g n hn.1 hn.2 W
 have HAp0 := hid fun (hv : nrmB fs = true) (x y : Int) (hx : Bz 64 x) (hy : Bz 64 y) (e0 e1 e2 e3 : ZE) (z0 : e0.z = x) (z1 : e1.z = 1) (z2 : e2.z = y) (z3 : e3.z = 1) (W : World) (h : Below w.heap.size w W) (o0 : e0.ok W) (o1 : e1.ok W) (o2 : e2.ok W) (o3 : e3.ok W) => (show Calls Tryz.prog 43 #[.agg (Kc (zl fs)).toArray, .agg (Kc [e0, e1, e2, e3]).toArray] W (RetP W (ptN (nrmZ fs) (x, y))) from by
  obtain ⟨ps, p2, pz, pg, pm⟩ := pt_rf z0 z1 z2 z3 (hx.ft (by omega)) (hy.ft (by omega)) (fun e he => by
   simp only [List.mem_cons, List.not_mem_nil, or_false] at he
   rcases he with rfl | rfl | rfl | rfl <;> assumption)
  have hmW : ∀ f ∈ fs, f.mg W := fun f hf => (hm f hf).below h
  have := LApply_h h9 p2 hmW pm
  rwa [pz, aplE_pt h9 hmW hv pg pm hx hy] at this)
 have hN9 := Jf h9
 clear hm h9
 have hFl : ∀ (v : World) (rf : List Rf), rf.length = 9 → (storeCells ⟨v.heap.size, 0, none⟩ (Kc (zl rf))).run Tryz.prog (v.alloc (.cells (Kc Kj).toArray 32)) = .ok () (v.alloc (.cells (Kc (zl rf)).toArray 32)) := fun v rf h => Jw (P := Tryz.prog) (w := v) (l := zl rf) (zs := Kc Kj) 32 (by rw [Kf, Ky, h]; rfl) T32i
 simp only [Kj, List.replicate, Kc, ZE.cells, ZE.zero, List.cons_append, List.nil_append] at hFl
 have hFl := hid hFl
 obtain ⟨d32, hU32, row32⟩ := T32u
 go_enter Tryz.func18, Tryz.ntmps18
 go_upto_region 1 with fail
 refine Jc (P := fun u => Code.wp _ _ _ _ u) (c0 := Kc (zl fs)) (c1 := Kc Ku) ?_
 intro u HB r0 r1 zn0 zn1 hsz
 clear hsz
 go_wp2_with (first | refine wpList_load_mid (by rfl) _ _ (by rfl) w.heap.size 0 (by rfl) (Kc (zl fs)) _ r0 hU32 row32 hi.out ?_ | fail)
 refine (HVa.out u HB).mono ?_
 rintro e v1 ⟨rfl, hv1⟩
 have r0 := Ke r0 hv1
 have r1 := Ke r1 hv1
 have zn0 := zn0.below hv1
 have zn1 := zn1.below hv1
 have HB := Kb HB hv1
 clear HVa hv1
 cases hva : nrmB fs
 ·have HR : Hid (P = (List.replicate 16 0, 1)) := by unfold Hid; rw [← hQ.out]; unfold crnB; rw [hva]; rfl
  clear hQ HP1 HW HAp0 r0 zn0
  have ht := Kq r1 zn1
  have hi32 := T43i
  have ho := all_oneCell_toArray (Km Ku)
  obtain ⟨G1, G2, G3, G4⟩ := Ju (w := w) (l := Ku) (cs := Ku) T29u (by rfl) T43i HB (by omega) r1 zn1 rfl (fun e he => by rw [List.eq_of_mem_replicate he]; exact ZE.zero_ok _)
  have HF := hid (And.intro G3 G4)
  clear G1 G3 G4 r1 zn1 HB
  go_wp2_with (first | refine wpList_store_mid (by rfl) _ _ _ (by rfl) (w.heap.size + 1) 0 (Kc Ku).toArray (by rfl) (by rfl) ht hi32 ho ?_ | fail)
  refine bodyPost_ret (v := .tuple #[.agg (Kc Ku).toArray, .int .i64 (1)]) ?_ rfl ?_
  ·simp [results, Tryz.results18, Sem.run_bind, asAddr, G2]
  ·rw [HR.out]
   exact ⟨Ku, rfl, rfl, rfl, HF.out.2, HF.out.1⟩
 ·have HAp0 := hid (HAp0.out hva)
  go_wp2_with fail
  refine (HP1.out v1).mono ?_
  rintro e v2 ⟨rfl, hv2⟩
  have r0 := Ke r0 hv2
  have r1 := Ke r1 hv2
  have zn0 := zn0.below hv2
  have zn1 := zn1.below hv2
  have HB := Kb HB hv2
  clear HP1 hv2
  cases hs : J9 cols rows
  ·have HR : Hid (P = (List.replicate 16 0, 23)) := by unfold Hid; rw [← hQ.out]; unfold crnB; rw [hva, hs]; rfl
   clear hQ HW HAp0 r0 zn0
   have ht := Kq r1 zn1
   have hi32 := T43i
   have ho := all_oneCell_toArray (Km Ku)
   obtain ⟨G1, G2, G3, G4⟩ := Ju (w := w) (l := Ku) (cs := Ku) T29u (by rfl) T43i HB (by omega) r1 zn1 rfl (fun e he => by rw [List.eq_of_mem_replicate he]; exact ZE.zero_ok _)
   have HF := hid (And.intro G3 G4)
   clear G1 G3 G4 r1 zn1 HB
   go_wp2_with (first | refine wpList_store_mid (by rfl) _ _ _ (by rfl) (w.heap.size + 1) 0 (Kc Ku).toArray (by rfl) (by rfl) ht hi32 ho ?_ | fail)
   refine bodyPost_ret (v := .tuple #[.agg (Kc Ku).toArray, .int .i64 (23)]) ?_ rfl ?_
   ·simp [results, Tryz.results18, Sem.run_bind, asAddr, G2]
   ·rw [HR.out]
    exact ⟨Ku, rfl, rfl, rfl, HF.out.2, HF.out.1⟩
  ·obtain ⟨a1, a2, a3, a4, _⟩ := Jj.1 hs
   have hQ0 := hid fun (p : Int × Int) (hp : p ∈ crns cols rows) (h : (ptN (nrmZ fs) p).2 ≠ 0) => (show P = (List.replicate 16 0, 24) by rw [← hQ.out]; unfold crnB; rw [hva, hs]; exact crnE_no hp h)
   have hQ1 := hid fun (h : ∀ p ∈ crns cols rows, (ptN (nrmZ fs) p).2 = 0) => (show P = (crnT (nrmZ fs) cols rows, 0) by rw [← hQ.out]; unfold crnB; rw [hva, hs]; exact crnE_yes h)
   have hbd : ∀ p ∈ crns cols rows, (0 ≤ p.1 ∧ p.1 ≤ 4096) ∧ (0 ≤ p.2 ∧ p.2 ≤ 4096) := by
    intro p hp
    unfold crns at hp
    simp only [List.mem_cons, List.not_mem_nil, or_false] at hp
    rcases hp with rfl | rfl | rfl | rfl <;> exact ⟨⟨by dsimp only; omega, by dsimp only; omega⟩, ⟨by dsimp only; omega, by dsimp only; omega⟩⟩
   have hbd := hid hbd
   have hTl := crnT_len hN9 cols rows
   have hTa := hid fun (j : Nat) (hj : j < (crns cols rows).length) => crnT_at hN9 cols rows hj
   clear a1 a2 a3 a4 hs hva hQ
   generalize nrmZ fs = N at *
   have hl2 := zn1.lt
   go_upto_region 6 with fail
   refine Kw (P := fun u => Code.wp _ _ _ _ u) (c := Kc Ku) ?_
   intro v3 hv3 rl zl_ hsz
   have r0 := Ke r0 hv3
   have r1 := Ke r1 hv3
   have zn0 := zn0.below hv3
   have zn1 := zn1.below hv3
   have HBv := Kb HB hv3
   have hF : Fil w [(w.heap.size, Kc (zl fs)), (w.heap.size + 1, Kc Ku)] v2.heap.size (sofar (crnT N cols rows) (4 * 0)) v3 := by
    refine ⟨HBv, fun p hp => ?_, zl_, by omega, Ku, rl, fun e he => by rw [List.eq_of_mem_replicate he]; exact ZE.zero_ok _, ?_⟩
    ·simp only [List.mem_cons, List.not_mem_nil, or_false] at hp
     rcases hp with rfl | rfl
     ·exact ⟨r0, zn0, by dsimp only; omega⟩
     ·exact ⟨r1, zn1, by dsimp only; omega⟩
    ·rw [Nat.mul_zero, Zd, hTl]; rfl
   obtain ⟨gl, hgl⟩ : ∃ g, g = v2.heap.size := ⟨_, rfl⟩
   rw [← hgl] at hF hl2 ⊢
   clear hgl r0 r1 zn0 zn1 HBv HB hv3 rl zl_ hsz
   have HIx := hid fun (W : World) (j : Nat) (hj : j < (crns cols rows).length) => Hs W cols rows j hj
   go_wp2
   go_loopw [31] (fun s31 wr => ∃ j : Nat, j ≤ 4 ∧ s31 = .int .i64 j ∧ Fil w [(w.heap.size, Kc (zl fs)), (w.heap.size + 1, Kc Ku)] gl (sofar (crnT N cols rows) (4 * j)) wr ∧ Hid (∀ i (h : i < (crns cols rows).length), i < j → (ptN N (crns cols rows)[i]).2 = 0)) (fun s31 _ => 4 - (intOf s31).toNat)
   case atStart => exact ⟨0, by omega, rfl, hF, fun i _ h => absurd h (by omega)⟩
   case round =>
    clear hF
    obtain ⟨j, hj, rfl, hF, hI⟩ := hrel
    obtain ⟨r0, zn0, ne0⟩ := hF.k (w.heap.size, Kc (zl fs)) (by simp)
    obtain ⟨r1, zn1, ne1⟩ := hF.k (w.heap.size + 1, Kc Ku) (by simp)
    dsimp only at r0 zn0 ne0 r1 zn1 ne1
    have HB := hF.b
    by_cases h4 : j < 4
    ·have h4i : (j : Int) < 4 := by omega
     have hjc : j < (crns cols rows).length := h4
     have hix := HIx.out wr j hjc
     have hp := hbd.out (crns cols rows)[j] (List.getElem_mem hjc)
     have hqa := hTa.out j hjc
     have hq0 := hid (hQ0.out (crns cols rows)[j] (List.getElem_mem hjc))
     have hin := hid fun (h : (ptN N (crns cols rows)[j]).2 = 0) => (show ∀ i (h : i < (crns cols rows).length), i < j + 1 → (ptN N (crns cols rows)[i]).2 = 0 from fun i h1 h2 => by
      rcases Nat.lt_or_ge i j with h3 | h3
      ·exact hI.out i h1 h3
      ·obtain rfl : i = j := by omega
       exact h)
     generalize (crns cols rows)[j] = p at *
     obtain ⟨px, py⟩ := p
     obtain ⟨hpx, hpy⟩ := hp
     dsimp only at hix hpx hpy
     have hpx : -9223372036854775808 ≤ px ∧ px ≤ 9223372036854775807 := by omega
     have hpy : -9223372036854775808 ≤ py ∧ py ≤ 9223372036854775807 := by omega
     have HAp1 := hid fun (e0 e1 e2 e3 : ZE) (z0 : e0.z = px) (z1 : e1.z = 1) (z2 : e2.z = py) (z3 : e3.z = 1) (W : World) (h : Below wr.heap.size wr W) (o0 : e0.ok W) (o1 : e1.ok W) (o2 : e2.ok W) (o3 : e3.ok W) => HAp0.out px py (Xb hpx) (Xb hpy) e0 e1 e2 e3 z0 z1 z2 z3 W (Kb HB h) o0 o1 o2 o3
     obtain ⟨⟨zz, ze⟩, hz⟩ : ∃ z, ptN N (px, py) = z := ⟨_, rfl⟩
     rw [hz] at HAp1 hq0 hin hqa
     have hzl : zz.length = 4 := by rw [show zz = (ptN N (px, py)).1 by rw [hz]]; exact Yr hN9 _
     have hno : ze ≠ 0 → ze = 24 := fun h => by
      have := ptN_no (N := N) (p := (px, py)) (by rw [hz]; exact h)
      rwa [hz] at this
     have hqa := hid hqa
     have hF := hid hF
     have hno := hid hno
     clear hz
     go_upto_region 9 with fail
     clear hix
     refine Qh (P := fun u => Code.wp _ _ _ _ u) ?_
     intro v4 hv4 g0 g1 zp hsz
     have HAp := hid fun (e0 e1 e2 e3 : ZE) (z0 : e0.z = px) (z1 : e1.z = 1) (z2 : e2.z = py) (z3 : e3.z = 1) (W : World) (h : Below v4.heap.size v4 W) (o0 : e0.ok W) (o1 : e1.ok W) (o2 : e2.ok W) (o3 : e3.ok W) => HAp1.out e0 e1 e2 e3 z0 z1 z2 z3 W (Kb hv4 h) o0 o1 o2 o3
     have r0 := hid (Ke r0 hv4)
     have hgw : wr.heap.size < v4.heap.size := zp.lt
     clear HAp1 zp hsz r1 zn1 zn0 HB
     go_cut [11, 12] (fun s11 s12 wx => s12 = .int .i64 ze ∧ ∃ (g : Nat) (rp : List Rf), s11 = .pointer (some ⟨g, 0, none⟩) ∧ rp.length = 2 ∧ (zl rp).map (·.z) = zz ∧ BlkR v4 g rp wx)
     case first =>
      have qc : Below v4.heap.size v4 v4.drew := Qj
      refine wp_region_held_drew (S := fun w' => w'.cell? ⟨wr.heap.size, 0, none⟩ = some (.int .i64 px) ∧ w'.cell? ⟨wr.heap.size, 1, none⟩ = some (.int .i64 py) ∧ Below v4.heap.size v4 w') (by kernel_rfl) ?_ (fun hHeld => ?_)
      ·exact ⟨g0, g1, Qj⟩
      refine tk (i := 0) rfl (by decide +kernel) (yieldsIf_load_mid (by rfl) _ _ (by rfl) (w.heap.size) (0) (by rfl) (Kc (zl fs)) _ (fun w_ hS_ => Ke r0.out hS_.2.2) hU32 (by first | rfl | assumption) hi.out) (by assumption) (fun _ _ _ h => h) ?_
      (try simp only [Act.put, Lp0, Lp1, Lp2])
      refine' TKa 1 ?_
      refine' TKa 2 ?_
      refine' TKa 4 ?_
      refine' TKa 5 ?_
      refine br2 (i := 3) (j := 12) (by decide +kernel) rfl rfl (fun K hK => ?_) (fun K hK => ?_)
      ·go_simp
       (go_at_call 44; refine (HW.out px hpx _).mono ?_; rintro e a1 ⟨e0, e1, rfl, z0, z1, o0, o1, hq_⟩; (try simp only [Kc, ZE.cells, List.cons_append, List.nil_append]); have qc := Kb qc hq_; (try have ra := Ke ra hq_); (try have za := za.below hq_))
       (try go_wp2_with fail)
       refine' HKa hK (by exact ⟨Ka qc g0, Ka qc g1, qc⟩) (fun hHeld => ?_)
       clear hK K
       refine br2 (i := 6) (j := 12) (by decide +kernel) rfl rfl (fun K hK => ?_) (fun K hK => ?_)
       ·go_simp
        (go_at_call 44; refine (HW.out py hpy _).mono ?_; rintro e a2 ⟨e2, e3, rfl, z2, z3, o2, o3, hq_⟩; (try simp only [Kc, ZE.cells, List.cons_append, List.nil_append]); have qc := Kb qc hq_; have o0 := o0.below hq_; have o1 := o1.below hq_; (try have ra := Ke ra hq_); (try have za := za.below hq_))
        (try go_wp2_with fail)
        refine' HKa hK (by exact ⟨Ka qc g0, Ka qc g1, qc⟩) (fun hHeld => ?_)
        clear hK K
        refine' TKa 7 ?_
        refine br2 (i := 8) (j := 12) (by decide +kernel) rfl rfl (fun K hK => ?_) (fun K hK => ?_)
        ·go_simp
         (go_at_call 43; refine (HAp.out e0 e1 e2 e3 z0 z1 z2 z3 _ qc o0 o1 o2 o3).mono ?_; rintro e a3 ⟨rP, h2P, rfl, hzP, okP, mgP, hq_⟩; have qc := Kb qc hq_; (try have ra := Ke ra hq_); (try have za := za.below hq_))
         (try go_wp2_with fail)
         refine' HKa hK (by exact ⟨Ka qc g0, Ka qc g1, qc⟩) (fun hHeld => ?_)
         clear hK K
         refine' TKa 9 ?_
         refine' TKa 10 ?_
         refine' TKa 11 ?_
         refine BRa 12 (fun K hK => ?_)
         have hal_ := (Below.refl (a3).heap.size (a3)).alloc (Nat.le_refl _) (.cells (Kc Kt).toArray 42)
         have hgv := qc.size
         have qc := Kb qc hal_
         have ra : ((a3).alloc (.cells (Kc Kt).toArray 42)).rangeAt (a3).heap.size 0 (Kc Kt) := K4
         have za : Zn ((a3).alloc (.cells (Kc Kt).toArray 42)) (a3).heap.size := Zn.new_
         (try have o0 := o0.below hal_)
         (try have o1 := o1.below hal_)
         (try have o2 := o2.below hal_)
         (try have o3 := o3.below hal_)
         (try have okP := fun e he => (okP e he).below hal_)
         go_simp
         skip
         (try go_wp2_with fail)
         refine' HKa hK (by exact ⟨Ka qc g0, Ka qc g1, qc⟩) (fun hHeld => ?_)
         clear hK K
         have hne : a3.heap.size ≠ wr.heap.size := by first | omega | (have h_ : v4.heap.size ≤ a3.heap.size := hgv; omega)
         have hgv : v4.heap.size ≤ a3.heap.size := hgv
         have h8P : (Kc (zl rP)).length = 8 := by rw [Kf, Ky, h2P]
         have hi8 : (Tryz.prog.info? 42).map (·.size) = some (Kc (zl rP)).toArray.size := by rw [List.size_toArray, h8P]; exact T28i
         have ht8 := Kq ra za
         rw [show (Kc Kt).length = (Kc (zl rP)).toArray.size by rw [List.size_toArray, h8P]; rfl] at ht8
         refine BRa 13 (fun K hK => ?_)
         rw [if_pos (by rfl)]
         refine wp_store_mid _ _ _ rfl (a3.heap.size) 0 (Kc (zl rP)).toArray rfl rfl ht8 hi8 (all_oneCell_toArray (Km _)) ?_
         refine' HKa hK (by (exact ⟨Kp hne (Ka qc g0), Kp hne (Ka qc g1), J4 hgv _ _ _ qc⟩)) (fun hHeld => ?_)
         clear hK K
         refine' TKa 14 ?_
         refine wpAnyH_done (by kernel_rfl) ?_ _
         go_wp2_with fail
         go_meet
         exact ⟨rfl, _, rP, rfl, h2P, hzP, BlkR.set (cs := Kt) ra za qc hgv (by rw [Ky, h2P]; rfl) okP⟩
        ·have hal_ := (Below.refl (a2).heap.size (a2)).alloc (Nat.le_refl _) (.cells (Kc Kt).toArray 42)
         have hgv := qc.size
         have qc := Kb qc hal_
         have ra : ((a2).alloc (.cells (Kc Kt).toArray 42)).rangeAt (a2).heap.size 0 (Kc Kt) := K4
         have za : Zn ((a2).alloc (.cells (Kc Kt).toArray 42)) (a2).heap.size := Zn.new_
         (try have o0 := o0.below hal_)
         (try have o1 := o1.below hal_)
         (try have o2 := o2.below hal_)
         (try have o3 := o3.below hal_)
         (try have okP := fun e he => (okP e he).below hal_)
         go_simp
         skip
         (try go_wp2_with fail)
         refine' HKa hK (by exact ⟨Ka qc g0, Ka qc g1, qc⟩) (fun hHeld => ?_)
         clear hK K
         refine BRa 8 (fun K hK => ?_)
         go_simp
         (go_at_call 43; refine (HAp.out e0 e1 e2 e3 z0 z1 z2 z3 _ qc o0 o1 o2 o3).mono ?_; rintro e a3 ⟨rP, h2P, rfl, hzP, okP, mgP, hq_⟩; have qc := Kb qc hq_; (try have ra := Ke ra hq_); (try have za := za.below hq_))
         (try go_wp2_with fail)
         refine' HKa hK (by exact ⟨Ka qc g0, Ka qc g1, qc⟩) (fun hHeld => ?_)
         clear hK K
         refine' TKa 9 ?_
         refine' TKa 10 ?_
         refine' TKa 11 ?_
         have hne : a2.heap.size ≠ wr.heap.size := by first | omega | (have h_ : v4.heap.size ≤ a2.heap.size := hgv; omega)
         have hgv : v4.heap.size ≤ a2.heap.size := hgv
         have h8P : (Kc (zl rP)).length = 8 := by rw [Kf, Ky, h2P]
         have hi8 : (Tryz.prog.info? 42).map (·.size) = some (Kc (zl rP)).toArray.size := by rw [List.size_toArray, h8P]; exact T28i
         have ht8 := Kq ra za
         rw [show (Kc Kt).length = (Kc (zl rP)).toArray.size by rw [List.size_toArray, h8P]; rfl] at ht8
         refine BRa 13 (fun K hK => ?_)
         rw [if_pos (by rfl)]
         refine wp_store_mid _ _ _ rfl (a2.heap.size) 0 (Kc (zl rP)).toArray rfl rfl ht8 hi8 (all_oneCell_toArray (Km _)) ?_
         refine' HKa hK (by (exact ⟨Kp hne (Ka qc g0), Kp hne (Ka qc g1), J4 hgv _ _ _ qc⟩)) (fun hHeld => ?_)
         clear hK K
         refine' TKa 14 ?_
         refine wpAnyH_done (by kernel_rfl) ?_ _
         go_wp2_with fail
         go_meet
         exact ⟨rfl, _, rP, rfl, h2P, hzP, BlkR.set (cs := Kt) ra za qc hgv (by rw [Ky, h2P]; rfl) okP⟩
       ·have hal_ := (Below.refl (a1).heap.size (a1)).alloc (Nat.le_refl _) (.cells (Kc Kt).toArray 42)
        have hgv := qc.size
        have qc := Kb qc hal_
        have ra : ((a1).alloc (.cells (Kc Kt).toArray 42)).rangeAt (a1).heap.size 0 (Kc Kt) := K4
        have za : Zn ((a1).alloc (.cells (Kc Kt).toArray 42)) (a1).heap.size := Zn.new_
        (try have o0 := o0.below hal_)
        (try have o1 := o1.below hal_)
        (try have o2 := o2.below hal_)
        (try have o3 := o3.below hal_)
        (try have okP := fun e he => (okP e he).below hal_)
        go_simp
        skip
        (try go_wp2_with fail)
        refine' HKa hK (by exact ⟨Ka qc g0, Ka qc g1, qc⟩) (fun hHeld => ?_)
        clear hK K
        refine BRa 6 (fun K hK => ?_)
        go_simp
        (go_at_call 44; refine (HW.out py hpy _).mono ?_; rintro e a2 ⟨e2, e3, rfl, z2, z3, o2, o3, hq_⟩; (try simp only [Kc, ZE.cells, List.cons_append, List.nil_append]); have qc := Kb qc hq_; have o0 := o0.below hq_; have o1 := o1.below hq_; (try have ra := Ke ra hq_); (try have za := za.below hq_))
        (try go_wp2_with fail)
        refine' HKa hK (by exact ⟨Ka qc g0, Ka qc g1, qc⟩) (fun hHeld => ?_)
        clear hK K
        refine' TKa 7 ?_
        refine BRa 8 (fun K hK => ?_)
        go_simp
        (go_at_call 43; refine (HAp.out e0 e1 e2 e3 z0 z1 z2 z3 _ qc o0 o1 o2 o3).mono ?_; rintro e a3 ⟨rP, h2P, rfl, hzP, okP, mgP, hq_⟩; have qc := Kb qc hq_; (try have ra := Ke ra hq_); (try have za := za.below hq_))
        (try go_wp2_with fail)
        refine' HKa hK (by exact ⟨Ka qc g0, Ka qc g1, qc⟩) (fun hHeld => ?_)
        clear hK K
        refine' TKa 9 ?_
        refine' TKa 10 ?_
        refine' TKa 11 ?_
        have hne : a1.heap.size ≠ wr.heap.size := by first | omega | (have h_ : v4.heap.size ≤ a1.heap.size := hgv; omega)
        have hgv : v4.heap.size ≤ a1.heap.size := hgv
        have h8P : (Kc (zl rP)).length = 8 := by rw [Kf, Ky, h2P]
        have hi8 : (Tryz.prog.info? 42).map (·.size) = some (Kc (zl rP)).toArray.size := by rw [List.size_toArray, h8P]; exact T28i
        have ht8 := Kq ra za
        rw [show (Kc Kt).length = (Kc (zl rP)).toArray.size by rw [List.size_toArray, h8P]; rfl] at ht8
        refine BRa 13 (fun K hK => ?_)
        rw [if_pos (by rfl)]
        refine wp_store_mid _ _ _ rfl (a1.heap.size) 0 (Kc (zl rP)).toArray rfl rfl ht8 hi8 (all_oneCell_toArray (Km _)) ?_
        refine' HKa hK (by (exact ⟨Kp hne (Ka qc g0), Kp hne (Ka qc g1), J4 hgv _ _ _ qc⟩)) (fun hHeld => ?_)
        clear hK K
        refine' TKa 14 ?_
        refine wpAnyH_done (by kernel_rfl) ?_ _
        go_wp2_with fail
        go_meet
        exact ⟨rfl, _, rP, rfl, h2P, hzP, BlkR.set (cs := Kt) ra za qc hgv (by rw [Ky, h2P]; rfl) okP⟩
      ·have hal_ := (Below.refl (v4.drew).heap.size (v4.drew)).alloc (Nat.le_refl _) (.cells (Kc Kt).toArray 42)
       have hgv := qc.size
       have qc := Kb qc hal_
       have ra : ((v4.drew).alloc (.cells (Kc Kt).toArray 42)).rangeAt (v4.drew).heap.size 0 (Kc Kt) := K4
       have za : Zn ((v4.drew).alloc (.cells (Kc Kt).toArray 42)) (v4.drew).heap.size := Zn.new_
       (try have o0 := o0.below hal_)
       (try have o1 := o1.below hal_)
       (try have o2 := o2.below hal_)
       (try have o3 := o3.below hal_)
       (try have okP := fun e he => (okP e he).below hal_)
       go_simp
       skip
       (try go_wp2_with fail)
       refine' HKa hK (by exact ⟨Ka qc g0, Ka qc g1, qc⟩) (fun hHeld => ?_)
       clear hK K
       refine BRa 3 (fun K hK => ?_)
       go_simp
       (go_at_call 44; refine (HW.out px hpx _).mono ?_; rintro e a1 ⟨e0, e1, rfl, z0, z1, o0, o1, hq_⟩; (try simp only [Kc, ZE.cells, List.cons_append, List.nil_append]); have qc := Kb qc hq_; (try have ra := Ke ra hq_); (try have za := za.below hq_))
       (try go_wp2_with fail)
       refine' HKa hK (by exact ⟨Ka qc g0, Ka qc g1, qc⟩) (fun hHeld => ?_)
       clear hK K
       refine BRa 6 (fun K hK => ?_)
       go_simp
       (go_at_call 44; refine (HW.out py hpy _).mono ?_; rintro e a2 ⟨e2, e3, rfl, z2, z3, o2, o3, hq_⟩; (try simp only [Kc, ZE.cells, List.cons_append, List.nil_append]); have qc := Kb qc hq_; have o0 := o0.below hq_; have o1 := o1.below hq_; (try have ra := Ke ra hq_); (try have za := za.below hq_))
       (try go_wp2_with fail)
       refine' HKa hK (by exact ⟨Ka qc g0, Ka qc g1, qc⟩) (fun hHeld => ?_)
       clear hK K
       refine' TKa 7 ?_
       refine BRa 8 (fun K hK => ?_)
       go_simp
       (go_at_call 43; refine (HAp.out e0 e1 e2 e3 z0 z1 z2 z3 _ qc o0 o1 o2 o3).mono ?_; rintro e a3 ⟨rP, h2P, rfl, hzP, okP, mgP, hq_⟩; have qc := Kb qc hq_; (try have ra := Ke ra hq_); (try have za := za.below hq_))
       (try go_wp2_with fail)
       refine' HKa hK (by exact ⟨Ka qc g0, Ka qc g1, qc⟩) (fun hHeld => ?_)
       clear hK K
       refine' TKa 9 ?_
       refine' TKa 10 ?_
       refine' TKa 11 ?_
       have hne : v4.heap.size ≠ wr.heap.size := by first | omega | (have h_ : v4.heap.size ≤ v4.heap.size := hgv; omega)
       have hgv : v4.heap.size ≤ v4.heap.size := hgv
       have h8P : (Kc (zl rP)).length = 8 := by rw [Kf, Ky, h2P]
       have hi8 : (Tryz.prog.info? 42).map (·.size) = some (Kc (zl rP)).toArray.size := by rw [List.size_toArray, h8P]; exact T28i
       have ht8 := Kq ra za
       rw [show (Kc Kt).length = (Kc (zl rP)).toArray.size by rw [List.size_toArray, h8P]; rfl] at ht8
       refine BRa 13 (fun K hK => ?_)
       rw [if_pos (by rfl)]
       refine wp_store_mid _ _ _ rfl (v4.heap.size) 0 (Kc (zl rP)).toArray rfl rfl ht8 hi8 (all_oneCell_toArray (Km _)) ?_
       refine' HKa hK (by (exact ⟨Kp hne (Ka qc g0), Kp hne (Ka qc g1), J4 hgv _ _ _ qc⟩)) (fun hHeld => ?_)
       clear hK K
       refine' TKa 14 ?_
       refine wpAnyH_done (by kernel_rfl) ?_ _
       go_wp2_with fail
       go_meet
       exact ⟨rfl, _, rP, rfl, h2P, hzP, BlkR.set (cs := Kt) ra za qc hgv (by rw [Ky, h2P]; rfl) okP⟩
     case rest =>
      obtain ⟨rfl, gp, rp, rfl, h2p, hzp, kb⟩ := hcut
      have hb4 := Kb hv4 kb.b
      clear g0 g1 r0
      by_cases he : ze = 0
      ·subst he
       have hF := hF.out.below hb4
       have hI' := hid (hin.out rfl)
       have h8p : (Kc (zl rp)).length = 8 := by rw [Kf, Ky, h2p]
       have hi8 := hid (show (Tryz.prog.info? 42).map (·.size) = some (Kc (zl rp)).length by rw [h8p]; exact T28i)
       have hi8' := hid (show (Tryz.prog.info? 42).map (·.size) = some (Kc (zl rp)).toArray.size by rw [List.size_toArray, h8p]; exact T28i)
       have h16 : 4 * j + 4 ≤ (sofar (crnT N cols rows) (4 * j)).length := by rw [Xp _ _ (by rw [hTl]; omega), hTl]; omega
       obtain ⟨hth, hF5⟩ := hF.put4 h16 (l4 := zl rp) (by rw [Ky, h2p]) kb.ok
       rw [hzp, Gt (by rw [hTl]; omega) hqa.out] at hF5
       have hF5 := hid hF5
       have hth : wc.there gl (j * 8) (Kc (zl rp)).toArray.size := by rw [List.size_toArray, h8p]; exact hth
       have ho8 := all_oneCell_toArray (Km (zl rp))
       have rP := kb.r
       obtain ⟨d28, hU28, row28⟩ := T28u
       clear hF h8p hin hq0 hno hI h16
       go_wp2_with (first | refine wpList_load_mid (by rfl) _ _ (by rfl) gp 0 (by rfl) (Kc (zl rp)) _ rP hU28 row28 hi8.out ?_ | refine wpList_store_mid (by rfl) _ _ _ (by rfl) gl (j * 8) (Kc (zl rp)).toArray (by rfl) (by rfl) hth hi8'.out ho8 ?_ | fail)
       go_roundw
       case rel => exact ⟨j + 1, by omega, by go_num, hF5.out, hI'⟩
       case measure => simp [intOf]; omega
      ·have HR := hid (hq0.out he)
       obtain rfl := hno.out he
       have hF := hF.out.below hb4
       obtain ⟨r1, zn1, ne1⟩ := hF.k (w.heap.size + 1, Kc Ku) (by simp)
       dsimp only at r1 zn1 ne1
       have HB := hF.b
       clear hin hq0 hno hI hqa hF kb
       have ht := Kq r1 zn1
       have hi32 := T43i
       have ho := all_oneCell_toArray (Km Ku)
       obtain ⟨G1, G2, G3, G4⟩ := Ju (w := w) (l := Ku) (cs := Ku) T29u (by rfl) T43i HB (by omega) r1 zn1 rfl (fun e he => by rw [List.eq_of_mem_replicate he]; exact ZE.zero_ok _)
       have HF := hid (And.intro G3 G4)
       clear G1 G3 G4 r1 zn1 HB
       go_wp2_with (first | refine wpList_store_mid (by rfl) _ _ _ (by rfl) (w.heap.size + 1) 0 (Kc Ku).toArray (by rfl) (by rfl) ht hi32 ho ?_ | fail)
       refine bodyPost_ret (v := .tuple #[.agg (Kc Ku).toArray, .int .i64 (24)]) ?_ rfl ?_
       ·simp [results, Tryz.results18, Sem.run_bind, asAddr, G2]
       ·rw [HR.out]
        exact ⟨Ku, rfl, rfl, rfl, HF.out.2, HF.out.1⟩
    ·obtain rfl : j = 4 := by omega
     have HR := hid (hQ1.out fun p hp => by
      obtain ⟨i, hi, rfl⟩ := List.getElem_of_mem hp
      exact hI.out i hi hi)
     obtain ⟨lm, e2, e3, e4⟩ := hF.ex
     rw [show sofar (crnT N cols rows) (4 * 4) = crnT N cols rows by rw [← hTl.trans (show 16 = 4 * 4 from rfl), Wn]] at e4
     have hl16 : lm.length = 16 := by rw [← List.length_map (·.z), e4, hTl]
     have hi32 := hid (show (Tryz.prog.info? 43).map (·.size) = some (Kc lm).length by rw [Kf, hl16]; exact T43i)
     have hi32' := hid (show (Tryz.prog.info? 43).map (·.size) = some (Kc lm).toArray.size by rw [List.size_toArray]; exact hi32.out)
     have ht := Kq r1 zn1
     rw [show (Kc Ku).length = (Kc lm).toArray.size by rw [List.size_toArray, Kf, Kf, hl16]; rfl] at ht
     have ho := all_oneCell_toArray (Km lm)
     obtain ⟨G1, G2, G3, G4⟩ := Ju (w := w) (l := lm) (cs := Ku) T29u (by rfl) hi32.out HB (by omega) r1 zn1 (by rw [hl16]; rfl) e3
     have HF := hid (And.intro (And.intro hl16 e4) (And.intro G3 G4))
     clear G1 G3 G4 e3 e4 hF hI hl16 HB r1 zn1 HIx HAp0 HW hbd hTl hTa hQ0 hQ1
     go_wp2_with (first | refine wpList_load_mid (by rfl) _ _ (by rfl) gl 0 (by rfl) (Kc lm) _ e2 T29u (by rfl) hi32.out ?_ | refine wpList_store_mid (by rfl) _ _ _ (by rfl) (w.heap.size + 1) 0 (Kc lm).toArray (by rfl) (by rfl) ht hi32'.out ho ?_ | fail)
     refine bodyPost_ret (v := .tuple #[.agg (Kc lm).toArray, .int .i64 0]) ?_ rfl ?_
     ·simp [results, Tryz.results18, Sem.run_bind, asAddr, G2]
     ·rw [HR.out]
      exact ⟨lm, HF.out.1.1, rfl, HF.out.1.2, HF.out.2.2, HF.out.2.1⟩
end Go.Proofs.YtdkgbkbbbldliaaGreat
