/- Homographies, the reference: walk of entries. Conditions: none. -/
import Derived.Test.YtdkgbkbbbldliaaGreatZXC
import Derived.Test.YtdkgbkbbbldliaaGreatZYZ
import Derived.Test.YtdkgbkbbbldliaaGreatZXG
import Derived.Test.YtdkgbkbbbldliaaGreatZYU
set_option linter.unusedVariables false
set_option linter.unusedSimpArgs false
namespace Go.Proofs.YtdkgbkbbbldliaaGreat
open Go.RowKit Big
theorem nrmB_v {fs : List Rf} {f : Rf} (h : f ∈ fs) (hv : f.v = false) : nrmB fs = false := by
 unfold nrmB
 rw [decide_eq_false fun hc => by rw [(J8 hc).1 f h] at hv; simp at hv]
 rfl
theorem nrmB_s {fs : List Rf} {f : Rf} (h : f ∈ fs) (hs : ¬ f.sz ≤ 40) : nrmB fs = false := by
 unfold nrmB
 rw [decide_eq_false fun hc => hs ((J8 hc).2 f h)]
 rfl
theorem chk_take {fs : List Rf} {j : Nat} (hj : j < fs.length) (h : chkZ 40 (fs.take j) = 0) (hv : fs[j].v = true) (hs : fs[j].sz ≤ 40) : chkZ 40 (fs.take (j + 1)) = 0 := by
 rw [List.take_succ_eq_append_getElem hj, chk_app]
 refine ⟨h, ?_⟩
 unfold chkZ
 simp [hv, hs]
set_option maxRecDepth 100000 in
set_option maxHeartbeats 16000000 in
theorem Zp (fs : List Rf) (h9 : fs.length = 9) {w : World} (hm : ∀ f ∈ fs, f.mg w) :
  Calls Tryz.prog 63 #[.agg (Kc (zl fs)).toArray] w (Hk w (nrmB fs) (nrmZ fs)) := by
 have hl : (zl fs).length = 18 := by rw [Ky, h9]
 have hi18 := hid (show (Tryz.prog.info? 94).map (·.size) = some 18 by kernel_rfl)
 have HM := hid fun (w1 : World) (h : Below w.heap.size w w1) f hf => (hm f hf).below h
 obtain ⟨I1b, I1n, I1L, I1⟩ := iz 1
 have HFI := hid fun (w1 : World) => Xi (w := w1) I1.out (by omega) (by omega)
 clear hm
 go_enter Tryz.func63, Tryz.ntmps63
 go_upto_region 1 with fail
 refine Jc (P := fun u => Code.wp _ _ _ _ u) ?_
 intro u HB r0 r1 zn0 zn1 hsz
 have r1 : u.rangeAt (w.heap.size + 1) 0 (Kc Kx) := r1
 have hlt1 := zn1.lt
 go_wp2_with fail
 refine (HFI.out _).mono ?_
 rintro e w1 ⟨R1, d1, rfl, m1, h1⟩
 have hlt2 : w.heap.size + 1 < w1.heap.size := Nat.lt_of_lt_of_le hlt1 h1.size
 go_upto_region 2 with fail
 refine Qh (P := fun u => Code.wp _ _ _ _ u) ?_
 intro v hv q0 q1 zq hsz2
 have hRJ : RJ w (zl fs) w1.heap.size ((comZ ((fs.map Rf.f).take 0) : Nat) : Int) v := ⟨Kb HB (Kb h1 hv), Ke r0 (Kb h1 hv), Ke r1 (Kb h1 hv), zn1.below (Kb h1 hv), ⟨⟨1, I1b, I1n, I1L, R1, d1⟩, by simp [comZ], ⟨I1.out, m1.below hv⟩, q0, q1⟩, zq, hlt2⟩
 clear hsz hsz2 q0 q1 zq m1 r0 r1 zn0 zn1 HB h1 hv hlt1 hlt2 HFI I1
 obtain ⟨gc, hgc⟩ : ∃ gc, gc = w1.heap.size := ⟨_, rfl⟩
 rw [← hgc] at hRJ ⊢
 clear hgc
 go_wp2
 go_loopw [5] (fun s5 wr => ∃ j : Nat, j ≤ 9 ∧ s5 = .int .i64 j ∧ RJ w (zl fs) gc ((comZ ((fs.map Rf.f).take j) : Nat) : Int) wr ∧ Hid (chkZ 40 (fs.take j) = 0)) (fun s5 _ => 9 - (intOf s5).toNat)
 case atStart => exact ⟨0, by omega, rfl, hRJ, rfl⟩
 case round =>
  obtain ⟨j, hj, rfl, hS, hck⟩ := hrel
  clear hRJ
  by_cases h9j : j < 9
  ·have hj2 : j < fs.length := by omega
   have h9i : (j : Int) < 9 := by omega
   have hmu := HM.out wr hS.b
   have hat := rf_at hS.r0 hmu j hj2
   have hmem := List.getElem_mem hj2
   by_cases hv : fs[j].v = true
   ·by_cases hs : fs[j].sz ≤ 40
    ·have hck2 := hid (chk_take hj2 hck.out hv hs)
     have hbz := G7 (k := 1280) hck2.out (by omega) (fun f hf => hmu f (List.mem_of_mem_take hf))
     rw [List.map_take] at hbz
     have hq9 : (fs.map Rf.f).length = 9 := by simpa using h9
     have hjq : j < (fs.map Rf.f).length := by omega
     have hfj : (fs.map Rf.f)[j] = fs[j].f := by simp
     obtain ⟨gok, gz, _, _, _⟩ := Rf.good hv (hmu _ hmem)
     have hq : (⟨sg fs[j].nb (val fs[j].ys), fs[j].nb, fs[j].ys.length, fs[j].ys, fs[j].B, fs[j].cb⟩ : ZE).ok wr := gok _ (by simp [Rf.ze])
     have g4 : sg fs[j].nb (val fs[j].ys) = (fs[j].f.2 : Int) := by
      simp only [Rf.ze, List.map_cons, List.map_nil, List.cons.injEq, and_true] at gz
      exact gz.2
     have hcn := U8 (fs.map Rf.f) j hjq
     have hbt : ∀ f ∈ (fs.map Rf.f).take j, f ∈ (fs.map Rf.f).take (j + 1) := fun f hf => by rw [List.take_succ_eq_append_getElem hjq]; exact List.mem_append_left _ hf
     have hbC : Bz (1280 * 9 + 1) ((comZ ((fs.map Rf.f).take j) : Nat) : Int) := (Q9 (Hr 1280 _ fun f hf => (hbz f (hbt f hf)).1.2.2)).mono (by rw [List.length_take]; omega)
     have hbC' : Bz (1280 * 9 + 1) ((comZ ((fs.map Rf.f).take (j + 1)) : Nat) : Int) := (Q9 (Hr 1280 _ fun f hf => (hbz f hf).1.2.2)).mono (by rw [List.length_take]; omega)
     have hpC := Y4 ((fs.map Rf.f).take j) fun f hf => (hbz f (hbt f hf)).1.1
     have hmt : fs[j].f ∈ (fs.map Rf.f).take (j + 1) := by rw [List.take_succ_eq_append_getElem hjq, hfj]; simp
     have hpD := (hbz _ hmt).1.1
     have hbD := Q9 (hbz _ hmt).1.2.2
     rw [← g4] at hbD
     rw [hfj] at hcn
     clear hfj hmt hbt hbz hmem hmu gok gz hjq
     generalize hC1 : comZ ((fs.map Rf.f).take (j + 1)) = C1 at *
     generalize comZ ((fs.map Rf.f).take j) = C at *
     generalize fs[j] = f at *
     obtain ⟨na, A, xs, ca, nb, B, ys, cb⟩ := f
     obtain ⟨x0, x1, x2, x3, mx1, mx2⟩ := hat
     dsimp only [Rf.f, Rf.v, Rf.sz] at *
     generalize val ys = D at *
     have hG0 : 0 < Nat.gcd C D := Nat.gcd_pos_of_pos_left _ hpC
     have hGd := Nat.gcd_dvd_right C D
     have hGb : Bz 1280 ((Nat.gcd C D : Nat) : Int) := by
      have := Nat.le_of_dvd hpD hGd
      unfold Bz at hbD ⊢
      rw [g4, Int.natAbs_natCast] at hbD
      rw [Int.natAbs_natCast]
      omega
     have hQb : Bz 1280 ((D / Nat.gcd C D : Nat) : Int) := by
      have := Nat.div_le_self D (Nat.gcd C D)
      unfold Bz at hbD ⊢
      rw [g4, Int.natAbs_natCast] at hbD
      rw [Int.natAbs_natCast]
      omega
     obtain ⟨ed, hd1, hd2, k0, k1⟩ := hS.c
     have hC1' : ed.z * ((D / Nat.gcd C D : Nat) : Int) = (C1 : Int) := by rw [hd1, hcn, Int.natCast_mul]
     have hQ0 : dmQ (sg nb D) ((Nat.gcd C D : Nat) : Int) = ((D / Nat.gcd C D : Nat) : Int) := by rw [g4]; exact W4 (by omega) hGd
     have hG1 : ((Nat.gcd ed.z.natAbs (sg nb D).natAbs : Nat) : Int) = ((Nat.gcd C D : Nat) : Int) := by rw [hd1, g4, Int.natAbs_natCast, Int.natAbs_natCast]
     rw [← hd1] at hbC
     generalize Nat.gcd C D = G at *
     generalize D / G = Q at *
     obtain ⟨gb, gn, gL, IG⟩ := iz (G : Int)
     obtain ⟨qb, qn, qL, IQ⟩ := iz (Q : Int)
     obtain ⟨cb_, cn, cL, IC⟩ := iz (C1 : Int)
     have HG := hid fun (w2 : World) (h : Below wr.heap.size wr w2) => HRgcd_g (w := w2) hd2.i hq.i IG.out (hd2.m.below h) (hq.m.below h) (hbC.ft (by omega)) (hbD.ft (by omega)) hG1
     have HQ := hid fun (w2 : World) (h : Below wr.heap.size wr w2) (B_ : Option Addr) (d : Nat) (m : Mg w2 B_ d gL) => Q8 (w := w2) hq.i IG.out IQ.out (hq.m.below h) m (hbD.ft (by omega)) (hGb.ft (by omega)) (by omega) hQ0
     have HMu := hid fun (w2 : World) (h : Below wr.heap.size wr w2) (B_ : Option Addr) (d : Nat) (m : Mg w2 B_ d qL) => Jy (w := w2) hd2.i IQ.out IC.out (hd2.m.below h) m (hbC.ft (by omega)) (hQb.ft (by omega)) (hbC'.ft (by omega)) hC1'
     have HVa := hid (Xh (na := na) (nb := nb) mx1 mx2)
     rw [hv] at HVa
     have hs1 := HM.out wr hS.b
     have hle1 : xs.length ≤ 512 ∧ ys.length ≤ 512 := by obtain ⟨_, _, _, _, _, p5, p6⟩ := fvB_ok mx1.ok mx2.ok hv; exact ⟨p5, p6⟩
     have HSz := hid fun (w2 : World) => Dr (na := na) (nb := nb) (A := A) (B := B) (ca := ca) (cb := cb) (w := w2) (k := xs.length) (l := ys.length) (by omega) (by omega)
     have hm40 : ¬ (40 : Int) < ((max xs.length ys.length : Nat) : Int) := by omega
     have HS := hid hS
     have hC1h := hid hC1
     have lt2 := Kd k0
     have ltx := Kd x0
     obtain ⟨dz, db, dn, dxs, dA, dc⟩ := ed
     dsimp only at *
     clear hS hq hcn hbC hbC' hpC hpD hbD hG0 hGd hGb hQb hd1 hd2 hC1' hQ0 hG1 g4 hC1 mx1 mx2 hs1 hv hs hq9 hck hle1
     generalize xs.length = kx at *
     generalize ys.length = ky at *
     generalize max kx ky = mk at *
     go_wp2_with fail
     refine HVa.out.mono ?_
     rintro e v1 ⟨rfl, hv1⟩
     have x0 := Ka hv1 x0
     have x1 := Ka hv1 x1
     have x2 := Ka hv1 x2
     have x3 := Ka hv1 x3
     go_wp2_with fail
     refine (HSz.out v1).mono ?_
     rintro e v2 ⟨rfl, hv2⟩
     have x2 := Ka hv2 x2
     have x3 := Ka hv2 x3
     have hv12 := Kb hv1 hv2
     have k0 := Ka hv12 k0
     have k1 := Ka hv12 k1
     clear x0 x1 HVa HSz hv1 hv2
     go_upto_region 7 with fail
     refine Ords.start (x := 15) (S := fun w' => (w'.cell? ⟨gc, 0, none⟩ = some (.bool db) ∧ w'.cell? ⟨gc, 1, none⟩ = some (.slice dA dn dc)) ∧ (w'.cell? ⟨w.heap.size, j * 4 + 2, none⟩ = some (.bool nb) ∧ w'.cell? ⟨w.heap.size, j * 4 + 3, none⟩ = some (.slice B ky cb))) (by kernel_rfl) ?_ (fun hHeld => ?_)
     ·exact ⟨⟨k0, k1⟩, ⟨x2, x3⟩⟩
     have HB := hv12
     refine' TKo 0 ?_
     refine' TKo 1 ?_
     refine' TKo 2 ?_
     refine' TKo 3 ?_
     refine' TKo 4 ?_
     refine' TKo 5 ?_
     refine' TKo 6 ?_
     refine' TKo 7 ?_
     refine' TKo 8 ?_
     refine' TKo 9 ?_
     refine' TKo 10 ?_
     refine' TKo 11 ?_
     refine' Ords.step (i := 12) (by kernel_rfl) (by simp only [List.getElem?_toArray, List.getElem?_cons_succ, List.getElem?_cons_zero]; rfl) (fun K hK => ?_)
     go_simp
     (go_at_call 85; (with_reducible refine (HG.out _ (Kb HB BG)).mono ?_); rintro e y1 ⟨R2, d2, rfl, m2, hq2⟩; have qv1 : Below v2.heap.size v2 y1 := Kb BG hq2)
     (try go_wp2_with fail)
     refine' HKa hK (by (first | ((try dsimp only); repeat' (first | with_reducible assumption | apply And.intro | (with_reducible refine Kk ?_) | (with_reducible refine Kn ?_) | (with_reducible refine Kh (by omega) ?_) | (with_reducible refine Kp (by omega) ?_) | (with_reducible refine Ka (W := v2) ?_ ?_) | fail)))) (fun hHeld => ?_)
     clear hK K
     refine' Ords.step (i := 13) (by kernel_rfl) (by simp only [List.getElem?_toArray, List.getElem?_cons_succ, List.getElem?_cons_zero]; rfl) (fun K hK => ?_)
     go_simp
     (go_at_call 84; (with_reducible refine (HQ.out _ (Kb HB BG) _ _ m2).mono ?_); rintro e y2 ⟨R3, d3, rfl, m3, hq3⟩; have qv2 : Below v2.heap.size v2 y2 := Kb BG hq3)
     (try go_wp2_with fail)
     refine' HKa hK (by (first | ((try dsimp only); repeat' (first | with_reducible assumption | apply And.intro | (with_reducible refine Kk ?_) | (with_reducible refine Kn ?_) | (with_reducible refine Kh (by omega) ?_) | (with_reducible refine Kp (by omega) ?_) | (with_reducible refine Ka (W := v2) ?_ ?_) | fail)))) (fun hHeld => ?_)
     clear hK K
     refine' Ords.step (i := 14) (by kernel_rfl) (by simp only [List.getElem?_toArray, List.getElem?_cons_succ, List.getElem?_cons_zero]; rfl) (fun K hK => ?_)
     go_simp
     (go_at_call 79; (with_reducible refine (HMu.out _ (Kb HB BG) _ _ m3).mono ?_); rintro e y3 ⟨R4, d4, rfl, m4, hq4⟩; have qv3 : Below v2.heap.size v2 y3 := Kb BG hq4; have k0 := Ka qv3 k0; have k1 := Ka qv3 k1; have fz := (HS.out.zc.below (Kb HB qv3)).fr)
     (try go_wp2_with fail)
     refine' HKa hK (by (first | ((try dsimp only); repeat' (first | with_reducible assumption | apply And.intro | (with_reducible refine Kk ?_) | (with_reducible refine Kn ?_) | (with_reducible refine Kh (by omega) ?_) | (with_reducible refine Kp (by omega) ?_) | (with_reducible refine Ka (W := v2) ?_ ?_) | fail)))) (fun hHeld => ?_)
     clear hK K
     refine' Ords.last (by kernel_rfl) (by simp only [List.getElem?_toArray, List.getElem?_cons_succ, List.getElem?_cons_zero]; rfl) (by kernel_rfl) (fun K hK => ?_)
     go_simp
     (try go_wp2_with fail)
     refine hK.out _ _ ?_
     clear hK K
     (try simp only [Act.put, Lp0, Lp1, Lp2])
     go_wp2
     go_roundw
     case rel => exact ⟨j + 1, by omega, by go_num, by rw [hC1h.out]; exact (HS.out.below (Kb HB qv3)).setc IC.out m4, hck2.out⟩
     case measure => simp [intOf]; omega
    ·have HNB := hid (nrmB_s hmem hs)
     have r1 := hS.r1
     have zn1 := hS.z1
     have HB := hS.b
     clear hS hmem hck hmu
     generalize fs[j] = f at *
     obtain ⟨na, A, xs, ca, nb, B, ys, cb⟩ := f
     obtain ⟨x0, x1, x2, x3, mx1, mx2⟩ := hat
     dsimp only [Rf.f, Rf.v, Rf.sz] at *
     have HVa := hid (Xh (na := na) (nb := nb) mx1 mx2)
     rw [hv] at HVa
     have hle1 : xs.length ≤ 512 ∧ ys.length ≤ 512 := by obtain ⟨_, _, _, _, _, p5, p6⟩ := fvB_ok mx1.ok mx2.ok hv; exact ⟨p5, p6⟩
     have HSz := hid fun (w2 : World) => Dr (na := na) (nb := nb) (A := A) (B := B) (ca := ca) (cb := cb) (w := w2) (k := xs.length) (l := ys.length) (by omega) (by omega)
     have hm40 : (40 : Int) < ((max xs.length ys.length : Nat) : Int) := by omega
     have ltx := Kd x0
     clear mx1 mx2 hv hs hle1
     generalize xs.length = kx at *
     generalize ys.length = ky at *
     generalize max kx ky = mk at *
     go_wp2_with fail
     refine HVa.out.mono ?_
     rintro e v1 ⟨rfl, hv1⟩
     have x0 := Ka hv1 x0
     have x1 := Ka hv1 x1
     have x2 := Ka hv1 x2
     have x3 := Ka hv1 x3
     go_wp2_with fail
     refine (HSz.out v1).mono ?_
     rintro e v2 ⟨rfl, hv2⟩
     have hv12 := Kb hv1 hv2
     have r1 := Ke r1 hv12
     have zn1 := zn1.below hv12
     have HB := Kb HB hv12
     clear x0 x1 x2 x3 HVa HSz hv1 hv2 hv12
     go_upto_region 6 with fail
     have ht := Kq r1 zn1
     have ho := all_oneCell_toArray (Km Kx)
     obtain ⟨G1, G2, G3, G4⟩ := Ju (w := w) (l := Kx) (cs := Kx) RT54 rfl (by kernel_rfl) HB (by omega) r1 zn1 rfl (fun e he => by rw [List.eq_of_mem_replicate he]; exact ZE.zero_ok _)
     clear G1 G4
     have HF := hid G3
     clear G3
     go_wp2_with (first | refine wpList_store_mid (by rfl) _ _ _ (by rfl) (w.heap.size + 1) 0 (Kc Kx).toArray (by rfl) (by rfl) ht hi18.out ho ?_ | fail)
     refine bodyPost_ret (v := .tuple #[.agg (Kc Kx).toArray, .bool false]) ?_ rfl ?_
     ·simp [results, Tryz.results63, Sem.run_bind, asAddr, G2]
     ·rw [HNB.out]
      exact ⟨Kx, rfl, rfl, fun h => by simp at h, HF.out⟩
   ·have HNB := hid (nrmB_v hmem (by simpa using hv))
    have r1 := hS.r1
    have zn1 := hS.z1
    have HB := hS.b
    clear hS hmem hck hmu
    generalize fs[j] = f at *
    obtain ⟨na, A, xs, ca, nb, B, ys, cb⟩ := f
    obtain ⟨x0, x1, x2, x3, mx1, mx2⟩ := hat
    dsimp only [Rf.f, Rf.v, Rf.sz] at *
    have HVa := hid (Xh (na := na) (nb := nb) mx1 mx2)
    rw [show fvB na xs nb ys = false by simpa using hv] at HVa
    have ltx := Kd x0
    clear mx1 mx2 hv
    generalize xs.length = kx at *
    generalize ys.length = ky at *
    go_wp2_with fail
    refine HVa.out.mono ?_
    rintro e v1 ⟨rfl, hv1⟩
    have r1 := Ke r1 hv1
    have zn1 := zn1.below hv1
    have HB := Kb HB hv1
    clear x0 x1 x2 x3 HVa hv1
    go_upto_region 6 with fail
    have ht := Kq r1 zn1
    have ho := all_oneCell_toArray (Km Kx)
    obtain ⟨G1, G2, G3, G4⟩ := Ju (w := w) (l := Kx) (cs := Kx) RT54 rfl (by kernel_rfl) HB (by omega) r1 zn1 rfl (fun e he => by rw [List.eq_of_mem_replicate he]; exact ZE.zero_ok _)
    clear G1 G4
    have HF := hid G3
    clear G3
    go_wp2_with (first | refine wpList_store_mid (by rfl) _ _ _ (by rfl) (w.heap.size + 1) 0 (Kc Kx).toArray (by rfl) (by rfl) ht hi18.out ho ?_ | fail)
    refine bodyPost_ret (v := .tuple #[.agg (Kc Kx).toArray, .bool false]) ?_ rfl ?_
    ·simp [results, Tryz.results63, Sem.run_bind, asAddr, G2]
    ·rw [HNB.out]
     exact ⟨Kx, rfl, rfl, fun h => by simp at h, HF.out⟩
  ·have hj9 : (j : Int) = 9 := by omega
   rw [hj9]
   obtain rfl : j = 9 := by omega
   clear hj9
   have hq9 : (fs.map Rf.f).length = 9 := by simpa using h9
   rw [List.take_of_length_le (by omega)] at hS
   have hc0 : chkZ 40 fs = 0 := by have := hck.out; rwa [List.take_of_length_le (by omega)] at this
   have hmu := HM.out wr hS.b
   have hbz := G7 (k := 1280) hc0 (by omega) hmu
   obtain ⟨hzok, hzf⟩ := Wy fs (J8 hc0).1 hmu
   have hbC := Qe (k := 1280) (fs := fs.map Rf.f) (fun f hf => (hbz f hf).1.2.2) 9
   rw [List.take_of_length_le (by omega), hq9] at hbC
   have hdv := Vw (fs.map Rf.f)
   have hzb := Hz (k := 1280) (l := fs.map Rf.f) (fun f hf => (hbz f hf).1.2)
   rw [hq9] at hzb
   have hzl : (intZ (fs.map Rf.f)).length = 9 := by rw [Y7, hq9]
   have hzj : ∀ j (h : j < (fs.map Rf.f).length), (intZ (fs.map Rf.f))[j]? = some ((fs.map Rf.f)[j].1 * ((comZ (fs.map Rf.f) / (fs.map Rf.f)[j].2 : Nat) : Int)) := fun j h => by unfold intZ; rw [List.getElem?_map, List.getElem?_eq_getElem h]; rfl
   have hNZ : Hid (nrmZ fs = redZ (intZ (fs.map Rf.f))) := rfl
   have hNB : Hid (nrmB fs = (le40 (nrmZ fs) && decide (detZ (nrmZ fs) ≠ 0))) := by unfold Hid nrmB; rw [decide_eq_true hc0]; rfl
   generalize nrmZ fs = NZ at *
   generalize nrmB fs = NB at *
   generalize intZ (fs.map Rf.f) = zs at *
   generalize comZ (fs.map Rf.f) = C at *
   generalize fs.map Rf.f = qs at *
   obtain ⟨ec, hd1, hd2, k0, k1⟩ := hS.c
   have hlt := hS.hg
   have hgc := hS.zc.lt
   have HZ0 := hid fun (W : World) (h : Below wr.heap.size wr W) e (he : e ∈ zl fs) => (hzok e he).below h
   have HD0 := hid fun (W : World) (h : Below wr.heap.size wr W) => hd2.below h
   have hck9 : (Kc [ec]) = [.bool ec.b, .slice ec.A ec.n ec.c] := rfl
   go_upto_region 8 with fail
   go_upto_region 9 with fail
   refine Kw (P := fun u => Code.wp _ _ _ _ u) ?_
   intro v2 hv2 q0 zq hsz2
   clear hsz2
   have hF : Fil w [(w.heap.size + 1, Kc Kx), (gc, Kc [ec])] wr.heap.size (sofar zs 0) v2 := ⟨Kb hS.b hv2, by
    intro p hp
    simp only [List.mem_cons, List.not_mem_nil, or_false] at hp
    rcases hp with rfl | rfl
    ·exact ⟨Ke hS.r1 hv2, hS.z1.below hv2, by dsimp only; omega⟩
    ·refine ⟨?_, hS.zc.below hv2, by dsimp only; omega⟩
     intro j v hv
     match j, hv with
     | 0, hv => obtain rfl := Option.some.inj hv; exact Ka hv2 k0
     | 1, hv => obtain rfl := Option.some.inj hv; exact Ka hv2 k1, zq, by omega, Kx, q0, fun e he => by rw [List.eq_of_mem_replicate he]; exact ZE.zero_ok _, by rw [Zd, hzl]; rfl⟩
   have r0 := Ke hS.r0 hv2
   clear hS q0 zq k0 k1 hmu hzok hd2 hck hck9 HM
   obtain ⟨gm, hgm⟩ : ∃ gm, gm = wr.heap.size := ⟨_, rfl⟩
   rw [← hgm] at hF ⊢
   have hgU := hid (show wr.heap.size ≤ gm from Nat.le_of_eq hgm.symm)
   have hgm0 : w.heap.size < gm := by omega
   rw [← hgm] at hgc
   clear hgm
   generalize wr = V0 at *
   go_wp2
   go_loopw [7] (fun s7 wr => ∃ j : Nat, j ≤ 9 ∧ s7 = .int .i64 j ∧ Fil w [(w.heap.size + 1, Kc Kx), (gc, Kc [ec])] gm (sofar zs j) wr ∧ wr.rangeAt w.heap.size 0 (Kc (zl fs)) ∧ Below V0.heap.size V0 wr) (fun s7 _ => 9 - (intOf s7).toNat)
   case atStart => exact ⟨0, by omega, rfl, hF, r0, hv2⟩
   case round =>
    obtain ⟨j, hj, rfl, hS, r0', hbv⟩ := hrel
    clear hF r0 hv2
    by_cases h9j : j < 9
    ·have hj2 : j < qs.length := by omega
     have h9i : (j : Int) < 9 := by omega
     obtain ⟨g1, g2, g3, g4⟩ := frZ_at hzf j hj2
     have hop := HZ0.out wr hbv _ (List.getElem_mem g1)
     have hoq := HZ0.out wr hbv _ (List.getElem_mem g2)
     obtain ⟨x0, x1⟩ := Jn r0' g1
     obtain ⟨x2, x3⟩ := Jn r0' g2
     rw [show 2 * j * 2 = j * 4 by omega] at x0 x1
     rw [show (2 * j + 1) * 2 = j * 4 + 2 by omega] at x2 x3
     have hd2 := HD0.out wr hbv
     obtain ⟨kc, zc, nc⟩ := hS.k (gc, Kc [ec]) (by simp)
     dsimp only at kc nc
     have k0 : wr.cell? ⟨gc, 0, none⟩ = some (.bool ec.b) := kc 0 _ rfl
     have k1 : wr.cell? ⟨gc, 1, none⟩ = some (.slice ec.A ec.n ec.c) := kc 1 _ rfl
     have hpD := (hbz qs[j] (List.getElem_mem hj2)).1.1
     have hbD := Q9 (hbz qs[j] (List.getElem_mem hj2)).1.2.2
     have hbN := (hbz qs[j] (List.getElem_mem hj2)).1.2.1
     have hdj := hdv qs[j] (List.getElem_mem hj2)
     have hjz : j < zs.length := by omega
     have hzz : zs[j] = qs[j].1 * ((C / qs[j].2 : Nat) : Int) := by have := hzj j hj2; rw [List.getElem?_eq_getElem hjz] at this; exact Option.some.inj this
     have hzbj := hzb zs[j] (List.getElem_mem hjz)
     have hlen : (sofar zs j).length = 9 := by rw [Xp _ _ (by omega), hzl]
     obtain ⟨td, _, _, c0, c1⟩ := hS.cell (j := j) (by omega)
     have hsn := Up zs j hjz
     rw [← g4] at hbD
     rw [← g3] at hbN hzz
     generalize (zl fs)[2 * j] = p at *
     generalize (zl fs)[2 * j + 1] = q at *
     generalize qs[j].2 = D at *
     have hQb : Bz (1280 * 9 + 1) ((C / D : Nat) : Int) := by
      have := Nat.div_le_self C D
      unfold Bz at hbC ⊢
      rw [Int.natAbs_natCast] at hbC ⊢
      omega
     have hQ0 : dmQ ec.z q.z = ((C / D : Nat) : Int) := by rw [hd1, g4]; exact W4 (by omega) hdj
     have hzz' : p.z * ((C / D : Nat) : Int) = zs[j] := hzz.symm
     rw [← hd1] at hbC
     generalize C / D = Q at *
     obtain ⟨qb, qn, qL, IQ⟩ := iz (Q : Int)
     obtain ⟨cb, cn, cL, IC⟩ := iz (zs[j])
     have HQ := hid fun (w2 : World) (h : Below wr.heap.size wr w2) => Q8 (w := w2) hd2.i hoq.i IQ.out (hd2.m.below h) (hoq.m.below h) (hbC.ft (by omega)) (hbD.ft (by omega)) (by rw [g4]; omega) hQ0
     have HMu := hid fun (w2 : World) (h : Below wr.heap.size wr w2) (B : Option Addr) (d : Nat) (m : Mg w2 B d qL) => Jy (w := w2) hop.i IQ.out IC.out (hop.m.below h) m (hbN.ft (by omega)) (hQb.ft (by omega)) (hzbj.ft (by omega)) hzz'
     have HS := hid hS
     have HN := hid hsn
     have HR0 := hid r0'
     have ltx := Kd x0
     have lt2 := Kd k0
     have ltm := Kd c0
     have fm := hS.zm.fr
     clear hS kc zc hop hoq hd2 hbC hpD hbD hbN hdj hzz hzz' hzbj hQb hQ0 g3 g4 hsn r0'
     obtain ⟨pz, pb, pn, pxs, pA, pc⟩ := p
     obtain ⟨qz, qqb, qqn, qxs, qA, qc⟩ := q
     obtain ⟨zd_, bd_, nd_, xd_, Ad_, cd_⟩ := td
     dsimp only at *
     have HB := Below.refl wr.heap.size wr
     go_upto_region 12 with fail
     refine wp_region_held_drew (S := fun w' => (w'.cell? ⟨gc, 0, none⟩ = some (.bool ec.b) ∧ w'.cell? ⟨gc, 1, none⟩ = some (.slice ec.A ec.n ec.c)) ∧ (w'.cell? ⟨w.heap.size, j * 4, none⟩ = some (.bool pb) ∧ w'.cell? ⟨w.heap.size, j * 4 + 1, none⟩ = some (.slice pA pn pc)) ∧ (w'.cell? ⟨w.heap.size, j * 4 + 2, none⟩ = some (.bool qqb) ∧ w'.cell? ⟨w.heap.size, j * 4 + 3, none⟩ = some (.slice qA qqn qc))) (by kernel_rfl) ?_ (fun hHeld => ?_)
     ·exact ⟨⟨k0, k1⟩, ⟨x0, x1⟩, ⟨x2, x3⟩⟩
     refine' TKa 0 ?_
     refine' TKa 1 ?_
     refine' TKa 2 ?_
     refine' TKa 3 ?_
     refine' TKa 4 ?_
     refine' TKa 5 ?_
     refine' TKa 6 ?_
     refine' TKa 7 ?_
     refine' TKa 8 ?_
     refine' TKa 9 ?_
     refine' TKa 10 ?_
     refine' TKa 11 ?_
     refine BRa 12 (fun K hK => ?_)
     go_simp
     (go_at_call 84; (with_reducible refine (HQ.out _ (Kb HB BG)).mono ?_); rintro e y1 ⟨R3, d3, rfl, m3, hq3⟩; have qv1 : Below wr.heap.size wr y1 := Kb BG hq3)
     (try go_wp2_with fail)
     refine' HKa hK (by (first | ((try dsimp only); repeat' (first | with_reducible assumption | apply And.intro | (with_reducible refine Kk ?_) | (with_reducible refine Kn ?_) | (with_reducible refine Kh (by omega) ?_) | (with_reducible refine Kp (by omega) ?_) | (with_reducible refine Ka (W := wr) ?_ ?_) | fail)))) (fun hHeld => ?_)
     clear hK K
     refine BRa 13 (fun K hK => ?_)
     go_simp
     (go_at_call 79; (with_reducible refine (HMu.out _ (Kb HB BG) _ _ m3).mono ?_); rintro e y3 ⟨R4, d4, rfl, m4, hq4⟩; have qv3 : Below wr.heap.size wr y3 := Kb BG hq4; have c0 := Ka qv3 c0; have c1 := Ka qv3 c1; have fz := (HS.out.zm.below qv3).fr; have k0 := Ka qv3 k0; have k1 := Ka qv3 k1; have x0 := Ka qv3 x0; have x1 := Ka qv3 x1; have x2 := Ka qv3 x2; have x3 := Ka qv3 x3)
     (try go_wp2_with fail)
     refine' HKa hK (by (first | ((try dsimp only); repeat' (first | with_reducible assumption | apply And.intro | (with_reducible refine Kk ?_) | (with_reducible refine Kn ?_) | (with_reducible refine Kh (by omega) ?_) | (with_reducible refine Kp (by omega) ?_) | (with_reducible refine Ka (W := wr) ?_ ?_) | fail)))) (fun hHeld => ?_)
     clear hK K
     refine' TKa 14 ?_
     refine BRa 15 (fun K hK => ?_)
     go_simp
     skip
     (try go_wp2_with fail)
     refine' HKa hK (by (exact ⟨⟨Kh (Ne.symm nc) (Kh (Ne.symm nc) k0), Kh (Ne.symm nc) (Kh (Ne.symm nc) k1)⟩, ⟨Kh (by omega) (Kh (by omega) x0), Kh (by omega) (Kh (by omega) x1)⟩, ⟨Kh (by omega) (Kh (by omega) x2), Kh (by omega) (Kh (by omega) x3)⟩⟩)) (fun hHeld => ?_)
     clear hK K
     refine wpAnyH_done (by kernel_rfl) ?_ _
     have hF5 := (HS.out.below qv3).set (j := j) (by omega) IC.out m4
     rw [HN.out] at hF5
     have HF5 := hid hF5
     have hr5 := hid (Jh (Jh (Ke HR0.out qv3) (show gm ≠ w.heap.size by omega) (i := j * 2) (v := .bool cb)) (show gm ≠ w.heap.size by omega) (i := j * 2 + 1) (v := .slice R4 cn d4))
     have hb5 := hid (Kg (Kg (Kb hbv qv3) hgU.out (j * 2) (.bool cb)) hgU.out (j * 2 + 1) (.slice R4 cn d4))
     clear hF5
     go_wp2
     go_roundw
     case rel => exact ⟨j + 1, by omega, by go_num, HF5.out, hr5.out, hb5.out⟩
     case measure => simp [intOf]; omega
    ·have hj9 : (j : Int) = 9 := by omega
     rw [hj9]
     obtain rfl : j = 9 := by omega
     clear hj9
     have hS' : Fil w [(w.heap.size + 1, Kc Kx), (gc, Kc [ec])] gm zs wr := by
      have := hS
      rwa [show 9 = zs.length from hzl.symm, Wn] at this
     obtain ⟨lm, e2, e3, e4⟩ := hS'.ex
     obtain ⟨r1, zn1, _⟩ := hS'.k (w.heap.size + 1, Kc Kx) (by simp)
     dsimp only at r1 zn1
     have zm := hS'.zm
     have HB := hS'.b
     have e1 : lm.length = 9 := by rw [← List.length_map (·.z), e4, hzl]
     have hi9 := hid (show (Tryz.prog.info? 94).map (·.size) = some (Kc lm).length by rw [Kf, e1]; kernel_rfl)
     have HRd := hid (Gq lm e1 (w := wr) e3 (k := 1280 * 9 + 1 + 1280) (by omega) (fun e he => hzb e.z (e4 ▸ List.mem_map.2 ⟨e, he, rfl⟩)))
     rw [e4, ← hNZ.out] at HRd
     have hNl : NZ.length = 9 := by rw [hNZ.out, Q4, hzl]
     clear hS hS' hzb hzl hdv hzj hbz hzf HZ0 HD0 hd1 hbC r0' hbv e3 hNZ hc0
     go_wp2_with (first | refine wpList_load_mid (by rfl) _ _ (by rfl) gm 0 (by rfl) (Kc lm) _ e2 RT54 (by rfl) hi9.out ?_ | fail)
     refine HRd.out.mono ?_
     rintro e w3 ⟨l3, rfl, hz3, hok3, h3⟩
     have hl3 : l3.length = 9 := by rw [← List.length_map (·.z), hz3, hNl]
     have h18 : (Kc l3).length = 18 := by rw [Kf, hl3]
     have hi3 := hid (show (Tryz.prog.info? 94).map (·.size) = some (Kc l3).length by rw [h18]; exact hi18.out)
     have hi3' := hid (show (Tryz.prog.info? 94).map (·.size) = some (Kc l3).toArray.size by rw [List.size_toArray, h18]; exact hi18.out)
     have e2w := Ke e2 h3
     have zmw := zm.below h3
     have hlm : (Kc l3).length = (Kc lm).length := by rw [h18, Kf, e1]
     have ht := Kq e2w zmw
     rw [show (Kc lm).length = (Kc l3).toArray.size by rw [List.size_toArray, hlm]] at ht
     have ho := all_oneCell_toArray (Km l3)
     have hgw : w.heap.size ≤ gm := by omega
     obtain ⟨_, _, G3, G4⟩ := Ju (w := w) (l := l3) (cs := lm) RT54 rfl hi3.out (Kb HB h3) hgw e2w zmw (by rw [hl3, e1]) hok3
     have hne1 : w.heap.size + 1 ≠ gm := by omega
     have r1 := Wv (o := 0) (vs := Kc l3) (Ke r1 h3) hne1
     have zn1 := Zn.sets (k := gm) (Kc l3) w3 _ 0 (zn1.below h3)
     have p0 := Wi e2w zmw (vs := Kc l3) hlm
     have pz := Zn.sets (k := gm) (Kc l3) w3 _ 0 zmw
     clear HRd HB e2 e2w zm zmw hok3 h3 hi9
     go_wp2_with (first | refine wpList_store_mid (by rfl) _ _ _ (by rfl) gm 0 (Kc l3).toArray (by rfl) (by rfl) ht hi3'.out ho ?_ | fail)
     generalize hU : w3.setCells gm 0 (Kc l3) = U at *
     clear hU ht
     have hle := Dd G4
     rw [hz3] at hle
     have hB0 := Below.refl U.heap.size U
     go_loopw [8] (fun s8 wr => ∃ j : Nat, j ≤ 9 ∧ s8 = .int .i64 j ∧ Below U.heap.size U wr ∧ Hid (∀ i (h : i < l3.length), i < j → l3[i].n ≤ 40)) (fun s8 _ => 9 - (intOf s8).toNat)
     case atStart => exact ⟨0, by omega, rfl, hB0, fun i _ h => by omega⟩
     case round =>
      obtain ⟨j, hj, rfl, hbl, hp⟩ := hrel
      clear hB0
      by_cases h9j : j < 9
      ·have h9i : (j : Int) < 9 := by omega
       have hj3 : j < l3.length := by omega
       obtain ⟨c0, c1⟩ := Jn (Ke p0 hbl) hj3
       have hbad : ¬ l3[j].n ≤ 40 → NB = false := fun h => by
        rw [hNB.out, ← hle, decide_eq_false fun h' => h (h' _ (List.getElem_mem hj3))]; rfl
       have hgood : l3[j].n ≤ 40 → ∀ i (h : i < l3.length), i < j + 1 → l3[i].n ≤ 40 := fun h i hi hi2 => by
        rcases Nat.lt_or_ge i j with h4 | h4
        ·exact hp.out i hi h4
        ·have e : i = j := by omega
         subst e; exact h
       generalize l3[j] = e at *
       by_cases h40 : e.n ≤ 40
       ·have hng : ¬ (40 : Int) < (e.n : Int) := by omega
        have HG := hid (hgood h40)
        clear hbad hgood h40 hp
        go_wp2
        go_roundw
        case rel => exact ⟨j + 1, by omega, by go_num, hbl, HG.out⟩
        case measure => simp [intOf]; omega
       ·have hng : (40 : Int) < (e.n : Int) := by omega
        have HNB := hid (hbad h40)
        have r1 := Ke r1 hbl
        have zn1 := zn1.below hbl
        have HB := Kb G3 hbl
        clear hbad hgood h40 hp G3 G4 p0 pz hle
        go_upto_region 18 with fail
        have ht := Kq r1 zn1
        have ho := all_oneCell_toArray (Km Kx)
        obtain ⟨G1, G2, G3, G4⟩ := Ju (w := w) (l := Kx) (cs := Kx) RT54 rfl (by kernel_rfl) HB (by omega) r1 zn1 rfl (fun e he => by rw [List.eq_of_mem_replicate he]; exact ZE.zero_ok _)
        clear G1 G4
        have HF := hid G3
        clear G3
        go_wp2_with (first | refine wpList_store_mid (by rfl) _ _ _ (by rfl) (w.heap.size + 1) 0 (Kc Kx).toArray (by rfl) (by rfl) ht hi18.out ho ?_ | fail)
        refine bodyPost_ret (v := .tuple #[.agg (Kc Kx).toArray, .bool false]) ?_ rfl ?_
        ·simp [results, Tryz.results63, Sem.run_bind, asAddr, G2]
        ·rw [HNB.out]
         exact ⟨Kx, rfl, rfl, fun h => by simp at h, HF.out⟩
      ·have hj9 : (j : Int) = 9 := by omega
       rw [hj9]
       obtain rfl : j = 9 := by omega
       clear hj9
       have hall : ∀ e ∈ l3, e.n ≤ 40 := fun e he => by obtain ⟨i, hi, rfl⟩ := List.getElem_of_mem he; exact hp.out i hi (by omega)
       rw [← hle, decide_eq_true hall, Bool.true_and] at hNB
       rw [decide_eq_true hall] at hle
       have hbz : ∀ e ∈ l3, Bz 1280 e.z := fun e he => Dx hle.symm e.z (hz3 ▸ List.mem_map.2 ⟨e, he, rfl⟩)
       obtain ⟨db, dn, dL, ID⟩ := iz (detZ NZ)
       have ID' := ID.out
       rw [← hz3] at ID'
       have HDe := hid fun (W : World) (h : Below wr.heap.size wr W) => U9 l3 hl3 (w := W) (fun e he => ((G4 e he).below hbl).below h) (k := 1280) (by omega) hbz ID'
       have hdz := ID.out.zero
       obtain ⟨tz, htz⟩ : ∃ tz, decide (dn = 0) = tz := ⟨_, rfl⟩
       have HNB : Hid (NB = !tz) := by unfold Hid; rw [hNB, ← htz, ← decide_not]; exact decide_eq_decide.2 (by rw [hdz])
       have HZ := hid fun (W : World) (A : Option Addr) (c : Nat) => Xz (b := db) (n := dn) (c := c) (A := A) (w := W) tz htz
       have p0 := Ke p0 hbl
       have r1 := Ke r1 hbl
       have zn1 := zn1.below hbl
       have HB := Kb G3 hbl
       have HOk := hid fun (W : World) (h : Below wr.heap.size wr W) e (he : e ∈ l3) => ((G4 e he).below hbl).below h
       clear hbl hp hall hle hbz ID ID' hdz htz hNB G3 G4 pz
       go_upto_region 19 with fail
       have HBr := Below.refl wr.heap.size wr
       refine wp_region_held_drew (S := fun w' => w'.rangeAt gm 0 (Kc l3)) (by kernel_rfl) ?_ (fun hHeld => ?_)
       ·exact p0
       refine tk (i := 0) rfl (by decide +kernel) (yieldsIf_load_mid (by rfl) _ _ (by rfl) (gm) (0) (by rfl) (Kc l3) _ (fun w_ hS_ => hS_) RT54 (by first | rfl | assumption) hi3.out) (by assumption) (fun _ _ _ h => h) ?_
       (try simp only [Act.put, Lp0, Lp1, Lp2])
       refine tk (i := 1) rfl (by decide +kernel) (yieldsIf_load_mid (by rfl) _ _ (by rfl) (gm) (0) (by rfl) (Kc l3) _ (fun w_ hS_ => hS_) RT54 (by first | rfl | assumption) hi3.out) (by assumption) (fun _ _ _ h => h) ?_
       (try simp only [Act.put, Lp0, Lp1, Lp2])
       refine BRa 2 (fun K hK => ?_)
       go_simp
       (go_at_call 100; (with_reducible refine (HDe.out _ (Kb HBr BG)).mono ?_); rintro e y1 ⟨R1, d1, rfl, m1, hq1⟩; have qv1 : Below wr.heap.size wr y1 := Kb BG hq1; have p0 := Ke p0 qv1)
       (try go_wp2_with fail)
       refine' HKa hK (by exact p0) (fun hHeld => ?_)
       clear hK K
       refine BRa 3 (fun K hK => ?_)
       go_simp
       (go_at_call 80; (with_reducible refine (HZ.out _ _ _).mono ?_); rintro e y2 ⟨rfl, hq2⟩; have qv2 : Below wr.heap.size wr y2 := Kb qv1 hq2; have p0 := Ke p0 hq2)
       (try go_wp2_with fail)
       refine' HKa hK (by exact p0) (fun hHeld => ?_)
       clear hK K
       refine' TKa 4 ?_
       have r1 := Ke r1 qv2
       have zn1 := zn1.below qv2
       have HB := Kb HB qv2
       have ht := Kq r1 zn1
       rw [show (Kc Kx).length = (Kc l3).toArray.size by rw [List.size_toArray, Kf, Kf, hl3]; rfl] at ht
       refine wpAnyH_ready (rs := [5]) (by kernel_rfl) (by simp) ?_
       refine' AllReadyH.cons (o := _) (by simp only [List.getElem?_toArray, List.getElem?_cons_succ, List.getElem?_cons_zero]; rfl) (fun K hK => ?_) AllReadyH.nil
       rw [if_pos (by rfl)]
       refine wp_store_mid _ _ _ rfl (w.heap.size + 1) 0 (Kc l3).toArray rfl rfl ht hi3'.out (all_oneCell_toArray (Km l3)) ?_
       refine' HKa hK (by exact (Wv p0 (Ne.symm hne1))) (fun hHeld => ?_)
       clear hK K
       refine' TKa 6 ?_
       refine wpAnyH_done (by kernel_rfl) ?_ _
       obtain ⟨G1, G2, G3, G4⟩ := Ju (w := w) (l := l3) (cs := Kx) RT54 rfl hi3.out HB (by omega) r1 zn1 (by rw [hl3]; rfl) (HOk.out _ qv2)
       have HF := hid (And.intro G3 G4)
       clear G1 G3 G4 hHeld p0 r1 zn1 ht
       go_wp2
       refine bodyPost_ret (v := .tuple #[.agg (Kc l3).toArray, .bool (!tz)]) ?_ rfl ?_
       ·simp [results, Tryz.results63, Sem.run_bind, asAddr, Act.put, G2]
       ·rw [HNB.out]
        exact ⟨l3, hl3, rfl, fun _ => ⟨hz3, HF.out.2⟩, HF.out.1⟩
set_option maxRecDepth 100000 in
set_option maxHeartbeats 8000000 in
theorem Wp (fs : List Rf) (h9 : fs.length = 9) {w : World} (hm : ∀ f ∈ fs, f.mg w) :
  Calls Tryz.prog 36 #[.agg (Kc (zl fs)).toArray] w (RetB w (nrmB fs)) := by
 have hl : (zl fs).length = 18 := by rw [Ky, h9]
 obtain ⟨d32, u32, row32⟩ := T32u
 have hi := hid (show (Tryz.prog.info? 32).map (·.size) = some (Kc (zl fs)).length by rw [Kf, hl]; exact T32i)
 have hi18 := hid (show (Tryz.prog.info? 94).map (·.size) = some 18 by kernel_rfl)
 have HN := hid fun (w1 : World) (h : Below w.heap.size w w1) => Zp fs h9 (w := w1) (fun f hf => (hm f hf).below h)
 generalize nrmB fs = t at *
 clear hm
 go_enter Tryz.func36, Tryz.ntmps36
 go_upto_region 1 with fail
 refine enterR1 (P := fun u => Code.wp _ _ _ _ u) ?_
 intro u HB r0 zn0 hsz
 clear hsz
 go_wp2_with (first | refine wpList_load_mid (by rfl) _ _ (by rfl) w.heap.size 0 (by rfl) (Kc (zl fs)) _ r0 u32 row32 hi.out ?_ | fail)
 refine (HN.out u HB).mono ?_
 rintro e w1 ⟨l1, hl1, rfl, hz1, h1⟩
 have F1 := Jt (w := w1) hl1 _ hi18.out
 have h18 : (Kc l1).length = 18 := by rw [Kf, hl1]
 go_wp2
 go_ret
 exact ⟨rfl, (Kb HB h1).alloc (Kb HB h1).size _⟩
end Go.Proofs.YtdkgbkbbbldliaaGreat
