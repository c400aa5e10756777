/- Homographies, the reference: walk of entries. Conditions: none. -/
import Derived.Test.YtgnfobnkhjlbbaaGreatZXC
import Derived.Test.YtgnfobnkhjlbbaaGreatZYZ
import Derived.Test.YtgnfobnkhjlbbaaGreatZXG
set_option linter.unusedVariables false
set_option linter.unusedSimpArgs false
namespace Go.Proofs.YtgnfobnkhjlbbaaGreat
open Go.RowKit Big
theorem nrmB_v {fs : List Rf} {f : Rf} (h : f ∈ fs) (hv : f.v = false) : nrmB fs = false := by
 unfold nrmB
 rw [decide_eq_false fun hc => by rw [(chk_parts hc).1 f h] at hv; simp at hv]
 rfl
theorem nrmB_s {fs : List Rf} {f : Rf} (h : f ∈ fs) (hs : ¬ f.sz ≤ 40) : nrmB fs = false := by
 unfold nrmB
 rw [decide_eq_false fun hc => hs ((chk_parts hc).2 f h)]
 rfl
theorem chk_take {fs : List Rf} {j : Nat} (hj : j < fs.length) (h : chkZ 40 (fs.take j) = 0) (hv : fs[j].v = true) (hs : fs[j].sz ≤ 40) : chkZ 40 (fs.take (j + 1)) = 0 := by
 rw [List.take_succ_eq_append_getElem hj, chk_app]
 refine ⟨h, ?_⟩
 unfold chkZ
 simp [hv, hs]
set_option maxRecDepth 100000 in
set_option maxHeartbeats 16000000 in
theorem HRentries_g (fs : List Rf) (h9 : fs.length = 9) {w : World} (hm : ∀ f ∈ fs, f.mg w) :
  Calls Tryz.prog 62 #[.agg (cellsM (zl fs)).toArray] w (RetMat w (nrmB fs) (nrmZ fs)) := by
 have hl : (zl fs).length = 18 := by rw [zl_len, h9]
 have hi18 := hid (show (Tryz.prog.info? 54).map (·.size) = some 18 by kernel_rfl)
 have HM := hid fun (w1 : World) (h : Below w.heap.size w w1) f hf => (hm f hf).below h
 obtain ⟨I1b, I1n, I1L, I1⟩ := iz 1
 have HFI := hid fun (w1 : World) => RFromInt_g (w := w1) I1.out (by omega) (by omega)
 clear hm
 go_enter Tryz.func62, Tryz.ntmps62
 go_upto_region 1 with fail
 refine enterR2 (P := fun u => Code.wp _ _ _ _ u) ?_
 intro u HB r0 r1 zn0 zn1 hsz
 have r1 : u.rangeAt (w.heap.size + 1) 0 (cellsM zeros9) := r1
 have hlt1 := zn1.lt
 go_wp2_with fail
 refine (HFI.out _).mono ?_
 rintro e w1 ⟨R1, d1, rfl, m1, h1⟩
 have hlt2 : w.heap.size + 1 < w1.heap.size := Nat.lt_of_lt_of_le hlt1 h1.size
 go_upto_region 2 with fail
 refine enterI (P := fun u => Code.wp _ _ _ _ u) ?_
 intro v hv q0 q1 zq hsz2
 have hRJ : RJ w (zl fs) w1.heap.size ((comZ ((fs.map Rf.f).take 0) : Nat) : Int) v := ⟨bel_step HB (bel_step h1 hv), rng_below r0 (bel_step h1 hv), rng_below r1 (bel_step h1 hv), zn1.below (bel_step h1 hv), ⟨⟨1, I1b, I1n, I1L, R1, d1⟩, by simp [comZ], ⟨I1.out, m1.below hv⟩, q0, q1⟩, zq, hlt2⟩
 clear hsz hsz2 q0 q1 zq m1 r0 r1 zn0 zn1 HB h1 hv hlt1 hlt2 HFI I1
 obtain ⟨gc, hgc⟩ : ∃ gc, gc = w1.heap.size := ⟨_, rfl⟩
 rw [← hgc] at hRJ ⊢
 clear hgc
 go_wp2
 go_loopw [5] (fun s5 wr => ∃ j : Nat, j ≤ 9 ∧ s5 = .int .i64 j ∧ RJ w (zl fs) gc ((comZ ((fs.map Rf.f).take j) : Nat) : Int) wr ∧ Hid (chkZ 40 (fs.take j) = 0)) (fun s5 _ => 9 - (intOf s5).toNat)
 case atStart => exact ⟨0, by omega, rfl, hRJ, rfl⟩
 case round =>
  obtain ⟨j, hj, rfl, hS, hck⟩ := hrel
  clear hRJ
  by_cases h9j : j < 9
  ·have hj2 : j < fs.length := by omega
   have h9i : (j : Int) < 9 := by omega
   have hmu := HM.out wr hS.b
   have hat := rf_at hS.r0 hmu j hj2
   have hmem := List.getElem_mem hj2
   by_cases hv : fs[j].v = true
   ·by_cases hs : fs[j].sz ≤ 40
    ·have hck2 := hid (chk_take hj2 hck.out hv hs)
     have hbz := chk_bz (k := 1280) hck2.out (by omega) (fun f hf => hmu f (List.mem_of_mem_take hf))
     rw [List.map_take] at hbz
     have hq9 : (fs.map Rf.f).length = 9 := by simpa using h9
     have hjq : j < (fs.map Rf.f).length := by omega
     have hfj : (fs.map Rf.f)[j] = fs[j].f := by simp
     obtain ⟨gok, gz, _, _, _⟩ := Rf.good hv (hmu _ hmem)
     have hq : (⟨sg fs[j].nb (val fs[j].ys), fs[j].nb, fs[j].ys.length, fs[j].ys, fs[j].B, fs[j].cb⟩ : ZE).ok wr := gok _ (by simp [Rf.ze])
     have g4 : sg fs[j].nb (val fs[j].ys) = (fs[j].f.2 : Int) := by
      simp only [Rf.ze, List.map_cons, List.map_nil, List.cons.injEq, and_true] at gz
      exact gz.2
     have hcn := comZ_take (fs.map Rf.f) j hjq
     have hbt : ∀ f ∈ (fs.map Rf.f).take j, f ∈ (fs.map Rf.f).take (j + 1) := fun f hf => by rw [List.take_succ_eq_append_getElem hjq]; exact List.mem_append_left _ hf
     have hbC : Bz (1280 * 9 + 1) ((comZ ((fs.map Rf.f).take j) : Nat) : Int) := (bz_nat (comZ_lt 1280 _ fun f hf => (hbz f (hbt f hf)).1.2.2)).mono (by rw [List.length_take]; omega)
     have hbC' : Bz (1280 * 9 + 1) ((comZ ((fs.map Rf.f).take (j + 1)) : Nat) : Int) := (bz_nat (comZ_lt 1280 _ fun f hf => (hbz f hf).1.2.2)).mono (by rw [List.length_take]; omega)
     have hpC := comZ_pos ((fs.map Rf.f).take j) fun f hf => (hbz f (hbt f hf)).1.1
     have hmt : fs[j].f ∈ (fs.map Rf.f).take (j + 1) := by rw [List.take_succ_eq_append_getElem hjq, hfj]; simp
     have hpD := (hbz _ hmt).1.1
     have hbD := bz_nat (hbz _ hmt).1.2.2
     rw [← g4] at hbD
     rw [hfj] at hcn
     clear hfj hmt hbt hbz hmem hmu gok gz hjq
     generalize hC1 : comZ ((fs.map Rf.f).take (j + 1)) = C1 at *
     generalize comZ ((fs.map Rf.f).take j) = C at *
     generalize fs[j] = f at *
     obtain ⟨na, A, xs, ca, nb, B, ys, cb⟩ := f
     obtain ⟨x0, x1, x2, x3, mx1, mx2⟩ := hat
     dsimp only [Rf.f, Rf.v, Rf.sz] at *
     generalize val ys = D at *
     have hG0 : 0 < Nat.gcd C D := Nat.gcd_pos_of_pos_left _ hpC
     have hGd := Nat.gcd_dvd_right C D
     have hGb : Bz 1280 ((Nat.gcd C D : Nat) : Int) := by
      have := Nat.le_of_dvd hpD hGd
      unfold Bz at hbD ⊢
      rw [g4, Int.natAbs_natCast] at hbD
      rw [Int.natAbs_natCast]
      omega
     have hQb : Bz 1280 ((D / Nat.gcd C D : Nat) : Int) := by
      have := Nat.div_le_self D (Nat.gcd C D)
      unfold Bz at hbD ⊢
      rw [g4, Int.natAbs_natCast] at hbD
      rw [Int.natAbs_natCast]
      omega
     obtain ⟨ed, hd1, hd2, k0, k1⟩ := hS.c
     have hC1' : ed.z * ((D / Nat.gcd C D : Nat) : Int) = (C1 : Int) := by rw [hd1, hcn, Int.natCast_mul]
     have hQ0 : dmQ (sg nb D) ((Nat.gcd C D : Nat) : Int) = ((D / Nat.gcd C D : Nat) : Int) := by rw [g4]; exact dmQ_nat (by omega) hGd
     have hG1 : ((Nat.gcd ed.z.natAbs (sg nb D).natAbs : Nat) : Int) = ((Nat.gcd C D : Nat) : Int) := by rw [hd1, g4, Int.natAbs_natCast, Int.natAbs_natCast]
     rw [← hd1] at hbC
     generalize Nat.gcd C D = G at *
     generalize D / G = Q at *
     obtain ⟨gb, gn, gL, IG⟩ := iz (G : Int)
     obtain ⟨qb, qn, qL, IQ⟩ := iz (Q : Int)
     obtain ⟨cb_, cn, cL, IC⟩ := iz (C1 : Int)
     have HG := hid fun (w2 : World) (h : Below wr.heap.size wr w2) => HRgcd_g (w := w2) hd2.i hq.i IG.out (hd2.m.below h) (hq.m.below h) (hbC.ft (by omega)) (hbD.ft (by omega)) hG1
     have HQ := hid fun (w2 : World) (h : Below wr.heap.size wr w2) (B_ : Option Addr) (d : Nat) (m : Mg w2 B_ d gL) => HRquotient_g (w := w2) hq.i IG.out IQ.out (hq.m.below h) m (hbD.ft (by omega)) (hGb.ft (by omega)) (by omega) hQ0
     have HMu := hid fun (w2 : World) (h : Below wr.heap.size wr w2) (B_ : Option Addr) (d : Nat) (m : Mg w2 B_ d qL) => HRmul_g (w := w2) hd2.i IQ.out IC.out (hd2.m.below h) m (hbC.ft (by omega)) (hQb.ft (by omega)) (hbC'.ft (by omega)) hC1'
     have HVa := hid (Qvalid_any (na := na) (nb := nb) mx1 mx2)
     rw [hv] at HVa
     have hs1 := HM.out wr hS.b
     have hle1 : xs.length ≤ 512 ∧ ys.length ≤ 512 := by obtain ⟨_, _, _, _, _, p5, p6⟩ := fvB_ok mx1.ok mx2.ok hv; exact ⟨p5, p6⟩
     have HSz := hid fun (w2 : World) => HRsize_g (na := na) (nb := nb) (A := A) (B := B) (ca := ca) (cb := cb) (w := w2) (k := xs.length) (l := ys.length) (by omega) (by omega)
     have hm40 : ¬ (40 : Int) < ((max xs.length ys.length : Nat) : Int) := by omega
     have HS := hid hS
     have hC1h := hid hC1
     have lt2 := cell_lt k0
     have ltx := cell_lt x0
     obtain ⟨dz, db, dn, dxs, dA, dc⟩ := ed
     dsimp only at *
     clear hS hq hcn hbC hbC' hpC hpD hbD hG0 hGd hGb hQb hd1 hd2 hC1' hQ0 hG1 g4 hC1 mx1 mx2 hs1 hv hs hq9 hck hle1
     generalize xs.length = kx at *
     generalize ys.length = ky at *
     generalize max kx ky = mk at *
     go_wp2_with fail
     refine HVa.out.mono ?_
     rintro e v1 ⟨rfl, hv1⟩
     have x0 := keep_cell hv1 x0
     have x1 := keep_cell hv1 x1
     have x2 := keep_cell hv1 x2
     have x3 := keep_cell hv1 x3
     go_wp2_with fail
     refine (HSz.out v1).mono ?_
     rintro e v2 ⟨rfl, hv2⟩
     have x2 := keep_cell hv2 x2
     have x3 := keep_cell hv2 x3
     have hv12 := bel_step hv1 hv2
     have k0 := keep_cell hv12 k0
     have k1 := keep_cell hv12 k1
     clear x0 x1 HVa HSz hv1 hv2
     go_upto_region 7 with fail
     refine Ords.start (x := 15) (S := fun w' => (w'.cell? ⟨gc, 0, none⟩ = some (.bool db) ∧ w'.cell? ⟨gc, 1, none⟩ = some (.slice dA dn dc)) ∧ (w'.cell? ⟨w.heap.size, j * 4 + 2, none⟩ = some (.bool nb) ∧ w'.cell? ⟨w.heap.size, j * 4 + 3, none⟩ = some (.slice B ky cb))) (by kernel_rfl) ?_ (fun hHeld => ?_)
     ·exact ⟨⟨k0, k1⟩, ⟨x2, x3⟩⟩
     have HB := hv12
     refine' tkO (i := 0) rfl (by decide +kernel) (Or.inl ⟨by rfl, ?_⟩) (by assumption) (fun _ _ _ h => h) ?_
     rotate_left 1
     ·(intro w_ hSw_; (try dsimp only at hSw_); go_simp; (try with_reducible rfl))
     (try simp only [Act.put, Lp0, Lp1, Lp2])
     refine' tkO (i := 1) rfl (by decide +kernel) (Or.inl ⟨by rfl, ?_⟩) (by assumption) (fun _ _ _ h => h) ?_
     rotate_left 1
     ·(intro w_ hSw_; (try dsimp only at hSw_); go_simp; (try with_reducible rfl))
     (try simp only [Act.put, Lp0, Lp1, Lp2])
     refine' tkO (i := 2) rfl (by decide +kernel) (Or.inl ⟨by rfl, ?_⟩) (by assumption) (fun _ _ _ h => h) ?_
     rotate_left 1
     ·(intro w_ hSw_; (try dsimp only at hSw_); go_simp; (try with_reducible rfl))
     (try simp only [Act.put, Lp0, Lp1, Lp2])
     refine' tkO (i := 3) rfl (by decide +kernel) (Or.inl ⟨by rfl, ?_⟩) (by assumption) (fun _ _ _ h => h) ?_
     rotate_left 1
     ·(intro w_ hSw_; (try dsimp only at hSw_); go_simp; (try with_reducible rfl))
     (try simp only [Act.put, Lp0, Lp1, Lp2])
     refine' tkO (i := 4) rfl (by decide +kernel) (Or.inl ⟨by rfl, ?_⟩) (by assumption) (fun _ _ _ h => h) ?_
     rotate_left 1
     ·(intro w_ hSw_; (try dsimp only at hSw_); go_simp; (try with_reducible rfl))
     (try simp only [Act.put, Lp0, Lp1, Lp2])
     refine' tkO (i := 5) rfl (by decide +kernel) (Or.inl ⟨by rfl, ?_⟩) (by assumption) (fun _ _ _ h => h) ?_
     rotate_left 1
     ·(intro w_ hSw_; (try dsimp only at hSw_); go_simp; (try with_reducible rfl))
     (try simp only [Act.put, Lp0, Lp1, Lp2])
     refine' tkO (i := 6) rfl (by decide +kernel) (Or.inl ⟨by rfl, ?_⟩) (by assumption) (fun _ _ _ h => h) ?_
     rotate_left 1
     ·(intro w_ hSw_; (try dsimp only at hSw_); go_simp; (try with_reducible rfl))
     (try simp only [Act.put, Lp0, Lp1, Lp2])
     refine' tkO (i := 7) rfl (by decide +kernel) (Or.inl ⟨by rfl, ?_⟩) (by assumption) (fun _ _ _ h => h) ?_
     rotate_left 1
     ·(intro w_ hSw_; (try dsimp only at hSw_); go_simp; (try with_reducible rfl))
     (try simp only [Act.put, Lp0, Lp1, Lp2])
     refine' tkO (i := 8) rfl (by decide +kernel) (Or.inl ⟨by rfl, ?_⟩) (by assumption) (fun _ _ _ h => h) ?_
     rotate_left 1
     ·(intro w_ hSw_; (try dsimp only at hSw_); go_simp; (try with_reducible rfl))
     (try simp only [Act.put, Lp0, Lp1, Lp2])
     refine' tkO (i := 9) rfl (by decide +kernel) (Or.inl ⟨by rfl, ?_⟩) (by assumption) (fun _ _ _ h => h) ?_
     rotate_left 1
     ·(intro w_ hSw_; (try dsimp only at hSw_); go_simp; (try with_reducible rfl))
     (try simp only [Act.put, Lp0, Lp1, Lp2])
     refine' tkO (i := 10) rfl (by decide +kernel) (Or.inl ⟨by rfl, ?_⟩) (by assumption) (fun _ _ _ h => h) ?_
     rotate_left 1
     ·(intro w_ hSw_; (try dsimp only at hSw_); go_simp; (try with_reducible rfl))
     (try simp only [Act.put, Lp0, Lp1, Lp2])
     refine' tkO (i := 11) rfl (by decide +kernel) (Or.inl ⟨by rfl, ?_⟩) (by assumption) (fun _ _ _ h => h) ?_
     rotate_left 1
     ·(intro w_ hSw_; (try dsimp only at hSw_); go_simp; (try with_reducible rfl))
     (try simp only [Act.put, Lp0, Lp1, Lp2])
     refine' Ords.step (i := 12) (by kernel_rfl) (by simp only [List.getElem?_toArray, List.getElem?_cons_succ, List.getElem?_cons_zero]; rfl) (fun K hK => ?_)
     go_simp
     (go_at_call 56; (with_reducible refine (HG.out _ (bel_step HB BG)).mono ?_); rintro e y1 ⟨R2, d2, rfl, m2, hq2⟩; have qv1 : Below v2.heap.size v2 y1 := bel_step BG hq2)
     (try go_wp2_with fail)
     refine hK.out _ _ ?_ (fun hHeld => ?_)
     ·(first | ((try dsimp only); repeat' (first | with_reducible assumption | apply And.intro | (with_reducible refine keep_alloc ?_) | (with_reducible refine keep_drew ?_) | (with_reducible refine keep_set (by omega) ?_) | (with_reducible refine keep_sets (by omega) ?_) | (with_reducible refine keep_cell (W := v2) ?_ ?_) | fail)))
     clear hK K
     (try simp only [Act.put, Lp0, Lp1, Lp2])
     refine' Ords.step (i := 13) (by kernel_rfl) (by simp only [List.getElem?_toArray, List.getElem?_cons_succ, List.getElem?_cons_zero]; rfl) (fun K hK => ?_)
     go_simp
     (go_at_call 55; (with_reducible refine (HQ.out _ (bel_step HB BG) _ _ m2).mono ?_); rintro e y2 ⟨R3, d3, rfl, m3, hq3⟩; have qv2 : Below v2.heap.size v2 y2 := bel_step BG hq3)
     (try go_wp2_with fail)
     refine hK.out _ _ ?_ (fun hHeld => ?_)
     ·(first | ((try dsimp only); repeat' (first | with_reducible assumption | apply And.intro | (with_reducible refine keep_alloc ?_) | (with_reducible refine keep_drew ?_) | (with_reducible refine keep_set (by omega) ?_) | (with_reducible refine keep_sets (by omega) ?_) | (with_reducible refine keep_cell (W := v2) ?_ ?_) | fail)))
     clear hK K
     (try simp only [Act.put, Lp0, Lp1, Lp2])
     refine' Ords.step (i := 14) (by kernel_rfl) (by simp only [List.getElem?_toArray, List.getElem?_cons_succ, List.getElem?_cons_zero]; rfl) (fun K hK => ?_)
     go_simp
     (go_at_call 53; (with_reducible refine (HMu.out _ (bel_step HB BG) _ _ m3).mono ?_); rintro e y3 ⟨R4, d4, rfl, m4, hq4⟩; have qv3 : Below v2.heap.size v2 y3 := bel_step BG hq4; have k0 := keep_cell qv3 k0; have k1 := keep_cell qv3 k1; have fz := (HS.out.zc.below (bel_step HB qv3)).fr)
     (try go_wp2_with fail)
     refine hK.out _ _ ?_ (fun hHeld => ?_)
     ·(first | ((try dsimp only); repeat' (first | with_reducible assumption | apply And.intro | (with_reducible refine keep_alloc ?_) | (with_reducible refine keep_drew ?_) | (with_reducible refine keep_set (by omega) ?_) | (with_reducible refine keep_sets (by omega) ?_) | (with_reducible refine keep_cell (W := v2) ?_ ?_) | fail)))
     clear hK K
     (try simp only [Act.put, Lp0, Lp1, Lp2])
     refine' Ords.last (by kernel_rfl) (by simp only [List.getElem?_toArray, List.getElem?_cons_succ, List.getElem?_cons_zero]; rfl) (by kernel_rfl) (fun K hK => ?_)
     go_simp
     (try go_wp2_with fail)
     refine hK.out _ _ ?_
     clear hK K
     (try simp only [Act.put, Lp0, Lp1, Lp2])
     go_wp2
     go_roundw
     case rel => exact ⟨j + 1, by omega, by go_num, by rw [hC1h.out]; exact (HS.out.below (bel_step HB qv3)).setc IC.out m4, hck2.out⟩
     case measure => simp [intOf]; omega
    ·have HNB := hid (nrmB_s hmem hs)
     have r1 := hS.r1
     have zn1 := hS.z1
     have HB := hS.b
     clear hS hmem hck hmu
     generalize fs[j] = f at *
     obtain ⟨na, A, xs, ca, nb, B, ys, cb⟩ := f
     obtain ⟨x0, x1, x2, x3, mx1, mx2⟩ := hat
     dsimp only [Rf.f, Rf.v, Rf.sz] at *
     have HVa := hid (Qvalid_any (na := na) (nb := nb) mx1 mx2)
     rw [hv] at HVa
     have hle1 : xs.length ≤ 512 ∧ ys.length ≤ 512 := by obtain ⟨_, _, _, _, _, p5, p6⟩ := fvB_ok mx1.ok mx2.ok hv; exact ⟨p5, p6⟩
     have HSz := hid fun (w2 : World) => HRsize_g (na := na) (nb := nb) (A := A) (B := B) (ca := ca) (cb := cb) (w := w2) (k := xs.length) (l := ys.length) (by omega) (by omega)
     have hm40 : (40 : Int) < ((max xs.length ys.length : Nat) : Int) := by omega
     have ltx := cell_lt x0
     clear mx1 mx2 hv hs hle1
     generalize xs.length = kx at *
     generalize ys.length = ky at *
     generalize max kx ky = mk at *
     go_wp2_with fail
     refine HVa.out.mono ?_
     rintro e v1 ⟨rfl, hv1⟩
     have x0 := keep_cell hv1 x0
     have x1 := keep_cell hv1 x1
     have x2 := keep_cell hv1 x2
     have x3 := keep_cell hv1 x3
     go_wp2_with fail
     refine (HSz.out v1).mono ?_
     rintro e v2 ⟨rfl, hv2⟩
     have hv12 := bel_step hv1 hv2
     have r1 := rng_below r1 hv12
     have zn1 := zn1.below hv12
     have HB := bel_step HB hv12
     clear x0 x1 x2 x3 HVa HSz hv1 hv2 hv12
     go_upto_region 6 with fail
     have ht := rng_there r1 zn1
     have ho := all_oneCell_toArray (cellsM_one zeros9)
     obtain ⟨G1, G2, G3, G4⟩ := fin_N (w := w) (l := zeros9) (cs := zeros9) RT54 rfl (by kernel_rfl) HB (by omega) r1 zn1 rfl (fun e he => by rw [List.eq_of_mem_replicate he]; exact ZE.zero_ok _)
     clear G1 G4
     have HF := hid G3
     clear G3
     go_wp2_with (first | refine wpList_store_mid (by rfl) _ _ _ (by rfl) (w.heap.size + 1) 0 (cellsM zeros9).toArray (by rfl) (by rfl) ht hi18.out ho ?_ | fail)
     refine bodyPost_ret (v := .tuple #[.agg (cellsM zeros9).toArray, .bool false]) ?_ rfl ?_
     ·simp [results, Tryz.results62, Sem.run_bind, asAddr, G2]
     ·rw [HNB.out]
      exact ⟨zeros9, rfl, rfl, fun h => by simp at h, HF.out⟩
   ·have HNB := hid (nrmB_v hmem (by simpa using hv))
    have r1 := hS.r1
    have zn1 := hS.z1
    have HB := hS.b
    clear hS hmem hck hmu
    generalize fs[j] = f at *
    obtain ⟨na, A, xs, ca, nb, B, ys, cb⟩ := f
    obtain ⟨x0, x1, x2, x3, mx1, mx2⟩ := hat
    dsimp only [Rf.f, Rf.v, Rf.sz] at *
    have HVa := hid (Qvalid_any (na := na) (nb := nb) mx1 mx2)
    rw [show fvB na xs nb ys = false by simpa using hv] at HVa
    have ltx := cell_lt x0
    clear mx1 mx2 hv
    generalize xs.length = kx at *
    generalize ys.length = ky at *
    go_wp2_with fail
    refine HVa.out.mono ?_
    rintro e v1 ⟨rfl, hv1⟩
    have r1 := rng_below r1 hv1
    have zn1 := zn1.below hv1
    have HB := bel_step HB hv1
    clear x0 x1 x2 x3 HVa hv1
    go_upto_region 6 with fail
    have ht := rng_there r1 zn1
    have ho := all_oneCell_toArray (cellsM_one zeros9)
    obtain ⟨G1, G2, G3, G4⟩ := fin_N (w := w) (l := zeros9) (cs := zeros9) RT54 rfl (by kernel_rfl) HB (by omega) r1 zn1 rfl (fun e he => by rw [List.eq_of_mem_replicate he]; exact ZE.zero_ok _)
    clear G1 G4
    have HF := hid G3
    clear G3
    go_wp2_with (first | refine wpList_store_mid (by rfl) _ _ _ (by rfl) (w.heap.size + 1) 0 (cellsM zeros9).toArray (by rfl) (by rfl) ht hi18.out ho ?_ | fail)
    refine bodyPost_ret (v := .tuple #[.agg (cellsM zeros9).toArray, .bool false]) ?_ rfl ?_
    ·simp [results, Tryz.results62, Sem.run_bind, asAddr, G2]
    ·rw [HNB.out]
     exact ⟨zeros9, rfl, rfl, fun h => by simp at h, HF.out⟩
  ·have hj9 : (j : Int) = 9 := by omega
   rw [hj9]
   obtain rfl : j = 9 := by omega
   clear hj9
   have hq9 : (fs.map Rf.f).length = 9 := by simpa using h9
   rw [List.take_of_length_le (by omega)] at hS
   have hc0 : chkZ 40 fs = 0 := by have := hck.out; rwa [List.take_of_length_le (by omega)] at this
   have hmu := HM.out wr hS.b
   have hbz := chk_bz (k := 1280) hc0 (by omega) hmu
   obtain ⟨hzok, hzf⟩ := zl_good fs (chk_parts hc0).1 hmu
   have hbC := comZ_take_bz (k := 1280) (fs := fs.map Rf.f) (fun f hf => (hbz f hf).1.2.2) 9
   rw [List.take_of_length_le (by omega), hq9] at hbC
   have hdv := comZ_dvd (fs.map Rf.f)
   have hzb := intZ_bz (k := 1280) (l := fs.map Rf.f) (fun f hf => (hbz f hf).1.2)
   rw [hq9] at hzb
   have hzl : (intZ (fs.map Rf.f)).length = 9 := by rw [intZ_len, hq9]
   have hzj : ∀ j (h : j < (fs.map Rf.f).length), (intZ (fs.map Rf.f))[j]? = some ((fs.map Rf.f)[j].1 * ((comZ (fs.map Rf.f) / (fs.map Rf.f)[j].2 : Nat) : Int)) := fun j h => by unfold intZ; rw [List.getElem?_map, List.getElem?_eq_getElem h]; rfl
   have hNZ : Hid (nrmZ fs = redZ (intZ (fs.map Rf.f))) := rfl
   have hNB : Hid (nrmB fs = (le40 (nrmZ fs) && decide (detZ (nrmZ fs) ≠ 0))) := by unfold Hid nrmB; rw [decide_eq_true hc0]; rfl
   generalize nrmZ fs = NZ at *
   generalize nrmB fs = NB at *
   generalize intZ (fs.map Rf.f) = zs at *
   generalize comZ (fs.map Rf.f) = C at *
   generalize fs.map Rf.f = qs at *
   obtain ⟨ec, hd1, hd2, k0, k1⟩ := hS.c
   have hlt := hS.hg
   have hgc := hS.zc.lt
   have HZ0 := hid fun (W : World) (h : Below wr.heap.size wr W) e (he : e ∈ zl fs) => (hzok e he).below h
   have HD0 := hid fun (W : World) (h : Below wr.heap.size wr W) => hd2.below h
   have hck9 : (cellsM [ec]) = [.bool ec.b, .slice ec.A ec.n ec.c] := rfl
   go_upto_region 8 with fail
   go_upto_region 9 with fail
   refine enterR (P := fun u => Code.wp _ _ _ _ u) ?_
   intro v2 hv2 q0 zq hsz2
   clear hsz2
   have hF : Fil w [(w.heap.size + 1, cellsM zeros9), (gc, cellsM [ec])] wr.heap.size (sofar zs 0) v2 := ⟨bel_step hS.b hv2, by
    intro p hp
    simp only [List.mem_cons, List.not_mem_nil, or_false] at hp
    rcases hp with rfl | rfl
    ·exact ⟨rng_below hS.r1 hv2, hS.z1.below hv2, by dsimp only; omega⟩
    ·refine ⟨?_, hS.zc.below hv2, by dsimp only; omega⟩
     intro j v hv
     match j, hv with
     | 0, hv => obtain rfl := Option.some.inj hv; exact keep_cell hv2 k0
     | 1, hv => obtain rfl := Option.some.inj hv; exact keep_cell hv2 k1, zq, by omega, zeros9, q0, fun e he => by rw [List.eq_of_mem_replicate he]; exact ZE.zero_ok _, by rw [sofar_none, hzl]; rfl⟩
   have r0 := rng_below hS.r0 hv2
   clear hS q0 zq k0 k1 hmu hzok hd2 hck hck9 HM
   obtain ⟨gm, hgm⟩ : ∃ gm, gm = wr.heap.size := ⟨_, rfl⟩
   rw [← hgm] at hF ⊢
   have hgU := hid (show wr.heap.size ≤ gm from Nat.le_of_eq hgm.symm)
   have hgm0 : w.heap.size < gm := by omega
   rw [← hgm] at hgc
   clear hgm
   generalize wr = V0 at *
   go_wp2
   go_loopw [7] (fun s7 wr => ∃ j : Nat, j ≤ 9 ∧ s7 = .int .i64 j ∧ Fil w [(w.heap.size + 1, cellsM zeros9), (gc, cellsM [ec])] gm (sofar zs j) wr ∧ wr.rangeAt w.heap.size 0 (cellsM (zl fs)) ∧ Below V0.heap.size V0 wr) (fun s7 _ => 9 - (intOf s7).toNat)
   case atStart => exact ⟨0, by omega, rfl, hF, r0, hv2⟩
   case round =>
    obtain ⟨j, hj, rfl, hS, r0', hbv⟩ := hrel
    clear hF r0 hv2
    by_cases h9j : j < 9
    ·have hj2 : j < qs.length := by omega
     have h9i : (j : Int) < 9 := by omega
     obtain ⟨g1, g2, g3, g4⟩ := frZ_at hzf j hj2
     have hop := HZ0.out wr hbv _ (List.getElem_mem g1)
     have hoq := HZ0.out wr hbv _ (List.getElem_mem g2)
     obtain ⟨x0, x1⟩ := rng_cell r0' g1
     obtain ⟨x2, x3⟩ := rng_cell r0' g2
     rw [show 2 * j * 2 = j * 4 by omega] at x0 x1
     rw [show (2 * j + 1) * 2 = j * 4 + 2 by omega] at x2 x3
     have hd2 := HD0.out wr hbv
     obtain ⟨kc, zc, nc⟩ := hS.k (gc, cellsM [ec]) (by simp)
     dsimp only at kc nc
     have k0 : wr.cell? ⟨gc, 0, none⟩ = some (.bool ec.b) := kc 0 _ rfl
     have k1 : wr.cell? ⟨gc, 1, none⟩ = some (.slice ec.A ec.n ec.c) := kc 1 _ rfl
     have hpD := (hbz qs[j] (List.getElem_mem hj2)).1.1
     have hbD := bz_nat (hbz qs[j] (List.getElem_mem hj2)).1.2.2
     have hbN := (hbz qs[j] (List.getElem_mem hj2)).1.2.1
     have hdj := hdv qs[j] (List.getElem_mem hj2)
     have hjz : j < zs.length := by omega
     have hzz : zs[j] = qs[j].1 * ((C / qs[j].2 : Nat) : Int) := by have := hzj j hj2; rw [List.getElem?_eq_getElem hjz] at this; exact Option.some.inj this
     have hzbj := hzb zs[j] (List.getElem_mem hjz)
     have hlen : (sofar zs j).length = 9 := by rw [sofar_len _ _ (by omega), hzl]
     obtain ⟨td, _, _, c0, c1⟩ := hS.cell (j := j) (by omega)
     have hsn := sofar_set zs j hjz
     rw [← g4] at hbD
     rw [← g3] at hbN hzz
     generalize (zl fs)[2 * j] = p at *
     generalize (zl fs)[2 * j + 1] = q at *
     generalize qs[j].2 = D at *
     have hQb : Bz (1280 * 9 + 1) ((C / D : Nat) : Int) := by
      have := Nat.div_le_self C D
      unfold Bz at hbC ⊢
      rw [Int.natAbs_natCast] at hbC ⊢
      omega
     have hQ0 : dmQ ec.z q.z = ((C / D : Nat) : Int) := by rw [hd1, g4]; exact dmQ_nat (by omega) hdj
     have hzz' : p.z * ((C / D : Nat) : Int) = zs[j] := hzz.symm
     rw [← hd1] at hbC
     generalize C / D = Q at *
     obtain ⟨qb, qn, qL, IQ⟩ := iz (Q : Int)
     obtain ⟨cb, cn, cL, IC⟩ := iz (zs[j])
     have HQ := hid fun (w2 : World) (h : Below wr.heap.size wr w2) => HRquotient_g (w := w2) hd2.i hoq.i IQ.out (hd2.m.below h) (hoq.m.below h) (hbC.ft (by omega)) (hbD.ft (by omega)) (by rw [g4]; omega) hQ0
     have HMu := hid fun (w2 : World) (h : Below wr.heap.size wr w2) (B : Option Addr) (d : Nat) (m : Mg w2 B d qL) => HRmul_g (w := w2) hop.i IQ.out IC.out (hop.m.below h) m (hbN.ft (by omega)) (hQb.ft (by omega)) (hzbj.ft (by omega)) hzz'
     have HS := hid hS
     have HN := hid hsn
     have HR0 := hid r0'
     have ltx := cell_lt x0
     have lt2 := cell_lt k0
     have ltm := cell_lt c0
     have fm := hS.zm.fr
     clear hS kc zc hop hoq hd2 hbC hpD hbD hbN hdj hzz hzz' hzbj hQb hQ0 g3 g4 hsn r0'
     obtain ⟨pz, pb, pn, pxs, pA, pc⟩ := p
     obtain ⟨qz, qqb, qqn, qxs, qA, qc⟩ := q
     obtain ⟨zd_, bd_, nd_, xd_, Ad_, cd_⟩ := td
     dsimp only at *
     have HB := Below.refl wr.heap.size wr
     go_upto_region 12 with fail
     refine wp_region_held_drew (S := fun w' => (w'.cell? ⟨gc, 0, none⟩ = some (.bool ec.b) ∧ w'.cell? ⟨gc, 1, none⟩ = some (.slice ec.A ec.n ec.c)) ∧ (w'.cell? ⟨w.heap.size, j * 4, none⟩ = some (.bool pb) ∧ w'.cell? ⟨w.heap.size, j * 4 + 1, none⟩ = some (.slice pA pn pc)) ∧ (w'.cell? ⟨w.heap.size, j * 4 + 2, none⟩ = some (.bool qqb) ∧ w'.cell? ⟨w.heap.size, j * 4 + 3, none⟩ = some (.slice qA qqn qc))) (by kernel_rfl) ?_ (fun hHeld => ?_)
     ·exact ⟨⟨k0, k1⟩, ⟨x0, x1⟩, ⟨x2, x3⟩⟩
     refine' tk (i := 0) rfl (by decide +kernel) (Or.inl ⟨by rfl, ?_⟩) (by assumption) (fun _ _ _ h => h) ?_
     rotate_left 1
     ·(intro w_ hSw_; (try dsimp only at hSw_); go_simp; (try with_reducible rfl))
     (try simp only [Act.put, Lp0, Lp1, Lp2])
     refine' tk (i := 1) rfl (by decide +kernel) (Or.inl ⟨by rfl, ?_⟩) (by assumption) (fun _ _ _ h => h) ?_
     rotate_left 1
     ·(intro w_ hSw_; (try dsimp only at hSw_); go_simp; (try with_reducible rfl))
     (try simp only [Act.put, Lp0, Lp1, Lp2])
     refine' tk (i := 2) rfl (by decide +kernel) (Or.inl ⟨by rfl, ?_⟩) (by assumption) (fun _ _ _ h => h) ?_
     rotate_left 1
     ·(intro w_ hSw_; (try dsimp only at hSw_); go_simp; (try with_reducible rfl))
     (try simp only [Act.put, Lp0, Lp1, Lp2])
     refine' tk (i := 3) rfl (by decide +kernel) (Or.inl ⟨by rfl, ?_⟩) (by assumption) (fun _ _ _ h => h) ?_
     rotate_left 1
     ·(intro w_ hSw_; (try dsimp only at hSw_); go_simp; (try with_reducible rfl))
     (try simp only [Act.put, Lp0, Lp1, Lp2])
     refine' tk (i := 4) rfl (by decide +kernel) (Or.inl ⟨by rfl, ?_⟩) (by assumption) (fun _ _ _ h => h) ?_
     rotate_left 1
     ·(intro w_ hSw_; (try dsimp only at hSw_); go_simp; (try with_reducible rfl))
     (try simp only [Act.put, Lp0, Lp1, Lp2])
     refine' tk (i := 5) rfl (by decide +kernel) (Or.inl ⟨by rfl, ?_⟩) (by assumption) (fun _ _ _ h => h) ?_
     rotate_left 1
     ·(intro w_ hSw_; (try dsimp only at hSw_); go_simp; (try with_reducible rfl))
     (try simp only [Act.put, Lp0, Lp1, Lp2])
     refine' tk (i := 6) rfl (by decide +kernel) (Or.inl ⟨by rfl, ?_⟩) (by assumption) (fun _ _ _ h => h) ?_
     rotate_left 1
     ·(intro w_ hSw_; (try dsimp only at hSw_); go_simp; (try with_reducible rfl))
     (try simp only [Act.put, Lp0, Lp1, Lp2])
     refine' tk (i := 7) rfl (by decide +kernel) (Or.inl ⟨by rfl, ?_⟩) (by assumption) (fun _ _ _ h => h) ?_
     rotate_left 1
     ·(intro w_ hSw_; (try dsimp only at hSw_); go_simp; (try with_reducible rfl))
     (try simp only [Act.put, Lp0, Lp1, Lp2])
     refine' tk (i := 8) rfl (by decide +kernel) (Or.inl ⟨by rfl, ?_⟩) (by assumption) (fun _ _ _ h => h) ?_
     rotate_left 1
     ·(intro w_ hSw_; (try dsimp only at hSw_); go_simp; (try with_reducible rfl))
     (try simp only [Act.put, Lp0, Lp1, Lp2])
     refine' tk (i := 9) rfl (by decide +kernel) (Or.inl ⟨by rfl, ?_⟩) (by assumption) (fun _ _ _ h => h) ?_
     rotate_left 1
     ·(intro w_ hSw_; (try dsimp only at hSw_); go_simp; (try with_reducible rfl))
     (try simp only [Act.put, Lp0, Lp1, Lp2])
     refine' tk (i := 10) rfl (by decide +kernel) (Or.inl ⟨by rfl, ?_⟩) (by assumption) (fun _ _ _ h => h) ?_
     rotate_left 1
     ·(intro w_ hSw_; (try dsimp only at hSw_); go_simp; (try with_reducible rfl))
     (try simp only [Act.put, Lp0, Lp1, Lp2])
     refine' tk (i := 11) rfl (by decide +kernel) (Or.inl ⟨by rfl, ?_⟩) (by assumption) (fun _ _ _ h => h) ?_
     rotate_left 1
     ·(intro w_ hSw_; (try dsimp only at hSw_); go_simp; (try with_reducible rfl))
     (try simp only [Act.put, Lp0, Lp1, Lp2])
     refine br1 (i := 12) (by decide +kernel) rfl (fun K hK => ?_)
     go_simp
     (go_at_call 55; (with_reducible refine (HQ.out _ (bel_step HB BG)).mono ?_); rintro e y1 ⟨R3, d3, rfl, m3, hq3⟩; have qv1 : Below wr.heap.size wr y1 := bel_step BG hq3)
     (try go_wp2_with fail)
     refine hK.out _ _ ?_ (fun hHeld => ?_)
     ·(first | ((try dsimp only); repeat' (first | with_reducible assumption | apply And.intro | (with_reducible refine keep_alloc ?_) | (with_reducible refine keep_drew ?_) | (with_reducible refine keep_set (by omega) ?_) | (with_reducible refine keep_sets (by omega) ?_) | (with_reducible refine keep_cell (W := wr) ?_ ?_) | fail)))
     clear hK K
     (try simp only [Act.put, Lp0, Lp1, Lp2])
     refine br1 (i := 13) (by decide +kernel) rfl (fun K hK => ?_)
     go_simp
     (go_at_call 53; (with_reducible refine (HMu.out _ (bel_step HB BG) _ _ m3).mono ?_); rintro e y3 ⟨R4, d4, rfl, m4, hq4⟩; have qv3 : Below wr.heap.size wr y3 := bel_step BG hq4; have c0 := keep_cell qv3 c0; have c1 := keep_cell qv3 c1; have fz := (HS.out.zm.below qv3).fr; have k0 := keep_cell qv3 k0; have k1 := keep_cell qv3 k1; have x0 := keep_cell qv3 x0; have x1 := keep_cell qv3 x1; have x2 := keep_cell qv3 x2; have x3 := keep_cell qv3 x3)
     (try go_wp2_with fail)
     refine hK.out _ _ ?_ (fun hHeld => ?_)
     ·(first | ((try dsimp only); repeat' (first | with_reducible assumption | apply And.intro | (with_reducible refine keep_alloc ?_) | (with_reducible refine keep_drew ?_) | (with_reducible refine keep_set (by omega) ?_) | (with_reducible refine keep_sets (by omega) ?_) | (with_reducible refine keep_cell (W := wr) ?_ ?_) | fail)))
     clear hK K
     (try simp only [Act.put, Lp0, Lp1, Lp2])
     refine' tk (i := 14) rfl (by decide +kernel) (Or.inl ⟨by rfl, ?_⟩) (by assumption) (fun _ _ _ h => h) ?_
     rotate_left 1
     ·(intro w_ hSw_; (try dsimp only at hSw_); go_simp; (try with_reducible rfl))
     (try simp only [Act.put, Lp0, Lp1, Lp2])
     refine br1 (i := 15) (by decide +kernel) rfl (fun K hK => ?_)
     go_simp
     skip
     (try go_wp2_with fail)
     refine hK.out _ _ ?_ (fun hHeld => ?_)
     ·(exact ⟨⟨keep_set (Ne.symm nc) (keep_set (Ne.symm nc) k0), keep_set (Ne.symm nc) (keep_set (Ne.symm nc) k1)⟩, ⟨keep_set (by omega) (keep_set (by omega) x0), keep_set (by omega) (keep_set (by omega) x1)⟩, ⟨keep_set (by omega) (keep_set (by omega) x2), keep_set (by omega) (keep_set (by omega) x3)⟩⟩)
     clear hK K
     (try simp only [Act.put, Lp0, Lp1, Lp2])
     refine wpAnyH_done (by kernel_rfl) ?_ _
     have hF5 := (HS.out.below qv3).set (j := j) (by omega) IC.out m4
     rw [HN.out] at hF5
     have HF5 := hid hF5
     have hr5 := hid (rng_set (rng_set (rng_below HR0.out qv3) (show gm ≠ w.heap.size by omega) (i := j * 2) (v := .bool cb)) (show gm ≠ w.heap.size by omega) (i := j * 2 + 1) (v := .slice R4 cn d4))
     have hb5 := hid (below_set (below_set (bel_step hbv qv3) hgU.out (j * 2) (.bool cb)) hgU.out (j * 2 + 1) (.slice R4 cn d4))
     clear hF5
     go_wp2
     go_roundw
     case rel => exact ⟨j + 1, by omega, by go_num, HF5.out, hr5.out, hb5.out⟩
     case measure => simp [intOf]; omega
    ·have hj9 : (j : Int) = 9 := by omega
     rw [hj9]
     obtain rfl : j = 9 := by omega
     clear hj9
     have hS' : Fil w [(w.heap.size + 1, cellsM zeros9), (gc, cellsM [ec])] gm zs wr := by
      have := hS
      rwa [show 9 = zs.length from hzl.symm, sofar_all] at this
     obtain ⟨lm, e2, e3, e4⟩ := hS'.ex
     obtain ⟨r1, zn1, _⟩ := hS'.k (w.heap.size + 1, cellsM zeros9) (by simp)
     dsimp only at r1 zn1
     have zm := hS'.zm
     have HB := hS'.b
     have e1 : lm.length = 9 := by rw [← List.length_map (·.z), e4, hzl]
     have hi9 := hid (show (Tryz.prog.info? 54).map (·.size) = some (cellsM lm).length by rw [cellsM_len, e1]; kernel_rfl)
     have HRd := hid (HRreduce_g lm e1 (w := wr) e3 (k := 1280 * 9 + 1 + 1280) (by omega) (fun e he => hzb e.z (e4 ▸ List.mem_map.2 ⟨e, he, rfl⟩)))
     rw [e4, ← hNZ.out] at HRd
     have hNl : NZ.length = 9 := by rw [hNZ.out, redZ_len, hzl]
     clear hS hS' hzb hzl hdv hzj hbz hzf HZ0 HD0 hd1 hbC r0' hbv e3 hNZ hc0
     go_wp2_with (first | refine wpList_load_mid (by rfl) _ _ (by rfl) gm 0 (by rfl) (cellsM lm) _ e2 RT54 (by rfl) hi9.out ?_ | fail)
     refine HRd.out.mono ?_
     rintro e w3 ⟨l3, rfl, hz3, hok3, h3⟩
     have hl3 : l3.length = 9 := by rw [← List.length_map (·.z), hz3, hNl]
     have h18 : (cellsM l3).length = 18 := by rw [cellsM_len, hl3]
     have hi3 := hid (show (Tryz.prog.info? 54).map (·.size) = some (cellsM l3).length by rw [h18]; exact hi18.out)
     have hi3' := hid (show (Tryz.prog.info? 54).map (·.size) = some (cellsM l3).toArray.size by rw [List.size_toArray, h18]; exact hi18.out)
     have e2w := rng_below e2 h3
     have zmw := zm.below h3
     have hlm : (cellsM l3).length = (cellsM lm).length := by rw [h18, cellsM_len, e1]
     have ht := rng_there e2w zmw
     rw [show (cellsM lm).length = (cellsM l3).toArray.size by rw [List.size_toArray, hlm]] at ht
     have ho := all_oneCell_toArray (cellsM_one l3)
     have hgw : w.heap.size ≤ gm := by omega
     obtain ⟨_, _, G3, G4⟩ := fin_N (w := w) (l := l3) (cs := lm) RT54 rfl hi3.out (bel_step HB h3) hgw e2w zmw (by rw [hl3, e1]) hok3
     have hne1 : w.heap.size + 1 ≠ gm := by omega
     have r1 := rng_far (o := 0) (vs := cellsM l3) (rng_below r1 h3) hne1
     have zn1 := Zn.sets (k := gm) (cellsM l3) w3 _ 0 (zn1.below h3)
     have p0 := rng_same e2w zmw (vs := cellsM l3) hlm
     have pz := Zn.sets (k := gm) (cellsM l3) w3 _ 0 zmw
     clear HRd HB e2 e2w zm zmw hok3 h3 hi9
     go_wp2_with (first | refine wpList_store_mid (by rfl) _ _ _ (by rfl) gm 0 (cellsM l3).toArray (by rfl) (by rfl) ht hi3'.out ho ?_ | fail)
     generalize hU : w3.setCells gm 0 (cellsM l3) = U at *
     clear hU ht
     have hle := le40_ok G4
     rw [hz3] at hle
     have hB0 := Below.refl U.heap.size U
     go_loopw [8] (fun s8 wr => ∃ j : Nat, j ≤ 9 ∧ s8 = .int .i64 j ∧ Below U.heap.size U wr ∧ Hid (∀ i (h : i < l3.length), i < j → l3[i].n ≤ 40)) (fun s8 _ => 9 - (intOf s8).toNat)
     case atStart => exact ⟨0, by omega, rfl, hB0, fun i _ h => by omega⟩
     case round =>
      obtain ⟨j, hj, rfl, hbl, hp⟩ := hrel
      clear hB0
      by_cases h9j : j < 9
      ·have h9i : (j : Int) < 9 := by omega
       have hj3 : j < l3.length := by omega
       obtain ⟨c0, c1⟩ := rng_cell (rng_below p0 hbl) hj3
       have hbad : ¬ l3[j].n ≤ 40 → NB = false := fun h => by
        rw [hNB.out, ← hle, decide_eq_false fun h' => h (h' _ (List.getElem_mem hj3))]; rfl
       have hgood : l3[j].n ≤ 40 → ∀ i (h : i < l3.length), i < j + 1 → l3[i].n ≤ 40 := fun h i hi hi2 => by
        rcases Nat.lt_or_ge i j with h4 | h4
        ·exact hp.out i hi h4
        ·have e : i = j := by omega
         subst e; exact h
       generalize l3[j] = e at *
       by_cases h40 : e.n ≤ 40
       ·have hng : ¬ (40 : Int) < (e.n : Int) := by omega
        have HG := hid (hgood h40)
        clear hbad hgood h40 hp
        go_wp2
        go_roundw
        case rel => exact ⟨j + 1, by omega, by go_num, hbl, HG.out⟩
        case measure => simp [intOf]; omega
       ·have hng : (40 : Int) < (e.n : Int) := by omega
        have HNB := hid (hbad h40)
        have r1 := rng_below r1 hbl
        have zn1 := zn1.below hbl
        have HB := bel_step G3 hbl
        clear hbad hgood h40 hp G3 G4 p0 pz hle
        go_upto_region 18 with fail
        have ht := rng_there r1 zn1
        have ho := all_oneCell_toArray (cellsM_one zeros9)
        obtain ⟨G1, G2, G3, G4⟩ := fin_N (w := w) (l := zeros9) (cs := zeros9) RT54 rfl (by kernel_rfl) HB (by omega) r1 zn1 rfl (fun e he => by rw [List.eq_of_mem_replicate he]; exact ZE.zero_ok _)
        clear G1 G4
        have HF := hid G3
        clear G3
        go_wp2_with (first | refine wpList_store_mid (by rfl) _ _ _ (by rfl) (w.heap.size + 1) 0 (cellsM zeros9).toArray (by rfl) (by rfl) ht hi18.out ho ?_ | fail)
        refine bodyPost_ret (v := .tuple #[.agg (cellsM zeros9).toArray, .bool false]) ?_ rfl ?_
        ·simp [results, Tryz.results62, Sem.run_bind, asAddr, G2]
        ·rw [HNB.out]
         exact ⟨zeros9, rfl, rfl, fun h => by simp at h, HF.out⟩
      ·have hj9 : (j : Int) = 9 := by omega
       rw [hj9]
       obtain rfl : j = 9 := by omega
       clear hj9
       have hall : ∀ e ∈ l3, e.n ≤ 40 := fun e he => by obtain ⟨i, hi, rfl⟩ := List.getElem_of_mem he; exact hp.out i hi (by omega)
       rw [← hle, decide_eq_true hall, Bool.true_and] at hNB
       rw [decide_eq_true hall] at hle
       have hbz : ∀ e ∈ l3, Bz 1280 e.z := fun e he => le40_bz hle.symm e.z (hz3 ▸ List.mem_map.2 ⟨e, he, rfl⟩)
       obtain ⟨db, dn, dL, ID⟩ := iz (detZ NZ)
       have ID' := ID.out
       rw [← hz3] at ID'
       have HDe := hid fun (W : World) (h : Below wr.heap.size wr W) => HRdeterminant_g l3 hl3 (w := W) (fun e he => ((G4 e he).below hbl).below h) (k := 1280) (by omega) hbz ID'
       have hdz := ID.out.zero
       obtain ⟨tz, htz⟩ : ∃ tz, decide (dn = 0) = tz := ⟨_, rfl⟩
       have HNB : Hid (NB = !tz) := by unfold Hid; rw [hNB, ← htz, ← decide_not]; exact decide_eq_decide.2 (by rw [hdz])
       have HZ := hid fun (W : World) (A : Option Addr) (c : Nat) => HRzero_g (b := db) (n := dn) (c := c) (A := A) (w := W) tz htz
       have p0 := rng_below p0 hbl
       have r1 := rng_below r1 hbl
       have zn1 := zn1.below hbl
       have HB := bel_step G3 hbl
       have HOk := hid fun (W : World) (h : Below wr.heap.size wr W) e (he : e ∈ l3) => ((G4 e he).below hbl).below h
       clear hbl hp hall hle hbz ID ID' hdz htz hNB G3 G4 pz
       go_upto_region 19 with fail
       have HBr := Below.refl wr.heap.size wr
       refine wp_region_held_drew (S := fun w' => w'.rangeAt gm 0 (cellsM l3)) (by kernel_rfl) ?_ (fun hHeld => ?_)
       ·exact p0
       refine tk (i := 0) rfl (by decide +kernel) (yieldsIf_load_mid (by rfl) _ _ (by rfl) (gm) (0) (by rfl) (cellsM l3) _ (fun w_ hS_ => hS_) RT54 (by first | rfl | assumption) hi3.out) (by assumption) (fun _ _ _ h => h) ?_
       (try simp only [Act.put, Lp0, Lp1, Lp2])
       refine tk (i := 1) rfl (by decide +kernel) (yieldsIf_load_mid (by rfl) _ _ (by rfl) (gm) (0) (by rfl) (cellsM l3) _ (fun w_ hS_ => hS_) RT54 (by first | rfl | assumption) hi3.out) (by assumption) (fun _ _ _ h => h) ?_
       (try simp only [Act.put, Lp0, Lp1, Lp2])
       refine br1 (i := 2) (by decide +kernel) rfl (fun K hK => ?_)
       go_simp
       (go_at_call 77; (with_reducible refine (HDe.out _ (bel_step HBr BG)).mono ?_); rintro e y1 ⟨R1, d1, rfl, m1, hq1⟩; have qv1 : Below wr.heap.size wr y1 := bel_step BG hq1; have p0 := rng_below p0 qv1)
       (try go_wp2_with fail)
       refine hK.out _ _ ?_ (fun hHeld => ?_)
       ·exact p0
       clear hK K
       (try simp only [Act.put, Lp0, Lp1, Lp2])
       refine br1 (i := 3) (by decide +kernel) rfl (fun K hK => ?_)
       go_simp
       (go_at_call 51; (with_reducible refine (HZ.out _ _ _).mono ?_); rintro e y2 ⟨rfl, hq2⟩; have qv2 : Below wr.heap.size wr y2 := bel_step qv1 hq2; have p0 := rng_below p0 hq2)
       (try go_wp2_with fail)
       refine hK.out _ _ ?_ (fun hHeld => ?_)
       ·exact p0
       clear hK K
       (try simp only [Act.put, Lp0, Lp1, Lp2])
       refine' tk (i := 4) rfl (by decide +kernel) (Or.inl ⟨by rfl, ?_⟩) (by assumption) (fun _ _ _ h => h) ?_
       rotate_left 1
       ·(intro w_ hSw_; (try dsimp only at hSw_); go_simp; (try with_reducible rfl))
       (try simp only [Act.put, Lp0, Lp1, Lp2])
       have r1 := rng_below r1 qv2
       have zn1 := zn1.below qv2
       have HB := bel_step HB qv2
       have ht := rng_there r1 zn1
       rw [show (cellsM zeros9).length = (cellsM l3).toArray.size by rw [List.size_toArray, cellsM_len, cellsM_len, hl3]; rfl] at ht
       refine wpAnyH_ready (rs := [5]) (by kernel_rfl) (by simp) ?_
       refine' AllReadyH.cons (o := _) (by simp only [List.getElem?_toArray, List.getElem?_cons_succ, List.getElem?_cons_zero]; rfl) (fun K hK => ?_) AllReadyH.nil
       rw [if_pos (by rfl)]
       refine wp_store_mid _ _ _ rfl (w.heap.size + 1) 0 (cellsM l3).toArray rfl rfl ht hi3'.out (all_oneCell_toArray (cellsM_one l3)) ?_
       refine hK.out _ _ ?_ (fun hHeld => ?_)
       ·exact (rng_far p0 (Ne.symm hne1))
       clear hK K
       (try simp only [Act.put, Lp0, Lp1, Lp2])
       refine' tk (i := 6) rfl (by decide +kernel) (Or.inl ⟨by rfl, ?_⟩) (by assumption) (fun _ _ _ h => h) ?_
       rotate_left 1
       ·(intro w_ hSw_; (try dsimp only at hSw_); go_simp; (try with_reducible rfl))
       (try simp only [Act.put, Lp0, Lp1, Lp2])
       refine wpAnyH_done (by kernel_rfl) ?_ _
       obtain ⟨G1, G2, G3, G4⟩ := fin_N (w := w) (l := l3) (cs := zeros9) RT54 rfl hi3.out HB (by omega) r1 zn1 (by rw [hl3]; rfl) (HOk.out _ qv2)
       have HF := hid (And.intro G3 G4)
       clear G1 G3 G4 hHeld p0 r1 zn1 ht
       go_wp2
       refine bodyPost_ret (v := .tuple #[.agg (cellsM l3).toArray, .bool (!tz)]) ?_ rfl ?_
       ·simp [results, Tryz.results62, Sem.run_bind, asAddr, Act.put, G2]
       ·rw [HNB.out]
        exact ⟨l3, hl3, rfl, fun _ => ⟨hz3, HF.out.2⟩, HF.out.1⟩
end Go.Proofs.YtgnfobnkhjlbbaaGreat
