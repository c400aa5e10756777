/- Homographies: walk of integers (package). Conditions: none. -/
import Derived.Test.YtdkgbkbbbldliaaGreatZYQ
import Derived.Test.YtdkgbkbbbldliaaGreatZYI
set_option linter.unusedVariables false
set_option linter.unusedSimpArgs false
namespace Go.Proofs.YtdkgbkbbbldliaaGreat
open Go.RowKit Big
theorem U8 (fs : List (Int × Nat)) (j : Nat) (hj : j < fs.length) : comZ (fs.take (j + 1)) = comZ (fs.take j) * (fs[j].2 / Nat.gcd (comZ (fs.take j)) fs[j].2) := by
 rw [List.take_succ_eq_append_getElem hj, Zw]
theorem Qe {k : Nat} {fs : List (Int × Nat)} (h : ∀ f ∈ fs, f.2 < 2 ^ k) (j : Nat) : Bz (k * fs.length + 1) (comZ (fs.take j) : Int) := by
 have h1 := Hr k (fs.take j) fun f hf => h f (List.mem_of_mem_take hf)
 unfold Bz
 rw [Int.natAbs_natCast]
 refine Nat.lt_of_lt_of_le h1 (Nat.pow_le_pow_right (by decide) ?_)
 have : (fs.take j).length ≤ fs.length := by simp; omega
 have := Nat.mul_le_mul_left k this
 omega
theorem Q9 {k n : Nat} (h : n < 2 ^ k) : Bz k (n : Int) := by unfold Bz; rwa [Int.natAbs_natCast]
set_option maxRecDepth 100000 in
set_option maxHeartbeats 8000000 in
theorem Hintegers_g (l : List ZE) (fs : List (Int × Nat)) (h9 : fs.length = 9) (hfs : l.map (·.z) = frZ fs) {w : World} (hok : ∀ e ∈ l, e.ok w) {k : Nat} (hk : k * 9 + 1 + k ≤ 16384) (hp : ∀ f ∈ fs, 0 < f.2) (hb : ∀ f ∈ fs, Bz k f.1 ∧ f.2 < 2 ^ k) :
  Calls Tryz.prog 89 #[.agg (Kc l).toArray] w (RetM w (intZ fs)) := by
 have hl : l.length = 18 := by rw [← List.length_map (·.z), hfs, frZ_len, h9]
 have hi := hid (show (Tryz.prog.info? 30).map (·.size) = some (Kc l).length by rw [Kf, hl]; kernel_rfl)
 have HIx := fun (w1 : World) (j : Nat) (hj : 2 * j + 1 < l.length) => run_index_F w1 l 30 9 hl T30u j hj
 obtain ⟨I1b, I1n, I1L, I1⟩ := iz 1
 have HF := hid fun (w1 : World) => Q7 (w := w1) I1.out (by omega) (by omega)
 have hbd := fun f hf => (hb f hf).2
 go_enter Tryz.func89, Tryz.ntmps89
 go_upto_region 1 with fail
 refine Jc (P := fun u => Code.wp _ _ _ _ u) ?_
 intro u HB r0 r1 zn0 zn1 hsz
 have r1 : u.rangeAt (w.heap.size + 1) 0 (Kc Kx) := r1
 have hlt1 := zn1.lt
 go_wp2_with fail
 refine (HF.out _).mono ?_
 rintro e w1 ⟨R1, d1, rfl, m1, h1⟩
 have hlt2 : w.heap.size + 1 < w1.heap.size := Nat.lt_of_lt_of_le hlt1 h1.size
 go_upto_region 2 with fail
 refine Qh (P := fun u => Code.wp _ _ _ _ u) ?_
 intro v hv q0 q1 zq hsz2
 have hRJ : RJ w l w1.heap.size ((comZ (fs.take 0) : Nat) : Int) v := ⟨Kb HB (Kb h1 hv), Ke r0 (Kb h1 hv), Ke r1 (Kb h1 hv), zn1.below (Kb h1 hv), ⟨⟨1, I1b, I1n, I1L, R1, d1⟩, by simp [comZ], ⟨I1.out, m1.below hv⟩, q0, q1⟩, zq, hlt2⟩
 have r0 := hRJ.r0
 clear hsz hsz2 q0 q1 zq m1 r1 zn0 zn1 HB h1 hv hlt1 hlt2
 go_wp2_with (first | refine wpList_load_mid (by rfl) _ _ (by rfl) w.heap.size 0 (by rfl) (Kc l) _ r0 T30u (by rfl) hi.out ?_ | fail)
 clear r0
 go_loopw [11] (fun s11 wr => ∃ j : Nat, j ≤ 9 ∧ s11 = .int .i64 j ∧ RJ w l w1.heap.size ((comZ (fs.take j) : Nat) : Int) wr) (fun s11 _ => 9 - (intOf s11).toNat)
 case atStart => exact ⟨0, by omega, rfl, hRJ⟩
 case round =>
  obtain ⟨j, hj, rfl, hS⟩ := hrel
  clear hRJ
  by_cases h9j : j < 9
  ·have hj2 : j < fs.length := by omega
   obtain ⟨g1, g2, g3, g4⟩ := frZ_at hfs j hj2
   have hix := HIx wr j g2
   have hq := (hok l[2 * j + 1] (List.getElem_mem g2)).below hS.b
   have hcn := U8 fs j hj2
   have hbC := Qe hbd j
   have hbC' := Qe hbd (j + 1)
   rw [h9] at hbC hbC'
   have hpC := Y4 (fs.take j) fun f hf => hp f (List.mem_of_mem_take hf)
   have hpD := hp fs[j] (List.getElem_mem hj2)
   have hbD := Q9 (hbd fs[j] (List.getElem_mem hj2))
   have h9i : (j : Int) < 9 := by omega
   rw [← g4] at hbD
   generalize l[2 * j] = p at *
   generalize l[2 * j + 1] = q at *
   generalize hC1 : comZ (fs.take (j + 1)) = C1 at *
   generalize comZ (fs.take j) = C at *
   generalize fs[j].2 = D at *
   have hG0 : 0 < Nat.gcd C D := Nat.gcd_pos_of_pos_left _ hpC
   have hGd := Nat.gcd_dvd_right C D
   have hGb : Bz k ((Nat.gcd C D : Nat) : Int) := by
    have := Nat.le_of_dvd hpD hGd
    unfold Bz at hbD ⊢
    rw [g4, Int.natAbs_natCast] at hbD
    rw [Int.natAbs_natCast]
    omega
   have hQb : Bz k ((D / Nat.gcd C D : Nat) : Int) := by
    have := Nat.div_le_self D (Nat.gcd C D)
    unfold Bz at hbD ⊢
    rw [g4, Int.natAbs_natCast] at hbD
    rw [Int.natAbs_natCast]
    omega
   obtain ⟨ed, hd1, hd2, k0, k1⟩ := hS.c
   have hC1' : ed.z * ((D / Nat.gcd C D : Nat) : Int) = (C1 : Int) := by rw [hd1, hcn, Int.natCast_mul]
   have hQ0 : dmQ q.z ((Nat.gcd C D : Nat) : Int) = ((D / Nat.gcd C D : Nat) : Int) := by rw [g4]; exact W4 (by omega) hGd
   have hG1 : ((Nat.gcd ed.z.natAbs q.z.natAbs : Nat) : Int) = ((Nat.gcd C D : Nat) : Int) := by rw [hd1, g4, Int.natAbs_natCast, Int.natAbs_natCast]
   rw [← hd1] at hbC
   generalize Nat.gcd C D = G at *
   generalize D / G = Q at *
   obtain ⟨gb, gn, gL, IG⟩ := iz (G : Int)
   obtain ⟨qb, qn, qL, IQ⟩ := iz (Q : Int)
   obtain ⟨cb, cn, cL, IC⟩ := iz (C1 : Int)
   have HG := hid fun (w2 : World) (h : Below wr.heap.size wr w2) => Hgcd_g (w := w2) hd2.i hq.i IG.out (hd2.m.below h) (hq.m.below h) (hbC.ft (by omega)) (hbD.ft (by omega)) hG1
   have HQ := hid fun (w2 : World) (h : Below wr.heap.size wr w2) (B : Option Addr) (d : Nat) (m : Mg w2 B d gL) => Yu (w := w2) hq.i IG.out IQ.out (hq.m.below h) m (hbD.ft (by omega)) (hGb.ft (by omega)) (by omega) hQ0
   have HM := hid fun (w2 : World) (h : Below wr.heap.size wr w2) (B : Option Addr) (d : Nat) (m : Mg w2 B d qL) => Yg (w := w2) hd2.i IQ.out IC.out (hd2.m.below h) m (hbC.ft (by omega)) (hQb.ft (by omega)) (hbC'.ft (by omega)) hC1'
   obtain ⟨pz, pb, pn, pxs, pA, pc⟩ := p
   obtain ⟨qz, qqb, qqn, qxs, qA, qc⟩ := q
   obtain ⟨dz, db, dn, dxs, dA, dc⟩ := ed
   dsimp only at *
   have HS := hid hS
   have hC1h := hid hC1
   have lt2 := Kd k0
   clear hS hq hcn hbC hbC' hpC hpD hbD hG0 hGd hGb hQb hd1 hd2 hC1' hQ0 hG1 g1 g2 g3 g4 HIx hok hp hb hbd hC1 hfs
   go_wp2_with fail
   refine enterF (P := fun u => Code.wp _ _ _ _ u) ?_
   intro y HY t0 t1 t2 t3 zt hsz3
   clear hsz3
   have k0 := Ka HY k0
   have k1 := Ka HY k1
   have HB := HY
   refine Ords.start (x := 9) (S := fun w' => (w'.cell? ⟨w1.heap.size, 0, none⟩ = some (.bool db) ∧ w'.cell? ⟨w1.heap.size, 1, none⟩ = some (.slice dA dn dc)) ∧ (w'.cell? ⟨wr.heap.size, 2, none⟩ = some (.bool qqb) ∧ w'.cell? ⟨wr.heap.size, 3, none⟩ = some (.slice qA qqn qc))) (by kernel_rfl) ?_ (fun hHeld => ?_)
   ·exact ⟨⟨k0, k1⟩, ⟨t2, t3⟩⟩
   refine' Ords.take (i := 0) ?_ ?_ ?_ ?_ ?_ ?_ ?_ ?_ ?_
   rotate_left 2
   ·(simp only [List.getElem?_toArray, List.getElem?_cons_succ, List.getElem?_cons_zero]; rfl)
   ·kernel_rfl
   ·kernel_rfl
   ·kernel_rfl
   ·kernel_rfl
   ·exact fun _ _ _ h => h
   ·(refine Or.inl ⟨by rfl, ?_⟩; intro w_ hSw_; (try dsimp only at hSw_); go_simp; (try with_reducible rfl))
   ·assumption
   (try simp only [Act.put, Lp0, Lp1, Lp2])
   refine' Ords.take (i := 1) ?_ ?_ ?_ ?_ ?_ ?_ ?_ ?_ ?_
   rotate_left 2
   ·(simp only [List.getElem?_toArray, List.getElem?_cons_succ, List.getElem?_cons_zero]; rfl)
   ·kernel_rfl
   ·kernel_rfl
   ·kernel_rfl
   ·kernel_rfl
   ·exact fun _ _ _ h => h
   ·(refine Or.inl ⟨by rfl, ?_⟩; intro w_ hSw_; (try dsimp only at hSw_); go_simp; (try with_reducible rfl))
   ·assumption
   (try simp only [Act.put, Lp0, Lp1, Lp2])
   refine' Ords.take (i := 2) ?_ ?_ ?_ ?_ ?_ ?_ ?_ ?_ ?_
   rotate_left 2
   ·(simp only [List.getElem?_toArray, List.getElem?_cons_succ, List.getElem?_cons_zero]; rfl)
   ·kernel_rfl
   ·kernel_rfl
   ·kernel_rfl
   ·kernel_rfl
   ·exact fun _ _ _ h => h
   ·(refine Or.inl ⟨by rfl, ?_⟩; intro w_ hSw_; (try dsimp only at hSw_); go_simp; (try with_reducible rfl))
   ·assumption
   (try simp only [Act.put, Lp0, Lp1, Lp2])
   refine' Ords.take (i := 3) ?_ ?_ ?_ ?_ ?_ ?_ ?_ ?_ ?_
   rotate_left 2
   ·(simp only [List.getElem?_toArray, List.getElem?_cons_succ, List.getElem?_cons_zero]; rfl)
   ·kernel_rfl
   ·kernel_rfl
   ·kernel_rfl
   ·kernel_rfl
   ·exact fun _ _ _ h => h
   ·(refine Or.inl ⟨by rfl, ?_⟩; intro w_ hSw_; (try dsimp only at hSw_); go_simp; (try with_reducible rfl))
   ·assumption
   (try simp only [Act.put, Lp0, Lp1, Lp2])
   refine' Ords.take (i := 4) ?_ ?_ ?_ ?_ ?_ ?_ ?_ ?_ ?_
   rotate_left 2
   ·(simp only [List.getElem?_toArray, List.getElem?_cons_succ, List.getElem?_cons_zero]; rfl)
   ·kernel_rfl
   ·kernel_rfl
   ·kernel_rfl
   ·kernel_rfl
   ·exact fun _ _ _ h => h
   ·(refine Or.inl ⟨by rfl, ?_⟩; intro w_ hSw_; (try dsimp only at hSw_); go_simp; (try with_reducible rfl))
   ·assumption
   (try simp only [Act.put, Lp0, Lp1, Lp2])
   refine' Ords.take (i := 5) ?_ ?_ ?_ ?_ ?_ ?_ ?_ ?_ ?_
   rotate_left 2
   ·(simp only [List.getElem?_toArray, List.getElem?_cons_succ, List.getElem?_cons_zero]; rfl)
   ·kernel_rfl
   ·kernel_rfl
   ·kernel_rfl
   ·kernel_rfl
   ·exact fun _ _ _ h => h
   ·(refine Or.inl ⟨by rfl, ?_⟩; intro w_ hSw_; (try dsimp only at hSw_); go_simp; (try with_reducible rfl))
   ·assumption
   (try simp only [Act.put, Lp0, Lp1, Lp2])
   refine' Ords.step (i := 6) (by kernel_rfl) (by simp only [List.getElem?_toArray, List.getElem?_cons_succ, List.getElem?_cons_zero]; rfl) (fun K hK => ?_)
   go_simp
   (go_at_call 122; (with_reducible refine (HG.out _ (Kb HB BG)).mono ?_); rintro e v1 ⟨R2, d2, rfl, m2, hq2⟩; have qv1 : Below y.heap.size y v1 := Kb BG hq2)
   (try go_wp2_with fail)
   refine' HKa hK (by (first | ((try dsimp only); repeat' (first | with_reducible assumption | apply And.intro | (with_reducible refine Kk ?_) | (with_reducible refine Kn ?_) | (with_reducible refine Kh (by omega) ?_) | (with_reducible refine Kp (by omega) ?_) | (with_reducible refine Ka (W := y) ?_ ?_) | fail)))) (fun hHeld => ?_)
   clear hK K
   refine' Ords.step (i := 7) (by kernel_rfl) (by simp only [List.getElem?_toArray, List.getElem?_cons_succ, List.getElem?_cons_zero]; rfl) (fun K hK => ?_)
   go_simp
   (go_at_call 121; (with_reducible refine (HQ.out _ (Kb HB BG) _ _ (m2.below BG)).mono ?_); rintro e v2 ⟨R3, d3, rfl, m3, hq3⟩; have qv2 : Below y.heap.size y v2 := Kb BG hq3)
   (try go_wp2_with fail)
   refine' HKa hK (by (first | ((try dsimp only); repeat' (first | with_reducible assumption | apply And.intro | (with_reducible refine Kk ?_) | (with_reducible refine Kn ?_) | (with_reducible refine Kh (by omega) ?_) | (with_reducible refine Kp (by omega) ?_) | (with_reducible refine Ka (W := y) ?_ ?_) | fail)))) (fun hHeld => ?_)
   clear hK K
   refine' Ords.step (i := 8) (by kernel_rfl) (by simp only [List.getElem?_toArray, List.getElem?_cons_succ, List.getElem?_cons_zero]; rfl) (fun K hK => ?_)
   go_simp
   (go_at_call 110; (with_reducible refine (HM.out _ (Kb HB BG) _ _ (m3.below BG)).mono ?_); rintro e v3 ⟨R4, d4, rfl, m4, hq4⟩; have qv3 : Below y.heap.size y v3 := Kb BG hq4; have k0 := Ka qv3 k0; have k1 := Ka qv3 k1; have fz := (HS.out.zc.below (Kb HY qv3)).fr)
   (try go_wp2_with fail)
   refine' HKa hK (by (first | ((try dsimp only); repeat' (first | with_reducible assumption | apply And.intro | (with_reducible refine Kk ?_) | (with_reducible refine Kn ?_) | (with_reducible refine Kh (by omega) ?_) | (with_reducible refine Kp (by omega) ?_) | (with_reducible refine Ka (W := y) ?_ ?_) | fail)))) (fun hHeld => ?_)
   clear hK K
   refine' Ords.last (by kernel_rfl) (by simp only [List.getElem?_toArray, List.getElem?_cons_succ, List.getElem?_cons_zero]; rfl) (by kernel_rfl) (fun K hK => ?_)
   go_simp
   (try go_wp2_with fail)
   refine hK.out _ _ ?_
   clear hK K
   (try simp only [Act.put, Lp0, Lp1, Lp2])
   go_wp2
   go_roundw
   case rel => exact ⟨j + 1, by omega, by go_num, by rw [hC1h.out]; exact (HS.out.below (Kb HY qv3)).setc IC.out m4⟩
   case measure => simp [intOf]; omega
  ·obtain rfl : j = 9 := by omega
   have hbC := Qe hbd 9
   rw [h9] at hbC
   have hpC := Y4 fs hp
   have hdv := Vw fs
   have hzb := Hz hb
   rw [h9] at hzb
   rw [List.take_of_length_le (by omega)] at hS hbC
   have hzl : (intZ fs).length = 9 := by rw [Y7, h9]
   have hzj : ∀ j (h : j < fs.length), (intZ fs)[j]'(by rw [hzl]; omega) = fs[j].1 * ((comZ fs / fs[j].2 : Nat) : Int) := fun j h => by unfold intZ; rw [List.getElem_map]
   generalize intZ fs = zs at *
   generalize comZ fs = C at *
   have hlt := hS.hg
   have hgc := hS.zc.lt
   go_upto_region 8 with fail
   refine Kw (P := fun u => Code.wp _ _ _ _ u) ?_
   intro v2 hv2 q0 zq hsz2
   clear hsz2
   have hRK : RK w w1.heap.size (C : Int) wr.heap.size zs 0 v2 := ⟨Kb hS.b hv2, Ke hS.r1 hv2, hS.z1.below hv2, hS.c.below hv2, zq, by omega, by omega, Kx, rfl, q0, fun e he => by rw [List.eq_of_mem_replicate he]; exact ZE.zero_ok _, rfl⟩
   have r0 := Ke hS.r0 hv2
   clear hS q0 zq hv2 hlt
   go_wp2_with (first | refine wpList_load_mid (by rfl) _ _ (by rfl) w.heap.size 0 (by rfl) (Kc l) _ r0 T30u (by rfl) hi.out ?_ | fail)
   clear r0
   obtain ⟨gm, hgm⟩ : ∃ gm, gm = wr.heap.size := ⟨_, rfl⟩
   rw [← hgm] at hRK hgc ⊢
   clear hgm
   go_loopw [25] (fun s25 wr => ∃ j : Nat, j ≤ 9 ∧ s25 = .int .i64 j ∧ RK w w1.heap.size (C : Int) gm zs j wr) (fun s25 _ => 9 - (intOf s25).toNat)
   case atStart => exact ⟨0, by omega, rfl, hRK⟩
   case round =>
    obtain ⟨j, hj2, rfl, hS⟩ := hrel
    clear hRK
    by_cases h9j : j < 9
    ·have hj2 : j < fs.length := by omega
     obtain ⟨g1, g2, g3, g4⟩ := frZ_at hfs j hj2
     have hix := HIx wr j g2
     have hop := (hok l[2 * j] (List.getElem_mem g1)).below hS.b
     have hoq := (hok l[2 * j + 1] (List.getElem_mem g2)).below hS.b
     have hpD := hp fs[j] (List.getElem_mem hj2)
     have hbD := Q9 (hbd fs[j] (List.getElem_mem hj2))
     have hbN := (hb fs[j] (List.getElem_mem hj2)).1
     have hdj := hdv fs[j] (List.getElem_mem hj2)
     have hzz := hzj j hj2
     have hzbj := hzb zs[j] (List.getElem_mem (by omega))
     have h9i : (j : Int) < 9 := by omega
     rw [← g4] at hbD
     rw [← g3] at hbN hzz
     generalize l[2 * j] = p at *
     generalize l[2 * j + 1] = q at *
     generalize fs[j].2 = D at *
     have hQb : Bz (k * 9 + 1) ((C / D : Nat) : Int) := by
      have := Nat.div_le_self C D
      unfold Bz at hbC ⊢
      rw [Int.natAbs_natCast] at hbC ⊢
      omega
     obtain ⟨ed, hd1, hd2, k0, k1⟩ := hS.c
     have hQ0 : dmQ ed.z q.z = ((C / D : Nat) : Int) := by rw [hd1, g4]; exact W4 (by omega) hdj
     have hzz' : p.z * ((C / D : Nat) : Int) = zs[j]'(by omega) := hzz.symm
     rw [← hd1] at hbC
     generalize C / D = Q at *
     obtain ⟨qb, qn, qL, IQ⟩ := iz (Q : Int)
     obtain ⟨cb, cn, cL, IC⟩ := iz (zs[j]'(by omega))
     have HQ := hid fun (w2 : World) (h : Below wr.heap.size wr w2) => Yu (w := w2) hd2.i hoq.i IQ.out (hd2.m.below h) (hoq.m.below h) (hbC.ft (by omega)) (hbD.ft (by omega)) (by rw [g4]; omega) hQ0
     have HM := hid fun (w2 : World) (h : Below wr.heap.size wr w2) (B : Option Addr) (d : Nat) (m : Mg w2 B d qL) => Yg (w := w2) hop.i IQ.out IC.out (hop.m.below h) m (hbN.ft (by omega)) (hQb.ft (by omega)) (hzbj.ft (by omega)) hzz'
     obtain ⟨lm, e1, e2, e3, e4⟩ := hS.ex
     obtain ⟨p0, p1⟩ := Jm lm j (by omega)
     have c0 := e2 _ _ p0
     have c1 := e2 _ _ p1
     rw [Nat.zero_add] at c0 c1
     generalize (lm[j]'(by omega)).b = tb at *
     generalize (lm[j]'(by omega)).A = tA at *
     generalize (lm[j]'(by omega)).n = tn at *
     generalize (lm[j]'(by omega)).c = tc at *
     obtain ⟨pz, pb, pn, pxs, pA, pc⟩ := p
     obtain ⟨qz, qqb, qqn, qxs, qA, qc⟩ := q
     obtain ⟨dz, db, dn, dxs, dA, dc⟩ := ed
     dsimp only at *
     have HS := hid hS
     have lt2 := Kd k0
     have ltm := Kd c0
     have hne := hS.hc
     clear hS hop hoq hbC hpC hpD hbD hbN hdj hzz hzz' hzbj hQb hd1 hd2 hQ0 g1 g2 g3 g4 HIx hok hp hb hbd hfs hdv hzj hzb e1 e2 e3 e4 p0 p1
     go_wp2_with fail
     refine enterF (P := fun u => Code.wp _ _ _ _ u) ?_
     intro y HY t0 t1 t2 t3 zt hsz3
     clear hsz3
     have k0 := Ka HY k0
     have k1 := Ka HY k1
     have c0 := Ka HY c0
     have c1 := Ka HY c1
     have HB := HY
     go_region_held3 (fun w' => (w'.cell? ⟨w1.heap.size, 0, none⟩ = some (.bool db) ∧ w'.cell? ⟨w1.heap.size, 1, none⟩ = some (.slice dA dn dc)) ∧ (w'.cell? ⟨wr.heap.size, 0, none⟩ = some (.bool pb) ∧ w'.cell? ⟨wr.heap.size, 1, none⟩ = some (.slice pA pn pc)) ∧ (w'.cell? ⟨wr.heap.size, 2, none⟩ = some (.bool qqb) ∧ w'.cell? ⟨wr.heap.size, 3, none⟩ = some (.slice qA qqn qc))) (first | ((try dsimp only); repeat' (first | with_reducible assumption | apply And.intro | (with_reducible refine Kk ?_) | (with_reducible refine Kn ?_) | (with_reducible refine Kh (by omega) ?_) | (with_reducible refine Kp (by omega) ?_) | (with_reducible refine Ka (W := y) ?_ ?_) | fail))) (first | (go_at_call 121; (with_reducible refine (HQ.out _ (Kb HB BG)).mono ?_); rintro e v1 ⟨R3, d3, rfl, m3, hq3⟩; have qv1 : Below y.heap.size y v1 := Kb BG hq3) | (go_at_call 110; (with_reducible refine (HM.out _ (Kb HB BG) _ _ (m3.below BG)).mono ?_); rintro e v3 ⟨R4, d4, rfl, m4, hq4⟩; have qv3 : Below y.heap.size y v3 := Kb BG hq4; have c0 := Ka qv3 c0; have c1 := Ka qv3 c1; have fz := (HS.out.zm.below (Kb HY qv3)).fr))
     all_goals
      go_wp2
      go_roundw
      case rel => exact ⟨j + 1, by omega, by go_num, (HS.out.below (Kb HY qv3)).next hzl (by omega) IC.out m4⟩
      case measure => simp [intOf]; omega
    ·obtain rfl : j = 9 := by omega
     obtain ⟨lm, e1, e2, e3, e4⟩ := hS.ex
     rw [List.take_of_length_le (by omega)] at e4
     simp only [Nat.sub_self, List.replicate_zero, List.append_nil] at e4
     have hi18 := hid (show (Tryz.prog.info? 95).map (·.size) = some (Kc lm).length by rw [Kf, e1]; kernel_rfl)
     obtain ⟨G1, G2, G3, G4⟩ := Ju (w := w) (l := lm) (cs := Kx) T55u rfl hi18.out hS.b (by omega) hS.r1 hS.z1 (by rw [e1]; rfl) e3
     have HF := hid (And.intro e4 (And.intro G3 G4))
     have h18 : (Kc lm).length = 18 := by rw [Kf, e1]
     clear e1 e3 e4 G3 G4 hS HIx
     go_wp2_with (first | refine wpList_load_mid (by rfl) _ _ (by rfl) gm 0 (by rfl) (Kc lm) _ e2 T55u (by rfl) hi18.out ?_ | fail)
     refine bodyPost_ret (v := .agg (Kc lm).toArray) ?_ rfl ?_
     ·simp [results, Tryz.results89, Sem.run_bind, asAddr, G2]
     ·exact ⟨lm, rfl, HF.out.1, HF.out.2.2, HF.out.2.1⟩
end Go.Proofs.YtdkgbkbbbldliaaGreat
