/- Package fraction: the walk of product. Conditions: none. -/
import Derived.Test.YtfdmlfpldgobjaaGreatDoorZYK
import Derived.Deep.RegionLaw
set_option linter.unusedVariables false
set_option linter.unusedSimpArgs false
namespace Go.Proofs.YtfdmlfpldgobjaaGreatDoor
open Go.RowKit Big
theorem sg_mul2 (r : Bool) (q : Nat) (x : Int) : sg (r != decide (x < 0)) (q * x.natAbs) = sg r q * x := by
 cases r <;> unfold sg <;> by_cases h : x < 0 <;> simp [h]
 ·rw [← Int.mul_neg]; congr 1; omega
 ·rw [show (x.natAbs : Int) = x by omega]
 ·rw [← Int.neg_mul_neg]; congr 1 <;> omega
 ·rw [Int.neg_mul]; congr 2; omega
set_option maxRecDepth 100000 in
set_option maxHeartbeats 8000000 in
theorem Frproduct_nw (fs : List Rf) (g c : Nat) (w : World) (hc : fs.length ≤ c) (hl : fs.length ≤ 2) (hm : c ≤ 9223372036854775807) (hfs : ∀ j (h : j < fs.length), RfAt w g (j * 4) fs[j]) (hv : ∀ j (h : j < fs.length), fs[j].v = true) :
  Calls Tryz.prog 35 #[.slice (some ⟨g, 0, none⟩) fs.length c] w (RetFEn w (lowE ((fs.map Rf.f).foldl stepP (1, 1)).1 ((fs.map Rf.f).foldl stepP (1, 1)).2)) := by
 have hvv := hid hv
 clear hv
 go_enter Tryz.func35, Tryz.ntmps35
 go_wp2_with fail
 refine enterFBBI (P := fun u => Code.wp _ _ _ _ u) ?_
 intro u HB q0 q1 q2 q3 r0 s0 t0 t1 z1 z2 z3 z4 hsz
 clear hsz
 have f_z1 := z1.fr
 have f_z2 := z2.fr
 have f_z3 := z3.fr
 have f_z4 := z4.fr
 have lt_q0 := cell_lt q0
 have lt_r0 := cell_lt r0
 have lt_s0 := cell_lt s0
 have lt_t0 := cell_lt t0
 go_loopw [5, 13] (fun s5 s13 wr => ∃ k : Nat, k ≤ fs.length ∧ s13 = .int .i64 k ∧ Below w.heap.size w wr ∧ Hid (SumSt w wr (((fs.take k).map Rf.f).foldl stepP (1, 1)) k (w.heap.size + 1 + 1 + 1) s5)) (fun _ s13 _ => fs.length - (intOf s13).toNat)
 case atStart => exact ⟨0, Nat.zero_le _, rfl, HB, ⟨by simp, ⟨false, 1, some ⟨w.heap.size + 1, 0, none⟩, 1, 1, [1], some ⟨w.heap.size + 1 + 1, 0, none⟩, 1, 1, [1], ⟨limbs_one.symm, rfl⟩, ⟨by simp [limbs_one], rfl⟩, by simp [Hid, sg], t0, t1, mg_cell1 r0, mg_cell1 s0, rfl, by omega, by omega⟩, ⟨_, _, _, _, _, _, _, _, q0, q1, q2, q3⟩, z1, z4⟩⟩
 case round =>
  clear HB q0 q1 q2 q3 r0 s0 t0 t1 z1 z2 z3 z4 f_z1 f_z2 f_z3 f_z4 lt_q0 lt_r0 lt_s0 lt_t0
  obtain ⟨k, hk, rfl, hbl, hst⟩ := hrel
  have hpos := hid hst.out.pos
  obtain ⟨r, q, R, cq, kq, Lq, D, cd, kd, Ld, iq, id_, hsg, n0, n1, mq, md, rfl, hkq, hkd⟩ := hst.out.ex
  obtain ⟨x0, x2, A1, nn1, c1, B1, mm1, d1, r0, r1, r2, r3⟩ := hst.out.res
  have z1 := hst.out.z1
  have z2 := hst.out.z2
  have f_z1 := z1.fr
  have f_z2 := z2.fr
  clear hst
  by_cases hkl : k < fs.length
  ·have hAt := (hfs k hkl).below hbl
   obtain ⟨hnb, IF, NF, l1, l2⟩ := Rf.ok hAt.m1.ok hAt.m2.ok (hvv.out k hkl)
   have hnext := hid (show ((fs.take (k + 1)).map Rf.f).foldl stepP (1, 1) = stepP (((fs.take k).map Rf.f).foldl stepP (1, 1)) fs[k].f by rw [List.take_succ_eq_append_getElem hkl, List.map_append, List.foldl_append]; rfl)
   generalize hPk : ((fs.take (k + 1)).map Rf.f).foldl stepP (1, 1) = P' at *
   have HPk := hid hPk
   clear hPk
   generalize ((fs.take k).map Rf.f).foldl stepP (1, 1) = P at *
   generalize fs[k] = f at *
   obtain ⟨na, A, xs, ca, nb, B, ys, cb⟩ := f
   obtain ⟨e0, e1, e2, e3, m1, m2⟩ := hAt
   dsimp only at *
   subst hnb
   generalize (⟨na, A, xs, ca, false, B, ys, cb⟩ : Rf).f = f at *
   generalize xs.length = kx at *
   generalize ys.length = ky at *
   have hsg' : Hid (sg (!(r == na)) (q * f.1.natAbs) = P'.1) := by
    unfold Hid
    rw [hnext.out]
    change sg (r != na) (q * f.1.natAbs) = P.1 * f.1
    rw [← hsg.out, IF.out.hb]
    exact sg_mul2 _ _ _
   have hP2 : P'.2 = P.2 * f.2 := by rw [hnext.out]; rfl
   obtain ⟨k3, L3, I3⟩ := lz (q * f.1.natAbs)
   obtain ⟨k4, L4, I4⟩ := lz (P.2 * f.2)
   have b3 : k3 ≤ kq + 512 := I3.out.le (Nat.le_trans (mul_len iq.out IF.out.n) (by omega))
   have b4 : k4 ≤ kd + 512 := I4.out.le (Nat.le_trans (mul_len id_.out IF.out.d) (by omega))
   have hpos' := hid (show 0 < P'.2 by rw [hP2]; exact Nat.mul_pos hpos.out NF.out.1)
   have HT1 := hid fun (w1 : World) (h : Below wr.heap.size wr w1) => Frmul_g (w := w1) iq.out IF.out.n (mq.below h) (m1.below h) (by omega) (by omega) I3.out
   have HD := hid fun (w1 : World) (m : Mg w1 D cd Ld) (m' : Mg w1 B cb ys) => Frmul_g (w := w1) id_.out IF.out.d m m' (by omega) (by omega) I4.out
   have I4' : Hid (Lz P'.2 k4 L4) := by unfold Hid; rw [hP2]; exact I4.out
   clear hP2 iq id_ IF NF I4 hsg hpos hnext
   have hwz := hbl.size
   have lt_n := cell_lt n0
   have lt_r := cell_lt r0
   go_wp2_with fail
   refine enterF (P := fun v => Code.wp _ _ _ _ v) ?_
   intro v HV t0 t1 t2 t3 z3 _
   have f_z3 := z3.fr
   have HB := hbl
   have hv_ : Below wr.heap.size wr v := Below.trans (b := _) (by repeat (first | assumption | exact Bv _ _ | refine Ba ?_ (by simp; try omega) _ | refine Bd ?_ | refine Bn ?_ _)) (HV.mono (by simp; try omega))
   replace mq := mq.below hv_
   replace md := md.below hv_
   replace m1 := m1.below hv_
   replace m2 := m2.below hv_
   replace n0 := keep_cell hv_ n0
   replace n1 := keep_cell hv_ n1
   replace r0 := keep_cell hv_ r0
   replace r1 := keep_cell hv_ r1
   replace r2 := keep_cell hv_ r2
   replace r3 := keep_cell hv_ r3
   have lt_n0 := cell_lt n0
   have lt_n1 := cell_lt n1
   have lt_r0 := cell_lt r0
   have lt_r1 := cell_lt r1
   have lt_r2 := cell_lt r2
   have lt_r3 := cell_lt r3
   replace z1 := z1.below hv_
   replace z2 := z2.below hv_
   replace f_z1 := z1.fr
   replace f_z2 := z2.fr
   replace HB := HB.trans (hv_.mono HB.size)
   clear hv_
   have lt_t0 := cell_lt t0
   go_region_law ((go_simp; go_at_call 59; (with_reducible refine (HT1.out _ (bel_step HV BG)).mono ?_); rintro e y3 ⟨R3, e3, rfl, p3, hq_⟩; have qy3 : Below v.heap.size v y3 := bel_step BG hq_; have n0 := keep_cell qy3 n0; have n1 := keep_cell qy3 n1; have z2 := z2.below qy3; have f_z2 := z2.fr; have t0 := keep_cell qy3 t0; have t1 := keep_cell qy3 t1))
   all_goals
    replace md := md.below qy3
    replace m2 := m2.below qy3
    replace r0 := keep_cell qy3 r0
    replace r1 := keep_cell qy3 r1
    replace r2 := keep_cell qy3 r2
    replace r3 := keep_cell qy3 r3
    replace t2 := keep_cell qy3 t2
    replace t3 := keep_cell qy3 t3
    replace z1 := z1.below qy3
    replace HB := bel_step HB qy3
    go_wp2_with fail
    refine setI2 n0 n1 (P := fun V => Calls _ _ _ V _) ?_
    intro V v0 v1 hoth hmg hzn hbel hsz
    have hne1 : w.heap.size ≠ w.heap.size + 1 + 1 + 1 := by omega
    have hne2 : wr.heap.size ≠ w.heap.size + 1 + 1 + 1 := by omega
    replace r0 := hoth _ _ _ hne1 r0
    replace r1 := hoth _ _ _ hne1 r1
    replace r2 := hoth _ _ _ hne1 r2
    replace r3 := hoth _ _ _ hne1 r3
    replace t2 := hoth _ _ _ hne2 t2
    replace t3 := hoth _ _ _ hne2 t3
    replace md := hmg _ _ _ md
    replace m2 := hmg _ _ _ m2
    replace p3 := hmg _ _ _ p3
    replace z1 := hzn _ z1
    replace z2 := hzn _ z2
    replace HB := hbel _ _ (by omega) HB
    clear hoth hmg hzn hbel hsz n0 n1 t0 t1
    refine (HD.out _ md m2).mono ?_
    rintro e w5 ⟨R4, e4, rfl, p4, h5⟩
    have hv_ : Below V.heap.size V w5 := Below.trans (b := _) (by repeat (first | assumption | exact Bv _ _ | refine Ba ?_ (by simp; try omega) _ | refine Bd ?_ | refine Bn ?_ _)) (h5.mono (by simp; try omega))
    replace p3 := p3.below hv_
    replace z1 := z1.below hv_
    replace z2 := z2.below hv_
    replace v0 := keep_cell hv_ v0
    replace v1 := keep_cell hv_ v1
    replace r0 := keep_cell hv_ r0
    replace r1 := keep_cell hv_ r1
    replace r2 := keep_cell hv_ r2
    replace r3 := keep_cell hv_ r3
    have lt_v0 := cell_lt v0
    have lt_v1 := cell_lt v1
    have lt_r0 := cell_lt r0
    have lt_r1 := cell_lt r1
    have lt_r2 := cell_lt r2
    have lt_r3 := cell_lt r3
    replace HB := HB.trans (hv_.mono HB.size)
    clear hv_
    go_wp2_with fail
    go_roundw
    case rel => exact ⟨k + 1, by omega, by go_num, HB, by rw [HPk.out]; exact ⟨hpos'.out, ⟨(!(r == na)), q * f.1.natAbs, R3, e3, k3, L3, R4, e4, k4, L4, I3, I4', hsg', v0, v1, p3, p4, rfl, by omega, by omega⟩, ⟨_, _, _, _, _, _, _, _, r0, r1, r2, r3⟩, z1, z2⟩⟩
    case measure => simp [intOf]; omega
  ·obtain rfl : k = fs.length := by omega
   rw [List.take_length] at *
   generalize (fs.map Rf.f).foldl stepP (1, 1) = P at *
   obtain ⟨p, err, hp⟩ : ∃ p err, lowE P.1 P.2 = (p, err) := ⟨_, _, rfl⟩
   have HPP := hid hp
   obtain ⟨bq, kq', Xq, lq, Yq, IQ⟩ := fz p
   have HL := hid fun (w1 : World) (h : Below wr.heap.size wr w1) => (Frlowest_n (w := w1) iq.out id_.out (mq.below h) (md.below h) (by omega) (by omega) (by have := hpos.out; omega) IQ.out (by rw [hsg.out]; exact hp)).mono fun _ _ => GFn.up (B' := w.heap.size) (Nat.le_trans hbl.size h.size)
   clear hp iq id_ hsg hpos mq md hvv
   have HB := hbl
   go_wp2_with fail
   refine (HL.out _ (Below.refl _ _)).mono ?_
   rintro e w1 ⟨R1, e1, R2, e2, rfl, m1, m2, h1⟩
   have hv_ : Below wr.heap.size wr w1 := Below.trans (b := _) (by repeat (first | assumption | exact Bv _ _ | refine Ba ?_ (by simp; try omega) _ | refine Bd ?_ | refine Bn ?_ _)) (h1.mono (by simp; try omega))
   replace r0 := keep_cell hv_ r0
   replace r1 := keep_cell hv_ r1
   replace r2 := keep_cell hv_ r2
   replace r3 := keep_cell hv_ r3
   have lt_r0 := cell_lt r0
   have lt_r1 := cell_lt r1
   have lt_r2 := cell_lt r2
   have lt_r3 := cell_lt r3
   replace z1 := z1.below hv_
   replace f_z1 := z1.fr
   replace HB := HB.trans (hv_.mono HB.size)
   clear hv_
   go_wp2
   refine bodyPost_ret (v := .tuple #[.agg #[.bool bq, .slice R1 kq' e1, .bool false, .slice R2 lq e2], .int .i64 err]) ?_ rfl ?_
   ·simp [results, Tryz.results35, go_sem, r0, r1, r2, r3]
   ·obtain ⟨j1_, j2_, j3_⟩ := fin_frn m1 m2 HB (by omega) r0 r1 r2 r3 (.bool bq) (.slice R1 kq' e1) (.bool false) (.slice R2 lq e2)
    rw [HPP.out]
    exact GFn.r ⟨R1, e1, R2, e2, rfl, j1_, j2_, j3_⟩ IQ.out
end Go.Proofs.YtfdmlfpldgobjaaGreatDoor
