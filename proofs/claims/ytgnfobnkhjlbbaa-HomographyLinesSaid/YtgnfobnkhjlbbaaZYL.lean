/- Package fraction: the walk of product. Conditions: none. -/
import Derived.Test.YtgnfobnkhjlbbaaZYK
import Derived.Deep.RegionLaw
set_option linter.unusedVariables false
set_option linter.unusedSimpArgs false
namespace Go.Proofs.Ytgnfobnkhjlbbaa
open Go.RowKit Big

theorem sg_mul2 (r : Bool) (q : Nat) (x : Int) : sg (r != decide (x < 0)) (q * x.natAbs) = sg r q * x := by
  cases r <;> unfold sg <;> by_cases h : x < 0 <;> simp [h]
  · rw [← Int.mul_neg]; congr 1; omega
  · rw [show (x.natAbs : Int) = x by omega]
  · rw [← Int.neg_mul_neg]; congr 1 <;> omega
  · rw [Int.neg_mul]; congr 2; omega
set_option maxRecDepth 100000 in
set_option maxHeartbeats 8000000 in
theorem Frproduct_any (fs : List Rf) (g c : Nat) (w : World) (hc : fs.length ≤ c) (hl : fs.length ≤ 2) (hm : c ≤ 9223372036854775807) (hfs : ∀ j (h : j < fs.length), RfAt w g (j * 4) fs[j]) (hv : ∀ j (h : j < fs.length), fs[j].v = true) :
    Calls Try.prog 64 #[.slice (some ⟨g, 0, none⟩) fs.length c] w (RetFE w (lowE ((fs.map Rf.f).foldl stepP (1, 1)).1 ((fs.map Rf.f).foldl stepP (1, 1)).2)) := by
  have hvv := hid hv
  clear hv
  go_enter Try.func64, Try.ntmps64
  go_wp2_with fail
  refine enterFBBI (P := fun u => Code.wp _ _ _ _ u) ?_
  intro u HB q0 q1 q2 q3 r0 s0 t0 t1 z1 z2 z3 z4 hsz
  clear hsz
  have f_z1 := z1.fr
  have f_z2 := z2.fr
  have f_z3 := z3.fr
  have f_z4 := z4.fr
  have lt_q0 := cell_lt q0
  have lt_r0 := cell_lt r0
  have lt_s0 := cell_lt s0
  have lt_t0 := cell_lt t0
  go_loopw [5, 13] (fun s5 s13 wr => ∃ k : Nat, k ≤ fs.length ∧ s13 = .int .i64 k ∧ Below w.heap.size w wr ∧ Hid (SumSt w wr (((fs.take k).map Rf.f).foldl stepP (1, 1)) k (w.heap.size + 1 + 1 + 1) s5)) (fun _ s13 _ => fs.length - (intOf s13).toNat)
  case atStart => exact ⟨0, Nat.zero_le _, rfl, HB, ⟨by simp, ⟨false, 1, some ⟨w.heap.size + 1, 0, none⟩, 1, 1, [1], some ⟨w.heap.size + 1 + 1, 0, none⟩, 1, 1, [1], ⟨limbs_one.symm, rfl⟩, ⟨by simp [limbs_one], rfl⟩, by simp [Hid, sg], t0, t1, mg_cell1 r0, mg_cell1 s0, rfl, by omega, by omega⟩, ⟨_, _, _, _, _, _, _, _, q0, q1, q2, q3⟩, z1, z4⟩⟩
  case round =>
    clear HB q0 q1 q2 q3 r0 s0 t0 t1 z1 z2 z3 z4 f_z1 f_z2 f_z3 f_z4 lt_q0 lt_r0 lt_s0 lt_t0
    obtain ⟨k, hk, rfl, hbl, hst⟩ := hrel
    have hpos := hid hst.out.pos
    obtain ⟨r, q, R, cq, kq, Lq, D, cd, kd, Ld, iq, id_, hsg, n0, n1, mq, md, rfl, hkq, hkd⟩ := hst.out.ex
    obtain ⟨x0, x2, A1, nn1, c1, B1, mm1, d1, r0, r1, r2, r3⟩ := hst.out.res
    have z1 := hst.out.z1
    have z2 := hst.out.z2
    have f_z1 := z1.fr
    have f_z2 := z2.fr
    clear hst
    by_cases hkl : k < fs.length
    · have hAt := (hfs k hkl).below hbl
      obtain ⟨hnb, IF, NF, l1, l2⟩ := Rf.ok hAt.m1.ok hAt.m2.ok (hvv.out k hkl)
      have hnext := hid (show ((fs.take (k + 1)).map Rf.f).foldl stepP (1, 1) = stepP (((fs.take k).map Rf.f).foldl stepP (1, 1)) fs[k].f by rw [List.take_succ_eq_append_getElem hkl, List.map_append, List.foldl_append]; rfl)
      generalize hPk : ((fs.take (k + 1)).map Rf.f).foldl stepP (1, 1) = P' at *
      have HPk := hid hPk
      clear hPk
      generalize ((fs.take k).map Rf.f).foldl stepP (1, 1) = P at *
      generalize fs[k] = f at *
      obtain ⟨na, A, xs, ca, nb, B, ys, cb⟩ := f
      obtain ⟨e0, e1, e2, e3, m1, m2⟩ := hAt
      dsimp only at *
      subst hnb
      generalize (⟨na, A, xs, ca, false, B, ys, cb⟩ : Rf).f = f at *
      generalize xs.length = kx at *
      generalize ys.length = ky at *
      have hsg' : Hid (sg (!(r == na)) (q * f.1.natAbs) = P'.1) := by
        unfold Hid
        rw [hnext.out]
        change sg (r != na) (q * f.1.natAbs) = P.1 * f.1
        rw [← hsg.out, IF.out.hb]
        exact sg_mul2 _ _ _
      have hP2 : P'.2 = P.2 * f.2 := by rw [hnext.out]; rfl
      obtain ⟨k3, L3, I3⟩ := lz (q * f.1.natAbs)
      obtain ⟨k4, L4, I4⟩ := lz (P.2 * f.2)
      have b3 : k3 ≤ kq + 512 := I3.out.le (Nat.le_trans (mul_len iq.out IF.out.n) (by omega))
      have b4 : k4 ≤ kd + 512 := I4.out.le (Nat.le_trans (mul_len id_.out IF.out.d) (by omega))
      have hpos' := hid (show 0 < P'.2 by rw [hP2]; exact Nat.mul_pos hpos.out NF.out.1)
      have HT1 := hid fun (w1 : World) (h : Below wr.heap.size wr w1) => Frmul_g (w := w1) iq.out IF.out.n (mq.below h) (m1.below h) (by omega) (by omega) I3.out
      have HD := hid fun (w1 : World) (m : Mg w1 D cd Ld) (m' : Mg w1 B cb ys) => Frmul_g (w := w1) id_.out IF.out.d m m' (by omega) (by omega) I4.out
      have I4' : Hid (Lz P'.2 k4 L4) := by unfold Hid; rw [hP2]; exact I4.out
      clear hP2 iq id_ IF NF I4 hsg hpos hnext
      have hwz := hbl.size
      have lt_n := cell_lt n0
      have lt_r := cell_lt r0
      go_wp2_with fail
      refine enterF (P := fun v => Code.wp _ _ _ _ v) ?_
      intro v HV t0 t1 t2 t3 z3 _
      have f_z3 := z3.fr
      have HB := hbl
      have hv_ : Below wr.heap.size wr v := Below.trans (b := _) (by repeat (first | assumption | exact Bv _ _ | refine Ba ?_ (by simp; try omega) _ | refine Bd ?_ | refine Bn ?_ _)) (HV.mono (by simp; try omega))
      replace mq := mq.below hv_
      replace md := md.below hv_
      replace m1 := m1.below hv_
      replace m2 := m2.below hv_
      replace n0 := keep_cell hv_ n0
      replace n1 := keep_cell hv_ n1
      replace r0 := keep_cell hv_ r0
      replace r1 := keep_cell hv_ r1
      replace r2 := keep_cell hv_ r2
      replace r3 := keep_cell hv_ r3
      have lt_n0 := cell_lt n0
      have lt_n1 := cell_lt n1
      have lt_r0 := cell_lt r0
      have lt_r1 := cell_lt r1
      have lt_r2 := cell_lt r2
      have lt_r3 := cell_lt r3
      replace z1 := z1.below hv_
      replace z2 := z2.below hv_
      replace f_z1 := z1.fr
      replace f_z2 := z2.fr
      replace HB := HB.trans (hv_.mono HB.size)
      clear hv_
      have lt_t0 := cell_lt t0
      go_region_law ((go_simp; go_at_call 75; (with_reducible refine (HT1.out _ (bel_step HV BG)).mono ?_); rintro e y3 ⟨R3, e3, rfl, p3, hq_⟩; have qy3 : Below v.heap.size v y3 := bel_step BG hq_; have n0 := keep_cell qy3 n0; have n1 := keep_cell qy3 n1; have z2 := z2.below qy3; have f_z2 := z2.fr; have t0 := keep_cell qy3 t0; have t1 := keep_cell qy3 t1))
      all_goals
        replace md := md.below qy3
        replace m2 := m2.below qy3
        replace r0 := keep_cell qy3 r0
        replace r1 := keep_cell qy3 r1
        replace r2 := keep_cell qy3 r2
        replace r3 := keep_cell qy3 r3
        replace t2 := keep_cell qy3 t2
        replace t3 := keep_cell qy3 t3
        replace z1 := z1.below qy3
        replace HB := bel_step HB qy3
        go_wp2_with fail
        refine setI2 n0 n1 (P := fun V => Calls _ _ _ V _) ?_
        intro V v0 v1 hoth hmg hzn hbel hsz
        have hne1 : w.heap.size ≠ w.heap.size + 1 + 1 + 1 := by omega
        have hne2 : wr.heap.size ≠ w.heap.size + 1 + 1 + 1 := by omega
        replace r0 := hoth _ _ _ hne1 r0
        replace r1 := hoth _ _ _ hne1 r1
        replace r2 := hoth _ _ _ hne1 r2
        replace r3 := hoth _ _ _ hne1 r3
        replace t2 := hoth _ _ _ hne2 t2
        replace t3 := hoth _ _ _ hne2 t3
        replace md := hmg _ _ _ md
        replace m2 := hmg _ _ _ m2
        replace p3 := hmg _ _ _ p3
        replace z1 := hzn _ z1
        replace z2 := hzn _ z2
        replace HB := hbel _ _ (by omega) HB
        clear hoth hmg hzn hbel hsz n0 n1 t0 t1
        refine (HD.out _ md m2).mono ?_
        rintro e w5 ⟨R4, e4, rfl, p4, h5⟩
        have hv_ : Below V.heap.size V w5 := Below.trans (b := _) (by repeat (first | assumption | exact Bv _ _ | refine Ba ?_ (by simp; try omega) _ | refine Bd ?_ | refine Bn ?_ _)) (h5.mono (by simp; try omega))
        replace p3 := p3.below hv_
        replace z1 := z1.below hv_
        replace z2 := z2.below hv_
        replace v0 := keep_cell hv_ v0
        replace v1 := keep_cell hv_ v1
        replace r0 := keep_cell hv_ r0
        replace r1 := keep_cell hv_ r1
        replace r2 := keep_cell hv_ r2
        replace r3 := keep_cell hv_ r3
        have lt_v0 := cell_lt v0
        have lt_v1 := cell_lt v1
        have lt_r0 := cell_lt r0
        have lt_r1 := cell_lt r1
        have lt_r2 := cell_lt r2
        have lt_r3 := cell_lt r3
        replace HB := HB.trans (hv_.mono HB.size)
        clear hv_
        go_wp2_with fail
        go_roundw
        case rel => exact ⟨k + 1, by omega, by go_num, HB, by rw [HPk.out]; exact ⟨hpos'.out, ⟨(!(r == na)), q * f.1.natAbs, R3, e3, k3, L3, R4, e4, k4, L4, I3, I4', hsg', v0, v1, p3, p4, rfl, by omega, by omega⟩, ⟨_, _, _, _, _, _, _, _, r0, r1, r2, r3⟩, z1, z2⟩⟩
        case measure => simp [intOf]; omega
    · obtain rfl : k = fs.length := by omega
      rw [List.take_length] at *
      generalize (fs.map Rf.f).foldl stepP (1, 1) = P at *
      obtain ⟨p, err, hp⟩ : ∃ p err, lowE P.1 P.2 = (p, err) := ⟨_, _, rfl⟩
      have HPP := hid hp
      obtain ⟨bq, kq', Xq, lq, Yq, IQ⟩ := fz p
      have HL := hid fun (w1 : World) (h : Below wr.heap.size wr w1) => Frlowest_g (w := w1) iq.out id_.out (mq.below h) (md.below h) (by omega) (by omega) (by have := hpos.out; omega) IQ.out (by rw [hsg.out]; exact hp)
      clear hp iq id_ hsg hpos mq md hvv
      have HB := hbl
      go_wp2_with fail
      refine (HL.out _ (Below.refl _ _)).mono ?_
      rintro e w1 ⟨R1, e1, R2, e2, rfl, m1, m2, h1⟩
      have hv_ : Below wr.heap.size wr w1 := Below.trans (b := _) (by repeat (first | assumption | exact Bv _ _ | refine Ba ?_ (by simp; try omega) _ | refine Bd ?_ | refine Bn ?_ _)) (h1.mono (by simp; try omega))
      replace r0 := keep_cell hv_ r0
      replace r1 := keep_cell hv_ r1
      replace r2 := keep_cell hv_ r2
      replace r3 := keep_cell hv_ r3
      have lt_r0 := cell_lt r0
      have lt_r1 := cell_lt r1
      have lt_r2 := cell_lt r2
      have lt_r3 := cell_lt r3
      replace z1 := z1.below hv_
      replace f_z1 := z1.fr
      replace HB := HB.trans (hv_.mono HB.size)
      clear hv_
      go_wp2
      refine bodyPost_ret (v := .tuple #[.agg #[.bool bq, .slice R1 kq' e1, .bool false, .slice R2 lq e2], .int .i64 err]) ?_ rfl ?_
      · simp [results, Try.results64, go_sem, r0, r1, r2, r3]
      · obtain ⟨j1_, j2_, j3_⟩ := fin_fr m1 m2 HB (by omega) r0 r1 r2 r3 (.bool bq) (.slice R1 kq' e1) (.bool false) (.slice R2 lq e2)
        rw [HPP.out]
        exact GF.r ⟨R1, e1, R2, e2, rfl, j1_, j2_, j3_⟩ IQ.out
end Go.Proofs.Ytgnfobnkhjlbbaa
/- Package fraction: valid, sum and product of one or two fractions; walks of Valid, Add, Mul. Conditions: none. -/
namespace Go.Proofs.Ytgnfobnkhjlbbaa
open Go.RowKit Big

theorem rfat2 {na nb nc nd : Bool} {xs ys us vs : List Nat} {A B C D : Option Addr} {ca cb cc cd : Nat} {u : World} (ma : Mg u A ca xs) (mb : Mg u B cb ys) (mc : Mg u C cc us) (md : Mg u D cd vs) :
    ∀ j (h : j < [(⟨na, A, xs, ca, nb, B, ys, cb⟩ : Rf), ⟨nc, C, us, cc, nd, D, vs, cd⟩].length), RfAt (u.alloc (.cells #[.bool na, .slice A xs.length ca, .bool nb, .slice B ys.length cb, .bool nc, .slice C us.length cc, .bool nd, .slice D vs.length cd] 26)) u.heap.size (j * 4) [(⟨na, A, xs, ca, nb, B, ys, cb⟩ : Rf), ⟨nc, C, us, cc, nd, D, vs, cd⟩][j] := fun j h => by
  obtain ⟨p, _, _⟩ := box_keep (w := u) (Below.refl _ (u.alloc (.cells #[.bool na, .slice A xs.length ca, .bool nb, .slice B ys.length cb, .bool nc, .slice C us.length cc, .bool nd, .slice D vs.length cd] 26)))
  match j, h with
  | 0, _ => exact ⟨(p 0).trans rfl, (p 1).trans rfl, (p 2).trans rfl, (p 3).trans rfl, ma.alloc, mb.alloc⟩
  | 1, _ => exact ⟨(p 4).trans rfl, (p 5).trans rfl, (p 6).trans rfl, (p 7).trans rfl, mc.alloc, md.alloc⟩
theorem rfat1 {na nb : Bool} {xs ys : List Nat} {A B : Option Addr} {ca cb : Nat} {u : World} (ma : Mg u A ca xs) (mb : Mg u B cb ys) :
    ∀ j (h : j < [(⟨na, A, xs, ca, nb, B, ys, cb⟩ : Rf)].length), RfAt (u.alloc (.cells #[.bool na, .slice A xs.length ca, .bool nb, .slice B ys.length cb] 26)) u.heap.size (j * 4) [(⟨na, A, xs, ca, nb, B, ys, cb⟩ : Rf)][j] := fun j h => by
  obtain ⟨p, _, _⟩ := box_keep (w := u) (Below.refl _ (u.alloc (.cells #[.bool na, .slice A xs.length ca, .bool nb, .slice B ys.length cb] 26)))
  match j, h with
  | 0, _ => exact ⟨(p 0).trans rfl, (p 1).trans rfl, (p 2).trans rfl, (p 3).trans rfl, ma.alloc, mb.alloc⟩
theorem RetB.up {u w' : World} {o : Obj} {b : Bool} {e : Ending} (h : RetB (u.alloc o) b e w') : RetB u b e w' := ⟨h.1, ((Below.refl _ _).alloc (Nat.le_refl _) _).trans (h.2.mono (by simp))⟩
theorem RetFE.up {u w' : World} {o : Obj} {q : (Int × Nat) × Int} {e : Ending} (h : RetFE (u.alloc o) q e w') : RetFE u q e w' := by
  obtain ⟨A, c, B, d, h1, h2, h3, h4⟩ := h
  exact ⟨A, c, B, d, h1, h2, h3, ((Below.refl _ _).alloc (Nat.le_refl _) _).trans (h4.mono (by simp))⟩
theorem Frvalid2 {na nb nc nd : Bool} {xs ys us vs : List Nat} {A B C D : Option Addr} {ca cb cc cd : Nat} {u : World} (ma : Mg u A ca xs) (mb : Mg u B cb ys) (mc : Mg u C cc us) (md : Mg u D cd vs) :
    Calls Try.prog 61 #[.slice (some ⟨u.heap.size, 0, none⟩) 2 2] (u.alloc (.cells #[.bool na, .slice A xs.length ca, .bool nb, .slice B ys.length cb, .bool nc, .slice C us.length cc, .bool nd, .slice D vs.length cd] 26)) (RetB u (fvB na xs nb ys && fvB nc us nd vs)) := by
  refine (Frvalid_any [(⟨na, A, xs, ca, nb, B, ys, cb⟩ : Rf), ⟨nc, C, us, cc, nd, D, vs, cd⟩] u.heap.size 2 _ (by simp) (by simp) (by omega) (rfat2 ma mb mc md)).mono fun e w' h => ?_
  have := RetB.up h
  simpa [Rf.v] using this
theorem Frvalid1 {na nb : Bool} {xs ys : List Nat} {A B : Option Addr} {ca cb : Nat} {u : World} (ma : Mg u A ca xs) (mb : Mg u B cb ys) :
    Calls Try.prog 61 #[.slice (some ⟨u.heap.size, 0, none⟩) 1 1] (u.alloc (.cells #[.bool na, .slice A xs.length ca, .bool nb, .slice B ys.length cb] 26)) (RetB u (fvB na xs nb ys)) := by
  refine (Frvalid_any [(⟨na, A, xs, ca, nb, B, ys, cb⟩ : Rf)] u.heap.size 1 _ (by simp) (by simp) (by omega) (rfat1 ma mb)).mono fun e w' h => ?_
  have := RetB.up h
  simpa [Rf.v] using this
theorem Fz.raw {f : Int × Nat} {b : Bool} {k l : Nat} {xs ys : List Nat} (h : Fz f b k xs l ys) (nf : Nf f) (h1 : k ≤ 512) (h2 : l ≤ 512) : fvB b xs false ys = true ∧ (sg b (val xs), val ys) = f := by
  obtain ⟨rfl, rfl, rfl, rfl, rfl⟩ := h
  obtain ⟨n, d⟩ := f
  have hd : 0 < d := nf.1
  have hg : Nat.gcd n.natAbs d = 1 := nf.2
  refine ⟨?_, by simp [val_limbs, sg_self]⟩
  unfold fvB
  have v1 := validB_z (z := n) h1
  have v2 := validB_z (z := (d : Int)) (by unfold fits; simpa using h2)
  rw [show decide ((d : Int) < 0) = false by simp, Int.natAbs_natCast] at v2
  rw [v1, v2]
  have : limbs d ≠ [] := fun h => by have := limbs_eq_nil.1 h; omega
  simp [val_limbs, this, hg]
section
variable {na nc : Bool} {f g : Int × Nat} {xs ys us vs : List Nat} {A B C D : Option Addr} {ca cb cc cd ka la kb lb : Nat} {u : World} (hf : Fz f na ka xs la ys) (hg : Fz g nc kb us lb vs) (nf : Nf f) (ng : Nf g)
  (ma : Mg u A ca xs) (mb : Mg u B cb ys) (mc : Mg u C cc us) (md : Mg u D cd vs) (h1 : ka ≤ 512) (h2 : la ≤ 512) (h3 : kb ≤ 512) (h4 : lb ≤ 512)
include hf hg nf ng h1 h2 h3 h4
theorem raw2_v : ∀ j (h : j < [(⟨na, A, xs, ca, false, B, ys, cb⟩ : Rf), ⟨nc, C, us, cc, false, D, vs, cd⟩].length), [(⟨na, A, xs, ca, false, B, ys, cb⟩ : Rf), ⟨nc, C, us, cc, false, D, vs, cd⟩][j].v = true := fun j h => by
  match j, h with
  | 0, _ => exact (hf.raw nf h1 h2).1
  | 1, _ => exact (hg.raw ng h3 h4).1
include ma mb mc md
theorem Frsum2 : Calls Try.prog 62 #[.slice (some ⟨u.heap.size, 0, none⟩) 2 2] (u.alloc (.cells #[.bool na, .slice A ka ca, .bool false, .slice B la cb, .bool nc, .slice C kb cc, .bool false, .slice D lb cd] 26)) (RetFE u (addE f g)) := by
  have h := Frsum_any [(⟨na, A, xs, ca, false, B, ys, cb⟩ : Rf), ⟨nc, C, us, cc, false, D, vs, cd⟩] u.heap.size 2 _ (by simp) (by simp) (by omega) (rfat2 ma mb mc md) (raw2_v hf hg nf ng h1 h2 h3 h4)
  have e : (([(⟨na, A, xs, ca, false, B, ys, cb⟩ : Rf), ⟨nc, C, us, cc, false, D, vs, cd⟩].map Rf.f).foldl stepS (0, 1)) = (f.1 * g.2 + g.1 * f.2, f.2 * g.2) := by
    simp only [List.map_cons, List.map_nil, List.foldl_cons, List.foldl_nil, Rf.f, (hf.raw nf h1 h2).2, (hg.raw ng h3 h4).2, stepS]
    simp
  rw [e, ← hf.hk, ← hf.hl, ← hg.hk, ← hg.hl] at h
  exact h.mono fun e w' h => RetFE.up h
theorem Frproduct2 : Calls Try.prog 64 #[.slice (some ⟨u.heap.size, 0, none⟩) 2 2] (u.alloc (.cells #[.bool na, .slice A ka ca, .bool false, .slice B la cb, .bool nc, .slice C kb cc, .bool false, .slice D lb cd] 26)) (RetFE u (mulE f g)) := by
  have h := Frproduct_any [(⟨na, A, xs, ca, false, B, ys, cb⟩ : Rf), ⟨nc, C, us, cc, false, D, vs, cd⟩] u.heap.size 2 _ (by simp) (by simp) (by omega) (rfat2 ma mb mc md) (raw2_v hf hg nf ng h1 h2 h3 h4)
  have e : (([(⟨na, A, xs, ca, false, B, ys, cb⟩ : Rf), ⟨nc, C, us, cc, false, D, vs, cd⟩].map Rf.f).foldl stepP (1, 1)) = (f.1 * g.1, f.2 * g.2) := by
    simp only [List.map_cons, List.map_nil, List.foldl_cons, List.foldl_nil, Rf.f, (hf.raw nf h1 h2).2, (hg.raw ng h3 h4).2, stepP]
    simp
  rw [e, ← hf.hk, ← hf.hl, ← hg.hk, ← hg.hl] at h
  exact h.mono fun e w' h => RetFE.up h
end

set_option maxHeartbeats 1000000 in
theorem FrValid_any {na nb : Bool} {xs ys : List Nat} {A B : Option Addr} {c d : Nat} {w : World} (ha : Mg w A c xs) (hb : Mg w B d ys) :
    Calls Try.prog 42 #[.agg #[.bool na, .slice A xs.length c, .bool nb, .slice B ys.length d]] w (RetB w (fvB na xs nb ys)) := by
  have HX := hid fun (w1 : World) (h : Below w.heap.size w w1) => Frvalid1 (na := na) (nb := nb) (u := w1) (ha.below h) (hb.below h)
  generalize fvB na xs nb ys = r at *
  clear ha hb
  generalize xs.length = k at *
  generalize ys.length = l at *
  go_enter Try.func42, Try.ntmps42
  go_wp2_with fail
  have h0 : Below w.heap.size w (w.alloc (.cells #[.bool na, .slice A k c, .bool nb, .slice B l d] 26)) := (Below.refl _ _).alloc (Nat.le_refl _) _
  have HX2 := HX.out _ h0
  simp only [World.size_alloc] at HX2
  refine HX2.mono ?_
  rintro e w1 ⟨rfl, h1⟩
  go_wp2
  go_ret
  exact ⟨rfl, h0.trans (h1.mono (by simp))⟩
end Go.Proofs.Ytgnfobnkhjlbbaa
