/- Package fraction: valid, sum and product of one or two fractions; walks of Valid, Add, Mul. Conditions: none. -/
import Derived.Test.YtfdmlfpldgobjaaGreatDoorZFrJ
set_option linter.unusedVariables false
set_option linter.unusedSimpArgs false
namespace Go.Proofs.YtfdmlfpldgobjaaGreatDoor
open Go.RowKit Big
theorem rfat2 {na nb nc nd : Bool} {xs ys us vs : List Nat} {A B C D : Option Addr} {ca cb cc cd : Nat} {u : World} (ma : Mg u A ca xs) (mb : Mg u B cb ys) (mc : Mg u C cc us) (md : Mg u D cd vs) :
  ∀ j (h : j < [(⟨na, A, xs, ca, nb, B, ys, cb⟩ : Rf), ⟨nc, C, us, cc, nd, D, vs, cd⟩].length), RfAt (u.alloc (.cells #[.bool na, .slice A xs.length ca, .bool nb, .slice B ys.length cb, .bool nc, .slice C us.length cc, .bool nd, .slice D vs.length cd] 26)) u.heap.size (j * 4) [(⟨na, A, xs, ca, nb, B, ys, cb⟩ : Rf), ⟨nc, C, us, cc, nd, D, vs, cd⟩][j] := fun j h => by
 obtain ⟨p, _, _⟩ := box_keep (w := u) (Below.refl _ (u.alloc (.cells #[.bool na, .slice A xs.length ca, .bool nb, .slice B ys.length cb, .bool nc, .slice C us.length cc, .bool nd, .slice D vs.length cd] 26)))
 match j, h with
 | 0, _ => exact ⟨(p 0).trans rfl, (p 1).trans rfl, (p 2).trans rfl, (p 3).trans rfl, ma.alloc, mb.alloc⟩
 | 1, _ => exact ⟨(p 4).trans rfl, (p 5).trans rfl, (p 6).trans rfl, (p 7).trans rfl, mc.alloc, md.alloc⟩
theorem rfat1 {na nb : Bool} {xs ys : List Nat} {A B : Option Addr} {ca cb : Nat} {u : World} (ma : Mg u A ca xs) (mb : Mg u B cb ys) :
  ∀ j (h : j < [(⟨na, A, xs, ca, nb, B, ys, cb⟩ : Rf)].length), RfAt (u.alloc (.cells #[.bool na, .slice A xs.length ca, .bool nb, .slice B ys.length cb] 26)) u.heap.size (j * 4) [(⟨na, A, xs, ca, nb, B, ys, cb⟩ : Rf)][j] := fun j h => by
 obtain ⟨p, _, _⟩ := box_keep (w := u) (Below.refl _ (u.alloc (.cells #[.bool na, .slice A xs.length ca, .bool nb, .slice B ys.length cb] 26)))
 match j, h with
 | 0, _ => exact ⟨(p 0).trans rfl, (p 1).trans rfl, (p 2).trans rfl, (p 3).trans rfl, ma.alloc, mb.alloc⟩
theorem RetB.up {u w' : World} {o : Obj} {b : Bool} {e : Ending} (h : RetB (u.alloc o) b e w') : RetB u b e w' := ⟨h.1, ((Below.refl _ _).alloc (Nat.le_refl _) _).trans (h.2.mono (by simp))⟩
theorem RetFEn.up {u w' : World} {o : Obj} {q : (Int × Nat) × Int} {e : Ending} (h : RetFEn (u.alloc o) q e w') : RetFEn u q e w' := by
 obtain ⟨A, c, B, d, h1, h2, h3, h4⟩ := h
 exact ⟨A, c, B, d, h1, h2.up (by simp), h3.up (by simp), ((Below.refl _ _).alloc (Nat.le_refl _) _).trans (h4.mono (by simp))⟩
theorem RetFE.up {u w' : World} {o : Obj} {q : (Int × Nat) × Int} {e : Ending} (h : RetFE (u.alloc o) q e w') : RetFE u q e w' := by
 obtain ⟨A, c, B, d, h1, h2, h3, h4⟩ := h
 exact ⟨A, c, B, d, h1, h2, h3, ((Below.refl _ _).alloc (Nat.le_refl _) _).trans (h4.mono (by simp))⟩
theorem Frvalid2 {na nb nc nd : Bool} {xs ys us vs : List Nat} {A B C D : Option Addr} {ca cb cc cd : Nat} {u : World} (ma : Mg u A ca xs) (mb : Mg u B cb ys) (mc : Mg u C cc us) (md : Mg u D cd vs) :
  Calls Tryz.prog 32 #[.slice (some ⟨u.heap.size, 0, none⟩) 2 2] (u.alloc (.cells #[.bool na, .slice A xs.length ca, .bool nb, .slice B ys.length cb, .bool nc, .slice C us.length cc, .bool nd, .slice D vs.length cd] 26)) (RetB u (fvB na xs nb ys && fvB nc us nd vs)) := by
 refine (Frvalid_any [(⟨na, A, xs, ca, nb, B, ys, cb⟩ : Rf), ⟨nc, C, us, cc, nd, D, vs, cd⟩] u.heap.size 2 _ (by simp) (by simp) (by omega) (rfat2 ma mb mc md)).mono fun e w' h => ?_
 have := RetB.up h
 simpa [Rf.v] using this
theorem Frvalid1 {na nb : Bool} {xs ys : List Nat} {A B : Option Addr} {ca cb : Nat} {u : World} (ma : Mg u A ca xs) (mb : Mg u B cb ys) :
  Calls Tryz.prog 32 #[.slice (some ⟨u.heap.size, 0, none⟩) 1 1] (u.alloc (.cells #[.bool na, .slice A xs.length ca, .bool nb, .slice B ys.length cb] 26)) (RetB u (fvB na xs nb ys)) := by
 refine (Frvalid_any [(⟨na, A, xs, ca, nb, B, ys, cb⟩ : Rf)] u.heap.size 1 _ (by simp) (by simp) (by omega) (rfat1 ma mb)).mono fun e w' h => ?_
 have := RetB.up h
 simpa [Rf.v] using this
theorem Fz.raw {f : Int × Nat} {b : Bool} {k l : Nat} {xs ys : List Nat} (h : Fz f b k xs l ys) (nf : Nf f) (h1 : k ≤ 512) (h2 : l ≤ 512) : fvB b xs false ys = true ∧ (sg b (val xs), val ys) = f := by
 obtain ⟨rfl, rfl, rfl, rfl, rfl⟩ := h
 obtain ⟨n, d⟩ := f
 have hd : 0 < d := nf.1
 have hg : Nat.gcd n.natAbs d = 1 := nf.2
 refine ⟨?_, by simp [val_limbs, sg_self]⟩
 unfold fvB
 have v1 := validB_z (z := n) h1
 have v2 := validB_z (z := (d : Int)) (by unfold fits; simpa using h2)
 rw [show decide ((d : Int) < 0) = false by simp, Int.natAbs_natCast] at v2
 rw [v1, v2]
 have : limbs d ≠ [] := fun h => by have := limbs_eq_nil.1 h; omega
 simp [val_limbs, this, hg]
section
variable {na nc : Bool} {f g : Int × Nat} {xs ys us vs : List Nat} {A B C D : Option Addr} {ca cb cc cd ka la kb lb : Nat} {u : World} (hf : Fz f na ka xs la ys) (hg : Fz g nc kb us lb vs) (nf : Nf f) (ng : Nf g)
 (ma : Mg u A ca xs) (mb : Mg u B cb ys) (mc : Mg u C cc us) (md : Mg u D cd vs) (h1 : ka ≤ 512) (h2 : la ≤ 512) (h3 : kb ≤ 512) (h4 : lb ≤ 512)
include hf hg nf ng h1 h2 h3 h4
theorem raw2_v : ∀ j (h : j < [(⟨na, A, xs, ca, false, B, ys, cb⟩ : Rf), ⟨nc, C, us, cc, false, D, vs, cd⟩].length), [(⟨na, A, xs, ca, false, B, ys, cb⟩ : Rf), ⟨nc, C, us, cc, false, D, vs, cd⟩][j].v = true := fun j h => by
 match j, h with
 | 0, _ => exact (hf.raw nf h1 h2).1
 | 1, _ => exact (hg.raw ng h3 h4).1
include ma mb mc md
theorem Frsum2n : Calls Tryz.prog 33 #[.slice (some ⟨u.heap.size, 0, none⟩) 2 2] (u.alloc (.cells #[.bool na, .slice A ka ca, .bool false, .slice B la cb, .bool nc, .slice C kb cc, .bool false, .slice D lb cd] 26)) (RetFEn u (addE f g)) := by
 have h := Frsum_nw [(⟨na, A, xs, ca, false, B, ys, cb⟩ : Rf), ⟨nc, C, us, cc, false, D, vs, cd⟩] u.heap.size 2 _ (by simp) (by simp) (by omega) (rfat2 ma mb mc md) (raw2_v hf hg nf ng h1 h2 h3 h4)
 have e : (([(⟨na, A, xs, ca, false, B, ys, cb⟩ : Rf), ⟨nc, C, us, cc, false, D, vs, cd⟩].map Rf.f).foldl stepS (0, 1)) = (f.1 * g.2 + g.1 * f.2, f.2 * g.2) := by
  simp only [List.map_cons, List.map_nil, List.foldl_cons, List.foldl_nil, Rf.f, (hf.raw nf h1 h2).2, (hg.raw ng h3 h4).2, stepS]
  simp
 rw [e, ← hf.hk, ← hf.hl, ← hg.hk, ← hg.hl] at h
 exact h.mono fun e w' h => RetFEn.up h
theorem Frproduct2n : Calls Tryz.prog 35 #[.slice (some ⟨u.heap.size, 0, none⟩) 2 2] (u.alloc (.cells #[.bool na, .slice A ka ca, .bool false, .slice B la cb, .bool nc, .slice C kb cc, .bool false, .slice D lb cd] 26)) (RetFEn u (mulE f g)) := by
 have h := Frproduct_nw [(⟨na, A, xs, ca, false, B, ys, cb⟩ : Rf), ⟨nc, C, us, cc, false, D, vs, cd⟩] u.heap.size 2 _ (by simp) (by simp) (by omega) (rfat2 ma mb mc md) (raw2_v hf hg nf ng h1 h2 h3 h4)
 have e : (([(⟨na, A, xs, ca, false, B, ys, cb⟩ : Rf), ⟨nc, C, us, cc, false, D, vs, cd⟩].map Rf.f).foldl stepP (1, 1)) = (f.1 * g.1, f.2 * g.2) := by
  simp only [List.map_cons, List.map_nil, List.foldl_cons, List.foldl_nil, Rf.f, (hf.raw nf h1 h2).2, (hg.raw ng h3 h4).2, stepP]
  simp
 rw [e, ← hf.hk, ← hf.hl, ← hg.hk, ← hg.hl] at h
 exact h.mono fun e w' h => RetFEn.up h
end
set_option maxHeartbeats 1000000 in
theorem FrValid_any {na nb : Bool} {xs ys : List Nat} {A B : Option Addr} {c d : Nat} {w : World} (ha : Mg w A c xs) (hb : Mg w B d ys) :
  Calls Tryz.prog 28 #[.agg #[.bool na, .slice A xs.length c, .bool nb, .slice B ys.length d]] w (RetB w (fvB na xs nb ys)) := by
 have HX := hid fun (w1 : World) (h : Below w.heap.size w w1) => Frvalid1 (na := na) (nb := nb) (u := w1) (ha.below h) (hb.below h)
 generalize fvB na xs nb ys = r at *
 clear ha hb
 generalize xs.length = k at *
 generalize ys.length = l at *
 go_enter Tryz.func28, Tryz.ntmps28
 go_wp2_with fail
 have h0 : Below w.heap.size w (w.alloc (.cells #[.bool na, .slice A k c, .bool nb, .slice B l d] 26)) := (Below.refl _ _).alloc (Nat.le_refl _) _
 have HX2 := HX.out _ h0
 simp only [World.size_alloc] at HX2
 refine HX2.mono ?_
 rintro e w1 ⟨rfl, h1⟩
 go_wp2
 go_ret
 exact ⟨rfl, h0.trans (h1.mono (by simp))⟩
set_option maxRecDepth 100000 in
set_option maxHeartbeats 4000000 in
theorem FrAdd_n {na nb nc nd : Bool} {xs ys us vs : List Nat} {A B C D : Option Addr} {ca cb cc cd : Nat} {w : World} (ma : Mg w A ca xs) (mb : Mg w B cb ys) (mc : Mg w C cc us) (md : Mg w D cd vs) :
  Calls Tryz.prog 10 #[.agg #[.bool na, .slice A xs.length ca, .bool nb, .slice B ys.length cb], .agg #[.bool nc, .slice C us.length cc, .bool nd, .slice D vs.length cd]] w (RetFEn w (opR addE na xs nb ys nc us nd vs)) := by
 have HX := hid fun (w1 : World) (h : Below w.heap.size w w1) => Frvalid2 (na := na) (nb := nb) (nc := nc) (nd := nd) (u := w1) (ma.below h) (mb.below h) (mc.below h) (md.below h)
 cases hv : (fvB na xs nb ys && fvB nc us nd vs)
 ·have hr_ : opR addE na xs nb ys nc us nd vs = ((0, 0), 1) := by unfold opR; rw [hv]; rfl
  rw [hr_]
  rw [hv] at HX
  clear hr_ hv ma mb mc md
  generalize xs.length = ka at *
  generalize ys.length = la at *
  generalize us.length = kb at *
  generalize vs.length = lb at *
  go_enter Tryz.func10, Tryz.ntmps10
  go_wp2_with fail
  refine enterFFF (P := fun u => Calls _ _ _ (u.alloc _) _) ?_
  intro u HB q0 q1 q2 q3 r0 r1 r2 r3 s0 s1 s2 s3 z1 z2 z3 hsz
  have f_z1 := z1.fr
  have f_z2 := z2.fr
  have f_z3 := z3.fr
  have lt_q0 := cell_lt q0
  have lt_r0 := cell_lt r0
  have lt_s0 := cell_lt s0
  have HX2 := HX.out u HB
  rw [hsz.out] at HX2
  refine HX2.mono ?_
  clear HX2
  rintro e w1 ⟨rfl, h1⟩
  have hv_ : Below u.heap.size u w1 := Below.trans (b := _) (by repeat (first | assumption | exact Bv _ _ | refine Ba ?_ (by simp; try omega) _ | refine Bd ?_ | refine Bn ?_ _)) (h1.mono (by simp; try omega))
  replace q0 := keep_cell hv_ q0
  replace q1 := keep_cell hv_ q1
  replace q2 := keep_cell hv_ q2
  replace q3 := keep_cell hv_ q3
  replace r0 := keep_cell hv_ r0
  replace r1 := keep_cell hv_ r1
  replace r2 := keep_cell hv_ r2
  replace r3 := keep_cell hv_ r3
  replace s0 := keep_cell hv_ s0
  replace s1 := keep_cell hv_ s1
  replace s2 := keep_cell hv_ s2
  replace s3 := keep_cell hv_ s3
  have lt_q0 := cell_lt q0
  have lt_q1 := cell_lt q1
  have lt_q2 := cell_lt q2
  have lt_q3 := cell_lt q3
  have lt_r0 := cell_lt r0
  have lt_r1 := cell_lt r1
  have lt_r2 := cell_lt r2
  have lt_r3 := cell_lt r3
  have lt_s0 := cell_lt s0
  have lt_s1 := cell_lt s1
  have lt_s2 := cell_lt s2
  have lt_s3 := cell_lt s3
  replace z1 := z1.below hv_
  replace z2 := z2.below hv_
  replace z3 := z3.below hv_
  replace f_z1 := z1.fr
  replace f_z2 := z2.fr
  replace f_z3 := z3.fr
  replace HB := HB.trans (hv_.mono HB.size)
  clear hv_
  go_wp2
  refine bodyPost_ret (v := .tuple #[.agg #[.bool false, .slice none 0 0, .bool false, .slice none 0 0], .int .i64 1]) ?_ rfl ?_
  ·simp [results, Tryz.results10, go_sem, s0, s1, s2, s3]
  ·exact retFEn_set 1 HB (by omega) s0 s1 s2 s3
 ·rw [hv] at HX
  have hvv_ := hv
  simp only [Bool.and_eq_true] at hvv_
  obtain ⟨v1, v2⟩ := hvv_
  clear hv
  obtain ⟨rfl, p1, p2, p3, p4, p5, p6⟩ := fvB_ok ma.ok mb.ok v1
  obtain ⟨rfl, p7, p8, p9, p10, p11, p12⟩ := fvB_ok mc.ok md.ok v2
  have hr_ : opR addE na xs false ys nc us false vs = addE (sg na (val xs), val ys) (sg nc (val us), val vs) := by unfold opR; rw [v1, v2]; rfl
  rw [hr_]
  have IF : Hid (Fz (sg na (val xs), val ys) na xs.length xs ys.length ys) := ⟨p1, by rw [natAbs_sg]; exact p2, rfl, p3, rfl⟩
  have IG : Hid (Fz (sg nc (val us), val vs) nc us.length us vs.length vs) := ⟨p7, by rw [natAbs_sg]; exact p8, rfl, p9, rfl⟩
  generalize (sg na (val xs), val ys) = f at *
  generalize (sg nc (val us), val vs) = g at *
  have NF := hid p4
  have NG := hid p10
  clear hr_ v1 v2 p1 p2 p3 p4 p7 p8 p9 p10
  generalize xs.length = ka at *
  generalize ys.length = la at *
  generalize us.length = kb at *
  generalize vs.length = lb at *
  obtain ⟨p, err, hp⟩ : ∃ p err, addE f g = (p, err) := ⟨_, _, rfl⟩
  obtain ⟨bq, kq, Xq, lq, Yq, IQ⟩ := fz p
  have HS := hid fun (w1 : World) (h : Below w.heap.size w w1) => (Frsum2n (u := w1) IF.out IG.out NF.out NG.out (ma.below h) (mb.below h) (mc.below h) (md.below h) p5 p6 p11 p12).mono fun e w' k => by
   rw [hp] at k; exact (RetFEn.g k IQ.out).up h.size
  rw [hp]
  clear hp ma mb mc md IF IG NF NG
  go_enter Tryz.func10, Tryz.ntmps10
  go_wp2_with fail
  refine enterFFF (P := fun u => Calls _ _ _ (u.alloc _) _) ?_
  intro u HB q0 q1 q2 q3 r0 r1 r2 r3 s0 s1 s2 s3 z1 z2 z3 hsz
  have f_z1 := z1.fr
  have f_z2 := z2.fr
  have f_z3 := z3.fr
  have lt_q0 := cell_lt q0
  have lt_r0 := cell_lt r0
  have lt_s0 := cell_lt s0
  have HX2 := HX.out u HB
  rw [hsz.out] at HX2
  refine HX2.mono ?_
  clear HX2
  rintro e w1 ⟨rfl, h1⟩
  have hv_ : Below u.heap.size u w1 := Below.trans (b := _) (by repeat (first | assumption | exact Bv _ _ | refine Ba ?_ (by simp; try omega) _ | refine Bd ?_ | refine Bn ?_ _)) (h1.mono (by simp; try omega))
  replace q0 := keep_cell hv_ q0
  replace q1 := keep_cell hv_ q1
  replace q2 := keep_cell hv_ q2
  replace q3 := keep_cell hv_ q3
  replace r0 := keep_cell hv_ r0
  replace r1 := keep_cell hv_ r1
  replace r2 := keep_cell hv_ r2
  replace r3 := keep_cell hv_ r3
  replace s0 := keep_cell hv_ s0
  replace s1 := keep_cell hv_ s1
  replace s2 := keep_cell hv_ s2
  replace s3 := keep_cell hv_ s3
  have lt_q0 := cell_lt q0
  have lt_q1 := cell_lt q1
  have lt_q2 := cell_lt q2
  have lt_q3 := cell_lt q3
  have lt_r0 := cell_lt r0
  have lt_r1 := cell_lt r1
  have lt_r2 := cell_lt r2
  have lt_r3 := cell_lt r3
  have lt_s0 := cell_lt s0
  have lt_s1 := cell_lt s1
  have lt_s2 := cell_lt s2
  have lt_s3 := cell_lt s3
  replace z1 := z1.below hv_
  replace z2 := z2.below hv_
  replace z3 := z3.below hv_
  replace f_z1 := z1.fr
  replace f_z2 := z2.fr
  replace f_z3 := z3.fr
  replace HB := HB.trans (hv_.mono HB.size)
  clear hv_
  go_wp2_with fail
  refine (HS.out _ HB).mono ?_
  rintro e w2 ⟨R1, c1, R2, c2, rfl, m1, m2, h2⟩
  have hv_ : Below w1.heap.size w1 w2 := Below.trans (b := _) (by repeat (first | assumption | exact Bv _ _ | refine Ba ?_ (by simp; try omega) _ | refine Bd ?_ | refine Bn ?_ _)) (h2.mono (by simp; try omega))
  replace q0 := keep_cell hv_ q0
  replace q1 := keep_cell hv_ q1
  replace q2 := keep_cell hv_ q2
  replace q3 := keep_cell hv_ q3
  replace r0 := keep_cell hv_ r0
  replace r1 := keep_cell hv_ r1
  replace r2 := keep_cell hv_ r2
  replace r3 := keep_cell hv_ r3
  replace s0 := keep_cell hv_ s0
  replace s1 := keep_cell hv_ s1
  replace s2 := keep_cell hv_ s2
  replace s3 := keep_cell hv_ s3
  have lt_q0 := cell_lt q0
  have lt_q1 := cell_lt q1
  have lt_q2 := cell_lt q2
  have lt_q3 := cell_lt q3
  have lt_r0 := cell_lt r0
  have lt_r1 := cell_lt r1
  have lt_r2 := cell_lt r2
  have lt_r3 := cell_lt r3
  have lt_s0 := cell_lt s0
  have lt_s1 := cell_lt s1
  have lt_s2 := cell_lt s2
  have lt_s3 := cell_lt s3
  replace z1 := z1.below hv_
  replace z2 := z2.below hv_
  replace z3 := z3.below hv_
  replace f_z1 := z1.fr
  replace f_z2 := z2.fr
  replace f_z3 := z3.fr
  replace HB := HB.trans (hv_.mono HB.size)
  clear hv_
  go_wp2
  refine bodyPost_ret (v := .tuple #[.agg #[.bool bq, .slice R1 kq c1, .bool false, .slice R2 lq c2], .int .i64 err]) ?_ rfl ?_
  ·simp [results, Tryz.results10, go_sem, s0, s1, s2, s3]
  ·obtain ⟨j1_, j2_, j3_⟩ := fin_frn m1 m2 HB (by omega) s0 s1 s2 s3 (.bool bq) (.slice R1 kq c1) (.bool false) (.slice R2 lq c2)
   exact GFn.r ⟨R1, c1, R2, c2, rfl, j1_, j2_, j3_⟩ IQ.out
theorem FrAdd_any {na nb nc nd : Bool} {xs ys us vs : List Nat} {A B C D : Option Addr} {ca cb cc cd : Nat} {w : World} (ma : Mg w A ca xs) (mb : Mg w B cb ys) (mc : Mg w C cc us) (md : Mg w D cd vs) :
  Calls Tryz.prog 10 #[.agg #[.bool na, .slice A xs.length ca, .bool nb, .slice B ys.length cb], .agg #[.bool nc, .slice C us.length cc, .bool nd, .slice D vs.length cd]] w (RetFE w (opR addE na xs nb ys nc us nd vs)) := (FrAdd_n ma mb mc md).mono fun _ _ h => h.any
end Go.Proofs.YtfdmlfpldgobjaaGreatDoor
/- Package fraction: walks of opposite, reciprocal, Sub, Mul, Div. Conditions: none. -/
namespace Go.Proofs.YtfdmlfpldgobjaaGreatDoor
open Go.RowKit Big
/-- a fraction handed back -/
def GFV (w : World) (b : Bool) (k : Nat) (xs : List Nat) (l : Nat) (ys : List Nat) (e : Ending) (w' : World) : Prop :=
 ∃ A c B d, e = .returned (.agg #[.bool b, .slice A k c, .bool false, .slice B l d]) ∧ Mg w' A c xs ∧ Mg w' B d ys ∧ Below w.heap.size w w'
/-- the same: the numerator in new memory, the denominator where it was -/
def GFVo (B0 : Nat) (B : Option Addr) (cb : Nat) (w : World) (b : Bool) (k : Nat) (xs : List Nat) (l : Nat) (ys : List Nat) (e : Ending) (w' : World) : Prop :=
 ∃ A c, e = .returned (.agg #[.bool b, .slice A k c, .bool false, .slice B l cb]) ∧ MgN B0 w' A c xs ∧ Mg w' B cb ys ∧ Below w.heap.size w w'
theorem GFVo.up {B0 B' : Nat} {B : Option Addr} {cb : Nat} {w w' : World} {b : Bool} {k l : Nat} {xs ys : List Nat} {e : Ending} (hB : B' ≤ B0) (h : GFVo B0 B cb w b k xs l ys e w') : GFVo B' B cb w b k xs l ys e w' := by
 obtain ⟨A, c, h1, h2, h3, h4⟩ := h; exact ⟨A, c, h1, h2.up hB, h3, h4⟩
set_option maxRecDepth 100000 in
set_option maxHeartbeats 4000000 in
theorem Fropposite_gn {f g : Int × Nat} {b b' : Bool} {k l k' l' : Nat} {xs ys us vs : List Nat} {A B : Option Addr} {ca cb : Nat} {w : World} (hf : Fz f b k xs l ys) (hg : Fz g b' k' us l' vs) (h : fneg f = g) (ff : fits f.1) (ma : Mg w A ca xs) (mb : Mg w B cb ys) :
  Calls Tryz.prog 34 #[.agg #[.bool b, .slice A k ca, .bool false, .slice B l cb]] w (GFVo w.heap.size B cb w b' k' us l' vs) := by
 have hn := hid fun (w1 : World) (h' : Below w.heap.size w w1) => (Neg_gn (w := w1) hf.num hg.num (ma.below h') ff (by rw [← h]; rfl)).mono fun _ _ => GZn.up h'.size
 have hd : vs = ys ∧ l' = l := by
  have e : g.2 = f.2 := by rw [← h]; rfl
  have h1 : vs = ys := by rw [hg.hy, hf.hy, e]
  exact ⟨h1, by rw [hg.hl, hf.hl, h1]⟩
 obtain ⟨rfl, rfl⟩ := hd
 have HM := hid fun (w1 : World) (h' : Below w.heap.size w w1) => mb.below h'
 clear hf hg h ff ma mb
 go_enter Tryz.func34, Tryz.ntmps34
 go_wp2_with fail
 refine enterFF (P := fun u => Code.wp _ _ _ _ u) ?_
 intro u HB q0 q1 q2 q3 r0 r1 r2 r3 z1 z2 hsz
 clear hsz
 have f_z1 := z1.fr
 have f_z2 := z2.fr
 have lt_q0 := cell_lt q0
 have lt_r0 := cell_lt r0
 go_region_held3 (fun w' => w'.cell? ⟨w.heap.size, 0, none⟩ = some (.bool b) ∧ w'.cell? ⟨w.heap.size, 1, none⟩ = some (.slice A k ca) ∧ w'.cell? ⟨w.heap.size, 2, none⟩ = some (.bool false) ∧ w'.cell? ⟨w.heap.size, 3, none⟩ = some (.slice B l' cb)) (first | ((try dsimp only); repeat' (first | with_reducible assumption | apply And.intro | (with_reducible refine keep_alloc ?_) | (with_reducible refine keep_drew ?_) | (with_reducible refine keep_set (by first | omega | (simp only [World.size_alloc, World.size_setCell, World.size_drew]; done) | (simp only [World.size_alloc, World.size_setCell, World.size_drew]; omega)) ?_) | (with_reducible refine keep_cell (W := u) ?_ ?_) | fail))) ((go_at_call 61; (with_reducible refine (hn.out _ (bel_step HB BG)).mono ?_); rintro e y1 ⟨R1, c1, rfl, m1, hq_⟩; have qy1 : Below u.heap.size u y1 := bel_step BG hq_; have r0 := keep_cell qy1 r0; have r1 := keep_cell qy1 r1; have r2 := keep_cell qy1 r2; have r3 := keep_cell qy1 r3; have z2 := z2.below qy1; have f_z2 := z2.fr))
 replace HB := bel_step HB qy1
 have m2 := HM.out _ HB
 go_wp2
 refine bodyPost_ret (v := .agg #[.bool b', .slice R1 k' c1, .bool false, .slice B l' cb]) ?_ rfl ?_
 ·simp [results, Tryz.results34, go_sem, r0, r1, r2, r3]
 ·obtain ⟨j1_, j2_, j3_⟩ := fin_fr m1.m m2 HB (by omega) r0 r1 r2 r3 (.bool b') (.slice R1 k' c1) (.bool false) (.slice B l' cb)
  exact ⟨R1, c1, rfl, ⟨j1_, (((m1.nw.set _ _).set _ _).set _ _).set _ _⟩, j2_, j3_⟩
theorem Fropposite_g {f g : Int × Nat} {b b' : Bool} {k l k' l' : Nat} {xs ys us vs : List Nat} {A B : Option Addr} {ca cb : Nat} {w : World} (hf : Fz f b k xs l ys) (hg : Fz g b' k' us l' vs) (h : fneg f = g) (ff : fits f.1) (ma : Mg w A ca xs) (mb : Mg w B cb ys) :
  Calls Tryz.prog 34 #[.agg #[.bool b, .slice A k ca, .bool false, .slice B l cb]] w (GFV w b' k' us l' vs) := (Fropposite_gn hf hg h ff ma mb).mono fun _ _ ⟨A, c, e, m, m2, h⟩ => ⟨A, c, _, _, e, m.m, m2, h⟩
set_option maxRecDepth 100000 in
set_option maxHeartbeats 4000000 in
theorem Frreciprocal_g {b : Bool} {k l : Nat} {xs ys : List Nat} {A B : Option Addr} {ca cb : Nat} {w : World} (ma : Mg w A ca xs) (mb : Mg w B cb ys) :
  Calls Tryz.prog 36 #[.agg #[.bool b, .slice A k ca, .bool false, .slice B l cb]] w (GFV w b l ys k xs) := by
 go_enter Tryz.func36, Tryz.ntmps36
 go_wp2
 refine bodyPost_ret (v := .agg #[.bool b, .slice B l cb, .bool false, .slice A k ca]) ?_ rfl ?_
 ·simp [results, Tryz.results36, go_sem]
 ·have hb : Below w.heap.size w ((w.alloc (.cells #[.bool b, .slice A k ca, .bool false, .slice B l cb] 26)).alloc (.cells #[.bool b, .slice B l cb, .bool false, .slice A k ca] 26)) := ((Below.refl _ _).alloc (Nat.le_refl _) _).alloc (by simp) _
  exact ⟨B, cb, A, ca, rfl, mb.below hb, ma.below hb, hb⟩
set_option maxRecDepth 100000 in
set_option maxHeartbeats 4000000 in
theorem FrMul_n {na nb nc nd : Bool} {xs ys us vs : List Nat} {A B C D : Option Addr} {ca cb cc cd : Nat} {w : World} (ma : Mg w A ca xs) (mb : Mg w B cb ys) (mc : Mg w C cc us) (md : Mg w D cd vs) :
  Calls Tryz.prog 12 #[.agg #[.bool na, .slice A xs.length ca, .bool nb, .slice B ys.length cb], .agg #[.bool nc, .slice C us.length cc, .bool nd, .slice D vs.length cd]] w (RetFEn w (opR mulE na xs nb ys nc us nd vs)) := by
 have HX := hid fun (w1 : World) (h : Below w.heap.size w w1) => Frvalid2 (na := na) (nb := nb) (nc := nc) (nd := nd) (u := w1) (ma.below h) (mb.below h) (mc.below h) (md.below h)
 cases hv : (fvB na xs nb ys && fvB nc us nd vs)
 ·have hr_ : opR mulE na xs nb ys nc us nd vs = ((0, 0), 1) := by unfold opR; rw [hv]; rfl
  rw [hr_]
  rw [hv] at HX
  clear hr_ hv ma mb mc md
  generalize xs.length = ka at *
  generalize ys.length = la at *
  generalize us.length = kb at *
  generalize vs.length = lb at *
  go_enter Tryz.func12, Tryz.ntmps12
  go_wp2_with fail
  refine enterFFF (P := fun u => Calls _ _ _ (u.alloc _) _) ?_
  intro u HB q0 q1 q2 q3 r0 r1 r2 r3 s0 s1 s2 s3 z1 z2 z3 hsz
  have f_z1 := z1.fr
  have f_z2 := z2.fr
  have f_z3 := z3.fr
  have lt_q0 := cell_lt q0
  have lt_r0 := cell_lt r0
  have lt_s0 := cell_lt s0
  have HX2 := HX.out u HB
  rw [hsz.out] at HX2
  refine HX2.mono ?_
  clear HX2
  rintro e w1 ⟨rfl, h1⟩
  have hv_ : Below u.heap.size u w1 := Below.trans (b := _) (by repeat (first | assumption | exact Bv _ _ | refine Ba ?_ (by simp; try omega) _ | refine Bd ?_ | refine Bn ?_ _)) (h1.mono (by simp; try omega))
  replace q0 := keep_cell hv_ q0
  replace q1 := keep_cell hv_ q1
  replace q2 := keep_cell hv_ q2
  replace q3 := keep_cell hv_ q3
  replace r0 := keep_cell hv_ r0
  replace r1 := keep_cell hv_ r1
  replace r2 := keep_cell hv_ r2
  replace r3 := keep_cell hv_ r3
  replace s0 := keep_cell hv_ s0
  replace s1 := keep_cell hv_ s1
  replace s2 := keep_cell hv_ s2
  replace s3 := keep_cell hv_ s3
  have lt_q0 := cell_lt q0
  have lt_q1 := cell_lt q1
  have lt_q2 := cell_lt q2
  have lt_q3 := cell_lt q3
  have lt_r0 := cell_lt r0
  have lt_r1 := cell_lt r1
  have lt_r2 := cell_lt r2
  have lt_r3 := cell_lt r3
  have lt_s0 := cell_lt s0
  have lt_s1 := cell_lt s1
  have lt_s2 := cell_lt s2
  have lt_s3 := cell_lt s3
  replace z1 := z1.below hv_
  replace z2 := z2.below hv_
  replace z3 := z3.below hv_
  replace f_z1 := z1.fr
  replace f_z2 := z2.fr
  replace f_z3 := z3.fr
  replace HB := HB.trans (hv_.mono HB.size)
  clear hv_
  go_wp2
  refine bodyPost_ret (v := .tuple #[.agg #[.bool false, .slice none 0 0, .bool false, .slice none 0 0], .int .i64 1]) ?_ rfl ?_
  ·simp [results, Tryz.results12, go_sem, s0, s1, s2, s3]
  ·exact retFEn_set 1 HB (by omega) s0 s1 s2 s3
 ·rw [hv] at HX
  have hvv_ := hv
  simp only [Bool.and_eq_true] at hvv_
  obtain ⟨v1, v2⟩ := hvv_
  clear hv
  obtain ⟨rfl, p1, p2, p3, p4, p5, p6⟩ := fvB_ok ma.ok mb.ok v1
  obtain ⟨rfl, p7, p8, p9, p10, p11, p12⟩ := fvB_ok mc.ok md.ok v2
  have hr_ : opR mulE na xs false ys nc us false vs = mulE (sg na (val xs), val ys) (sg nc (val us), val vs) := by unfold opR; rw [v1, v2]; rfl
  rw [hr_]
  have IF : Hid (Fz (sg na (val xs), val ys) na xs.length xs ys.length ys) := ⟨p1, by rw [natAbs_sg]; exact p2, rfl, p3, rfl⟩
  have IG : Hid (Fz (sg nc (val us), val vs) nc us.length us vs.length vs) := ⟨p7, by rw [natAbs_sg]; exact p8, rfl, p9, rfl⟩
  generalize (sg na (val xs), val ys) = f at *
  generalize (sg nc (val us), val vs) = g at *
  have NF := hid p4
  have NG := hid p10
  clear hr_ v1 v2 p1 p2 p3 p4 p7 p8 p9 p10
  generalize xs.length = ka at *
  generalize ys.length = la at *
  generalize us.length = kb at *
  generalize vs.length = lb at *
  obtain ⟨p, err, hp⟩ : ∃ p err, mulE f g = (p, err) := ⟨_, _, rfl⟩
  obtain ⟨bq, kq, Xq, lq, Yq, IQ⟩ := fz p
  have HS := hid fun (w1 : World) (h : Below w.heap.size w w1) => (Frproduct2n (u := w1) IF.out IG.out NF.out NG.out (ma.below h) (mb.below h) (mc.below h) (md.below h) p5 p6 p11 p12).mono fun e w' k => by
   rw [hp] at k; exact (RetFEn.g k IQ.out).up h.size
  rw [hp]
  clear hp ma mb mc md IF IG NF NG
  go_enter Tryz.func12, Tryz.ntmps12
  go_wp2_with fail
  refine enterFFF (P := fun u => Calls _ _ _ (u.alloc _) _) ?_
  intro u HB q0 q1 q2 q3 r0 r1 r2 r3 s0 s1 s2 s3 z1 z2 z3 hsz
  have f_z1 := z1.fr
  have f_z2 := z2.fr
  have f_z3 := z3.fr
  have lt_q0 := cell_lt q0
  have lt_r0 := cell_lt r0
  have lt_s0 := cell_lt s0
  have HX2 := HX.out u HB
  rw [hsz.out] at HX2
  refine HX2.mono ?_
  clear HX2
  rintro e w1 ⟨rfl, h1⟩
  have hv_ : Below u.heap.size u w1 := Below.trans (b := _) (by repeat (first | assumption | exact Bv _ _ | refine Ba ?_ (by simp; try omega) _ | refine Bd ?_ | refine Bn ?_ _)) (h1.mono (by simp; try omega))
  replace q0 := keep_cell hv_ q0
  replace q1 := keep_cell hv_ q1
  replace q2 := keep_cell hv_ q2
  replace q3 := keep_cell hv_ q3
  replace r0 := keep_cell hv_ r0
  replace r1 := keep_cell hv_ r1
  replace r2 := keep_cell hv_ r2
  replace r3 := keep_cell hv_ r3
  replace s0 := keep_cell hv_ s0
  replace s1 := keep_cell hv_ s1
  replace s2 := keep_cell hv_ s2
  replace s3 := keep_cell hv_ s3
  have lt_q0 := cell_lt q0
  have lt_q1 := cell_lt q1
  have lt_q2 := cell_lt q2
  have lt_q3 := cell_lt q3
  have lt_r0 := cell_lt r0
  have lt_r1 := cell_lt r1
  have lt_r2 := cell_lt r2
  have lt_r3 := cell_lt r3
  have lt_s0 := cell_lt s0
  have lt_s1 := cell_lt s1
  have lt_s2 := cell_lt s2
  have lt_s3 := cell_lt s3
  replace z1 := z1.below hv_
  replace z2 := z2.below hv_
  replace z3 := z3.below hv_
  replace f_z1 := z1.fr
  replace f_z2 := z2.fr
  replace f_z3 := z3.fr
  replace HB := HB.trans (hv_.mono HB.size)
  clear hv_
  go_wp2_with fail
  refine (HS.out _ HB).mono ?_
  rintro e w2 ⟨R1, c1, R2, c2, rfl, m1, m2, h2⟩
  have hv_ : Below w1.heap.size w1 w2 := Below.trans (b := _) (by repeat (first | assumption | exact Bv _ _ | refine Ba ?_ (by simp; try omega) _ | refine Bd ?_ | refine Bn ?_ _)) (h2.mono (by simp; try omega))
  replace q0 := keep_cell hv_ q0
  replace q1 := keep_cell hv_ q1
  replace q2 := keep_cell hv_ q2
  replace q3 := keep_cell hv_ q3
  replace r0 := keep_cell hv_ r0
  replace r1 := keep_cell hv_ r1
  replace r2 := keep_cell hv_ r2
  replace r3 := keep_cell hv_ r3
  replace s0 := keep_cell hv_ s0
  replace s1 := keep_cell hv_ s1
  replace s2 := keep_cell hv_ s2
  replace s3 := keep_cell hv_ s3
  have lt_q0 := cell_lt q0
  have lt_q1 := cell_lt q1
  have lt_q2 := cell_lt q2
  have lt_q3 := cell_lt q3
  have lt_r0 := cell_lt r0
  have lt_r1 := cell_lt r1
  have lt_r2 := cell_lt r2
  have lt_r3 := cell_lt r3
  have lt_s0 := cell_lt s0
  have lt_s1 := cell_lt s1
  have lt_s2 := cell_lt s2
  have lt_s3 := cell_lt s3
  replace z1 := z1.below hv_
  replace z2 := z2.below hv_
  replace z3 := z3.below hv_
  replace f_z1 := z1.fr
  replace f_z2 := z2.fr
  replace f_z3 := z3.fr
  replace HB := HB.trans (hv_.mono HB.size)
  clear hv_
  go_wp2
  refine bodyPost_ret (v := .tuple #[.agg #[.bool bq, .slice R1 kq c1, .bool false, .slice R2 lq c2], .int .i64 err]) ?_ rfl ?_
  ·simp [results, Tryz.results12, go_sem, s0, s1, s2, s3]
  ·obtain ⟨j1_, j2_, j3_⟩ := fin_frn m1 m2 HB (by omega) s0 s1 s2 s3 (.bool bq) (.slice R1 kq c1) (.bool false) (.slice R2 lq c2)
   exact GFn.r ⟨R1, c1, R2, c2, rfl, j1_, j2_, j3_⟩ IQ.out
theorem FrMul_any {na nb nc nd : Bool} {xs ys us vs : List Nat} {A B C D : Option Addr} {ca cb cc cd : Nat} {w : World} (ma : Mg w A ca xs) (mb : Mg w B cb ys) (mc : Mg w C cc us) (md : Mg w D cd vs) :
  Calls Tryz.prog 12 #[.agg #[.bool na, .slice A xs.length ca, .bool nb, .slice B ys.length cb], .agg #[.bool nc, .slice C us.length cc, .bool nd, .slice D vs.length cd]] w (RetFE w (opR mulE na xs nb ys nc us nd vs)) := (FrMul_n ma mb mc md).mono fun _ _ h => h.any
theorem subE_add (f g : Int × Nat) : addE f (fneg g) = subE f g := by unfold addE subE fneg; rw [Int.neg_mul, ← Int.sub_eq_add_neg]
set_option maxRecDepth 100000 in
set_option maxHeartbeats 4000000 in
theorem FrSub_n {na nb nc nd : Bool} {xs ys us vs : List Nat} {A B C D : Option Addr} {ca cb cc cd : Nat} {w : World} (ma : Mg w A ca xs) (mb : Mg w B cb ys) (mc : Mg w C cc us) (md : Mg w D cd vs) :
  Calls Tryz.prog 11 #[.agg #[.bool na, .slice A xs.length ca, .bool nb, .slice B ys.length cb], .agg #[.bool nc, .slice C us.length cc, .bool nd, .slice D vs.length cd]] w (RetFEn w (opR subE na xs nb ys nc us nd vs)) := by
 have HX := hid fun (w1 : World) (h : Below w.heap.size w w1) => Frvalid2 (na := na) (nb := nb) (nc := nc) (nd := nd) (u := w1) (ma.below h) (mb.below h) (mc.below h) (md.below h)
 cases hv : (fvB na xs nb ys && fvB nc us nd vs)
 ·have hr_ : opR subE na xs nb ys nc us nd vs = ((0, 0), 1) := by unfold opR; rw [hv]; rfl
  rw [hr_]
  rw [hv] at HX
  clear hr_ hv ma mb mc md
  generalize xs.length = ka at *
  generalize ys.length = la at *
  generalize us.length = kb at *
  generalize vs.length = lb at *
  go_enter Tryz.func11, Tryz.ntmps11
  go_wp2_with fail
  refine enterFFF (P := fun u => Calls _ _ _ (u.alloc _) _) ?_
  intro u HB q0 q1 q2 q3 r0 r1 r2 r3 s0 s1 s2 s3 z1 z2 z3 hsz
  have f_z1 := z1.fr
  have f_z2 := z2.fr
  have f_z3 := z3.fr
  have lt_q0 := cell_lt q0
  have lt_r0 := cell_lt r0
  have lt_s0 := cell_lt s0
  have HX2 := HX.out u HB
  rw [hsz.out] at HX2
  refine HX2.mono ?_
  clear HX2
  rintro e w1 ⟨rfl, h1⟩
  have hv_ : Below u.heap.size u w1 := Below.trans (b := _) (by repeat (first | assumption | exact Bv _ _ | refine Ba ?_ (by simp; try omega) _ | refine Bd ?_ | refine Bn ?_ _)) (h1.mono (by simp; try omega))
  replace q0 := keep_cell hv_ q0
  replace q1 := keep_cell hv_ q1
  replace q2 := keep_cell hv_ q2
  replace q3 := keep_cell hv_ q3
  replace r0 := keep_cell hv_ r0
  replace r1 := keep_cell hv_ r1
  replace r2 := keep_cell hv_ r2
  replace r3 := keep_cell hv_ r3
  replace s0 := keep_cell hv_ s0
  replace s1 := keep_cell hv_ s1
  replace s2 := keep_cell hv_ s2
  replace s3 := keep_cell hv_ s3
  have lt_q0 := cell_lt q0
  have lt_q1 := cell_lt q1
  have lt_q2 := cell_lt q2
  have lt_q3 := cell_lt q3
  have lt_r0 := cell_lt r0
  have lt_r1 := cell_lt r1
  have lt_r2 := cell_lt r2
  have lt_r3 := cell_lt r3
  have lt_s0 := cell_lt s0
  have lt_s1 := cell_lt s1
  have lt_s2 := cell_lt s2
  have lt_s3 := cell_lt s3
  replace z1 := z1.below hv_
  replace z2 := z2.below hv_
  replace z3 := z3.below hv_
  replace f_z1 := z1.fr
  replace f_z2 := z2.fr
  replace f_z3 := z3.fr
  replace HB := HB.trans (hv_.mono HB.size)
  clear hv_
  go_wp2
  refine bodyPost_ret (v := .tuple #[.agg #[.bool false, .slice none 0 0, .bool false, .slice none 0 0], .int .i64 1]) ?_ rfl ?_
  ·simp [results, Tryz.results11, go_sem, s0, s1, s2, s3]
  ·exact retFEn_set 1 HB (by omega) s0 s1 s2 s3
 ·rw [hv] at HX
  have hvv_ := hv
  simp only [Bool.and_eq_true] at hvv_
  obtain ⟨v1, v2⟩ := hvv_
  clear hv
  obtain ⟨rfl, p1, p2, p3, p4, p5, p6⟩ := fvB_ok ma.ok mb.ok v1
  obtain ⟨rfl, p7, p8, p9, p10, p11, p12⟩ := fvB_ok mc.ok md.ok v2
  have hr_ : opR subE na xs false ys nc us false vs = subE (sg na (val xs), val ys) (sg nc (val us), val vs) := by unfold opR; rw [v1, v2]; rfl
  rw [hr_]
  have IF : Hid (Fz (sg na (val xs), val ys) na xs.length xs ys.length ys) := ⟨p1, by rw [natAbs_sg]; exact p2, rfl, p3, rfl⟩
  have IG : Hid (Fz (sg nc (val us), val vs) nc us.length us vs.length vs) := ⟨p7, by rw [natAbs_sg]; exact p8, rfl, p9, rfl⟩
  generalize (sg na (val xs), val ys) = f at *
  generalize (sg nc (val us), val vs) = g at *
  have NF := hid p4
  have NG := hid p10
  clear hr_ v1 v2 p1 p2 p3 p4 p7 p8 p9 p10
  generalize xs.length = ka at *
  generalize ys.length = la at *
  generalize us.length = kb at *
  generalize vs.length = lb at *
  obtain ⟨p, err, hp⟩ : ∃ p err, subE f g = (p, err) := ⟨_, _, rfl⟩
  obtain ⟨bq, kq, Xq, lq, Yq, IQ⟩ := fz p
  obtain ⟨bn, kn, Xn, ln, Yn, IN⟩ := fz (fneg g)
  have hkn : kn ≤ 512 := by rw [← IN.out.n.len]; unfold fneg; rw [Int.natAbs_neg, IG.out.n.len]; exact p11
  have hln : ln ≤ 512 := by rw [← IN.out.d.len]; unfold fneg; rw [IG.out.d.len]; exact p12
  have HO := hid fun (w1 : World) (h : Below w.heap.size w w1) => Fropposite_g (w := w1) IG.out IN.out rfl (by unfold fits; rw [IG.out.n.len]; exact p11) (mc.below h) (md.below h)
  have HS := hid fun (w1 : World) (h : Below w.heap.size w w1) (R Q : Option Addr) (c d : Nat) (m : Mg w1 R c Xn) (m' : Mg w1 Q d Yn) => (Frsum2n (u := w1) IF.out IN.out NF.out (fneg_nf NG.out) (ma.below h) (mb.below h) m m' p5 p6 hkn hln).mono fun e w' k => by
   rw [subE_add, hp] at k; exact (RetFEn.g k IQ.out).up h.size
  rw [hp]
  clear hp ma mb mc md IF IG NF NG IN hkn hln
  go_enter Tryz.func11, Tryz.ntmps11
  go_wp2_with fail
  refine enterFFF (P := fun u => Calls _ _ _ (u.alloc _) _) ?_
  intro u HB q0 q1 q2 q3 r0 r1 r2 r3 s0 s1 s2 s3 z1 z2 z3 hsz
  have f_z1 := z1.fr
  have f_z2 := z2.fr
  have f_z3 := z3.fr
  have lt_q0 := cell_lt q0
  have lt_r0 := cell_lt r0
  have lt_s0 := cell_lt s0
  have HX2 := HX.out u HB
  rw [hsz.out] at HX2
  refine HX2.mono ?_
  clear HX2
  rintro e w1 ⟨rfl, h1⟩
  have hv_ : Below u.heap.size u w1 := Below.trans (b := _) (by repeat (first | assumption | exact Bv _ _ | refine Ba ?_ (by simp; try omega) _ | refine Bd ?_ | refine Bn ?_ _)) (h1.mono (by simp; try omega))
  replace q0 := keep_cell hv_ q0
  replace q1 := keep_cell hv_ q1
  replace q2 := keep_cell hv_ q2
  replace q3 := keep_cell hv_ q3
  replace r0 := keep_cell hv_ r0
  replace r1 := keep_cell hv_ r1
  replace r2 := keep_cell hv_ r2
  replace r3 := keep_cell hv_ r3
  replace s0 := keep_cell hv_ s0
  replace s1 := keep_cell hv_ s1
  replace s2 := keep_cell hv_ s2
  replace s3 := keep_cell hv_ s3
  have lt_q0 := cell_lt q0
  have lt_q1 := cell_lt q1
  have lt_q2 := cell_lt q2
  have lt_q3 := cell_lt q3
  have lt_r0 := cell_lt r0
  have lt_r1 := cell_lt r1
  have lt_r2 := cell_lt r2
  have lt_r3 := cell_lt r3
  have lt_s0 := cell_lt s0
  have lt_s1 := cell_lt s1
  have lt_s2 := cell_lt s2
  have lt_s3 := cell_lt s3
  replace z1 := z1.below hv_
  replace z2 := z2.below hv_
  replace z3 := z3.below hv_
  replace f_z1 := z1.fr
  replace f_z2 := z2.fr
  replace f_z3 := z3.fr
  replace HB := HB.trans (hv_.mono HB.size)
  clear hv_
  go_wp2_with fail
  go_region_held3 (fun w' => (w'.cell? ⟨w.heap.size, 0, none⟩ = some (.bool na) ∧ w'.cell? ⟨w.heap.size, 1, none⟩ = some (.slice A ka ca) ∧ w'.cell? ⟨w.heap.size, 2, none⟩ = some (.bool false) ∧ w'.cell? ⟨w.heap.size, 3, none⟩ = some (.slice B la cb)) ∧ (w'.cell? ⟨w.heap.size + 1, 0, none⟩ = some (.bool nc) ∧ w'.cell? ⟨w.heap.size + 1, 1, none⟩ = some (.slice C kb cc) ∧ w'.cell? ⟨w.heap.size + 1, 2, none⟩ = some (.bool false) ∧ w'.cell? ⟨w.heap.size + 1, 3, none⟩ = some (.slice D lb cd))) (first | ((try dsimp only); repeat' (first | with_reducible assumption | apply And.intro | (with_reducible refine keep_alloc ?_) | (with_reducible refine keep_drew ?_) | (with_reducible refine keep_set (by first | omega | (simp only [World.size_alloc, World.size_setCell, World.size_drew]; done) | (simp only [World.size_alloc, World.size_setCell, World.size_drew]; omega)) ?_) | (with_reducible refine keep_cell (W := w1) ?_ ?_) | fail))) (first | (go_at_call 34; (with_reducible refine (HO.out _ (bel_step HB BG)).mono ?_); rintro e y1 ⟨Rn, cn, Qn, dn, rfl, mn, mn2, hq_⟩; have qy1 : Below w1.heap.size w1 y1 := bel_step BG hq_) | (go_at_call 33; (with_reducible refine (HS.out _ (bel_step HB BG) _ _ _ _ (mn.below BG) (mn2.below BG)).mono ?_); rintro e y2 ⟨R1, c1, R2, c2, rfl, m1, m2, hq_⟩; have qy2 : Below w1.heap.size w1 y2 := bel_step BG hq_; have s0 := keep_cell qy2 s0; have s1 := keep_cell qy2 s1; have s2 := keep_cell qy2 s2; have s3 := keep_cell qy2 s3; have z3 := z3.below qy2; have f_z3 := z3.fr))
  replace HB := bel_step HB qy2
  go_wp2
  refine bodyPost_ret (v := .tuple #[.agg #[.bool bq, .slice R1 kq c1, .bool false, .slice R2 lq c2], .int .i64 err]) ?_ rfl ?_
  ·simp [results, Tryz.results11, go_sem, s0, s1, s2, s3]
  ·obtain ⟨j1_, j2_, j3_⟩ := fin_frn m1 m2 HB (by omega) s0 s1 s2 s3 (.bool bq) (.slice R1 kq c1) (.bool false) (.slice R2 lq c2)
   exact GFn.r ⟨R1, c1, R2, c2, rfl, j1_, j2_, j3_⟩ IQ.out
theorem FrSub_any {na nb nc nd : Bool} {xs ys us vs : List Nat} {A B C D : Option Addr} {ca cb cc cd : Nat} {w : World} (ma : Mg w A ca xs) (mb : Mg w B cb ys) (mc : Mg w C cc us) (md : Mg w D cd vs) :
  Calls Tryz.prog 11 #[.agg #[.bool na, .slice A xs.length ca, .bool nb, .slice B ys.length cb], .agg #[.bool nc, .slice C us.length cc, .bool nd, .slice D vs.length cd]] w (RetFE w (opR subE na xs nb ys nc us nd vs)) := (FrSub_n ma mb mc md).mono fun _ _ h => h.any
theorem sg_cn (x : Int) (c : Bool) (n : Nat) : sg (decide (x < 0) != c) (x.natAbs * n) = x * sg c n := by
 cases c
 ·rw [show (decide (x < 0) != false) = decide (x < 0) by simp, sg_mulN]; simp [sg]
 ·rw [sg_flip, sg_mulN]; simp [sg, Int.mul_neg]
theorem divE_mul {f g : Int × Nat} (h : g.1 ≠ 0) : mulE f (sg (decide (g.1 < 0)) g.2, g.1.natAbs) = divE f g := by
 unfold mulE divE
 rw [if_neg h, sg_cn]
theorem Fz.recip {g : Int × Nat} {b : Bool} {k l : Nat} {xs ys : List Nat} (h : Fz g b k xs l ys) (n : Nf g) : Fz (sg (decide (g.1 < 0)) g.2, g.1.natAbs) b l ys k xs :=
 ⟨by rw [h.hb]; exact (sg_neg _ _ (by have := n.1; omega)).symm, by rw [natAbs_sg]; exact h.hy, h.hl, h.hx, h.hk⟩
theorem nf_recip {g : Int × Nat} (n : Nf g) (h : g.1 ≠ 0) : Nf (sg (decide (g.1 < 0)) g.2, g.1.natAbs) :=
 ⟨by show 0 < g.1.natAbs; omega, by show Nat.gcd (sg _ g.2).natAbs g.1.natAbs = 1; rw [natAbs_sg, Nat.gcd_comm]; exact n.2⟩
set_option maxRecDepth 100000 in
set_option maxHeartbeats 4000000 in
theorem FrDiv_n {na nb nc nd : Bool} {xs ys us vs : List Nat} {A B C D : Option Addr} {ca cb cc cd : Nat} {w : World} (ma : Mg w A ca xs) (mb : Mg w B cb ys) (mc : Mg w C cc us) (md : Mg w D cd vs) :
  Calls Tryz.prog 13 #[.agg #[.bool na, .slice A xs.length ca, .bool nb, .slice B ys.length cb], .agg #[.bool nc, .slice C us.length cc, .bool nd, .slice D vs.length cd]] w (RetFEn w (opR divE na xs nb ys nc us nd vs)) := by
 have HX := hid fun (w1 : World) (h : Below w.heap.size w w1) => Frvalid2 (na := na) (nb := nb) (nc := nc) (nd := nd) (u := w1) (ma.below h) (mb.below h) (mc.below h) (md.below h)
 cases hv : (fvB na xs nb ys && fvB nc us nd vs)
 ·have hr_ : opR divE na xs nb ys nc us nd vs = ((0, 0), 1) := by unfold opR; rw [hv]; rfl
  rw [hr_]
  rw [hv] at HX
  clear hr_ hv ma mb mc md
  generalize xs.length = ka at *
  generalize ys.length = la at *
  generalize us.length = kb at *
  generalize vs.length = lb at *
  go_enter Tryz.func13, Tryz.ntmps13
  go_wp2_with fail
  refine enterFFF (P := fun u => Calls _ _ _ (u.alloc _) _) ?_
  intro u HB q0 q1 q2 q3 r0 r1 r2 r3 s0 s1 s2 s3 z1 z2 z3 hsz
  have f_z1 := z1.fr
  have f_z2 := z2.fr
  have f_z3 := z3.fr
  have lt_q0 := cell_lt q0
  have lt_r0 := cell_lt r0
  have lt_s0 := cell_lt s0
  have HX2 := HX.out u HB
  rw [hsz.out] at HX2
  refine HX2.mono ?_
  clear HX2
  rintro e w1 ⟨rfl, h1⟩
  have hv_ : Below u.heap.size u w1 := Below.trans (b := _) (by repeat (first | assumption | exact Bv _ _ | refine Ba ?_ (by simp; try omega) _ | refine Bd ?_ | refine Bn ?_ _)) (h1.mono (by simp; try omega))
  replace q0 := keep_cell hv_ q0
  replace q1 := keep_cell hv_ q1
  replace q2 := keep_cell hv_ q2
  replace q3 := keep_cell hv_ q3
  replace r0 := keep_cell hv_ r0
  replace r1 := keep_cell hv_ r1
  replace r2 := keep_cell hv_ r2
  replace r3 := keep_cell hv_ r3
  replace s0 := keep_cell hv_ s0
  replace s1 := keep_cell hv_ s1
  replace s2 := keep_cell hv_ s2
  replace s3 := keep_cell hv_ s3
  have lt_q0 := cell_lt q0
  have lt_q1 := cell_lt q1
  have lt_q2 := cell_lt q2
  have lt_q3 := cell_lt q3
  have lt_r0 := cell_lt r0
  have lt_r1 := cell_lt r1
  have lt_r2 := cell_lt r2
  have lt_r3 := cell_lt r3
  have lt_s0 := cell_lt s0
  have lt_s1 := cell_lt s1
  have lt_s2 := cell_lt s2
  have lt_s3 := cell_lt s3
  replace z1 := z1.below hv_
  replace z2 := z2.below hv_
  replace z3 := z3.below hv_
  replace f_z1 := z1.fr
  replace f_z2 := z2.fr
  replace f_z3 := z3.fr
  replace HB := HB.trans (hv_.mono HB.size)
  clear hv_
  go_wp2
  refine bodyPost_ret (v := .tuple #[.agg #[.bool false, .slice none 0 0, .bool false, .slice none 0 0], .int .i64 1]) ?_ rfl ?_
  ·simp [results, Tryz.results13, go_sem, s0, s1, s2, s3]
  ·exact retFEn_set 1 HB (by omega) s0 s1 s2 s3
 ·rw [hv] at HX
  have hvv_ := hv
  simp only [Bool.and_eq_true] at hvv_
  obtain ⟨v1, v2⟩ := hvv_
  clear hv
  obtain ⟨rfl, p1, p2, p3, p4, p5, p6⟩ := fvB_ok ma.ok mb.ok v1
  obtain ⟨rfl, p7, p8, p9, p10, p11, p12⟩ := fvB_ok mc.ok md.ok v2
  have hr_ : opR divE na xs false ys nc us false vs = divE (sg na (val xs), val ys) (sg nc (val us), val vs) := by unfold opR; rw [v1, v2]; rfl
  rw [hr_]
  have IF : Hid (Fz (sg na (val xs), val ys) na xs.length xs ys.length ys) := ⟨p1, by rw [natAbs_sg]; exact p2, rfl, p3, rfl⟩
  have IG : Hid (Fz (sg nc (val us), val vs) nc us.length us vs.length vs) := ⟨p7, by rw [natAbs_sg]; exact p8, rfl, p9, rfl⟩
  generalize (sg na (val xs), val ys) = f at *
  generalize (sg nc (val us), val vs) = g at *
  have NF := hid p4
  have NG := hid p10
  clear hr_ v1 v2 p1 p2 p3 p4 p7 p8 p9 p10
  generalize xs.length = ka at *
  generalize ys.length = la at *
  generalize us.length = kb at *
  generalize vs.length = lb at *
  by_cases h0 : g.1 = 0
  ·have hr : divE f g = ((0, 0), 12) := by unfold divE; rw [if_pos h0]
   have hk : kb = 0 := IG.out.num.zero.2 h0
   rw [hr]
   subst hk
   clear hr h0 ma mb mc md IF IG NF NG
   go_enter Tryz.func13, Tryz.ntmps13
   go_wp2_with fail
   refine enterFFF (P := fun u => Calls _ _ _ (u.alloc _) _) ?_
   intro u HB q0 q1 q2 q3 r0 r1 r2 r3 s0 s1 s2 s3 z1 z2 z3 hsz
   have f_z1 := z1.fr
   have f_z2 := z2.fr
   have f_z3 := z3.fr
   have lt_q0 := cell_lt q0
   have lt_r0 := cell_lt r0
   have lt_s0 := cell_lt s0
   have HX2 := HX.out u HB
   rw [hsz.out] at HX2
   refine HX2.mono ?_
   clear HX2
   rintro e w1 ⟨rfl, h1⟩
   have hv_ : Below u.heap.size u w1 := Below.trans (b := _) (by repeat (first | assumption | exact Bv _ _ | refine Ba ?_ (by simp; try omega) _ | refine Bd ?_ | refine Bn ?_ _)) (h1.mono (by simp; try omega))
   replace q0 := keep_cell hv_ q0
   replace q1 := keep_cell hv_ q1
   replace q2 := keep_cell hv_ q2
   replace q3 := keep_cell hv_ q3
   replace r0 := keep_cell hv_ r0
   replace r1 := keep_cell hv_ r1
   replace r2 := keep_cell hv_ r2
   replace r3 := keep_cell hv_ r3
   replace s0 := keep_cell hv_ s0
   replace s1 := keep_cell hv_ s1
   replace s2 := keep_cell hv_ s2
   replace s3 := keep_cell hv_ s3
   have lt_q0 := cell_lt q0
   have lt_q1 := cell_lt q1
   have lt_q2 := cell_lt q2
   have lt_q3 := cell_lt q3
   have lt_r0 := cell_lt r0
   have lt_r1 := cell_lt r1
   have lt_r2 := cell_lt r2
   have lt_r3 := cell_lt r3
   have lt_s0 := cell_lt s0
   have lt_s1 := cell_lt s1
   have lt_s2 := cell_lt s2
   have lt_s3 := cell_lt s3
   replace z1 := z1.below hv_
   replace z2 := z2.below hv_
   replace z3 := z3.below hv_
   replace f_z1 := z1.fr
   replace f_z2 := z2.fr
   replace f_z3 := z3.fr
   replace HB := HB.trans (hv_.mono HB.size)
   clear hv_
   go_wp2
   refine bodyPost_ret (v := .tuple #[.agg #[.bool false, .slice none 0 0, .bool false, .slice none 0 0], .int .i64 12]) ?_ rfl ?_
   ·simp [results, Tryz.results13, go_sem, s0, s1, s2, s3]
   ·exact retFEn_set 12 HB (by omega) s0 s1 s2 s3
  ·have hk : ((kb : Int) == 0) = false := by rw [beq_eq_false_iff_ne]; have : kb ≠ 0 := fun h => h0 (IG.out.num.zero.1 h); omega
   obtain ⟨p, err, hp⟩ : ∃ p err, divE f g = (p, err) := ⟨_, _, rfl⟩
   obtain ⟨bq, kq, Xq, lq, Yq, IQ⟩ := fz p
   have HO := hid fun (w1 : World) (h : Below w.heap.size w w1) => Frreciprocal_g (w := w1) (b := nc) (k := kb) (l := lb) (mc.below h) (md.below h)
   have HS := hid fun (w1 : World) (h : Below w.heap.size w w1) (R Q : Option Addr) (c d : Nat) (m : Mg w1 R c vs) (m' : Mg w1 Q d us) => (Frproduct2n (u := w1) IF.out (IG.out.recip NG.out) NF.out (nf_recip NG.out h0) (ma.below h) (mb.below h) m m' p5 p6 p12 p11).mono fun e w' k => by
    rw [divE_mul h0, hp] at k; exact (RetFEn.g k IQ.out).up h.size
   rw [hp]
   clear hp ma mb mc md IF IG NF NG h0
   go_enter Tryz.func13, Tryz.ntmps13
   go_wp2_with fail
   refine enterFFF (P := fun u => Calls _ _ _ (u.alloc _) _) ?_
   intro u HB q0 q1 q2 q3 r0 r1 r2 r3 s0 s1 s2 s3 z1 z2 z3 hsz
   have f_z1 := z1.fr
   have f_z2 := z2.fr
   have f_z3 := z3.fr
   have lt_q0 := cell_lt q0
   have lt_r0 := cell_lt r0
   have lt_s0 := cell_lt s0
   have HX2 := HX.out u HB
   rw [hsz.out] at HX2
   refine HX2.mono ?_
   clear HX2
   rintro e w1 ⟨rfl, h1⟩
   have hv_ : Below u.heap.size u w1 := Below.trans (b := _) (by repeat (first | assumption | exact Bv _ _ | refine Ba ?_ (by simp; try omega) _ | refine Bd ?_ | refine Bn ?_ _)) (h1.mono (by simp; try omega))
   replace q0 := keep_cell hv_ q0
   replace q1 := keep_cell hv_ q1
   replace q2 := keep_cell hv_ q2
   replace q3 := keep_cell hv_ q3
   replace r0 := keep_cell hv_ r0
   replace r1 := keep_cell hv_ r1
   replace r2 := keep_cell hv_ r2
   replace r3 := keep_cell hv_ r3
   replace s0 := keep_cell hv_ s0
   replace s1 := keep_cell hv_ s1
   replace s2 := keep_cell hv_ s2
   replace s3 := keep_cell hv_ s3
   have lt_q0 := cell_lt q0
   have lt_q1 := cell_lt q1
   have lt_q2 := cell_lt q2
   have lt_q3 := cell_lt q3
   have lt_r0 := cell_lt r0
   have lt_r1 := cell_lt r1
   have lt_r2 := cell_lt r2
   have lt_r3 := cell_lt r3
   have lt_s0 := cell_lt s0
   have lt_s1 := cell_lt s1
   have lt_s2 := cell_lt s2
   have lt_s3 := cell_lt s3
   replace z1 := z1.below hv_
   replace z2 := z2.below hv_
   replace z3 := z3.below hv_
   replace f_z1 := z1.fr
   replace f_z2 := z2.fr
   replace f_z3 := z3.fr
   replace HB := HB.trans (hv_.mono HB.size)
   clear hv_
   go_wp2_with fail
   go_region_held3 (fun w' => (w'.cell? ⟨w.heap.size, 0, none⟩ = some (.bool na) ∧ w'.cell? ⟨w.heap.size, 1, none⟩ = some (.slice A ka ca) ∧ w'.cell? ⟨w.heap.size, 2, none⟩ = some (.bool false) ∧ w'.cell? ⟨w.heap.size, 3, none⟩ = some (.slice B la cb)) ∧ (w'.cell? ⟨w.heap.size + 1, 0, none⟩ = some (.bool nc) ∧ w'.cell? ⟨w.heap.size + 1, 1, none⟩ = some (.slice C kb cc) ∧ w'.cell? ⟨w.heap.size + 1, 2, none⟩ = some (.bool false) ∧ w'.cell? ⟨w.heap.size + 1, 3, none⟩ = some (.slice D lb cd))) (first | ((try dsimp only); repeat' (first | with_reducible assumption | apply And.intro | (with_reducible refine keep_alloc ?_) | (with_reducible refine keep_drew ?_) | (with_reducible refine keep_set (by first | omega | (simp only [World.size_alloc, World.size_setCell, World.size_drew]; done) | (simp only [World.size_alloc, World.size_setCell, World.size_drew]; omega)) ?_) | (with_reducible refine keep_cell (W := w1) ?_ ?_) | fail))) (first | (go_at_call 36; (with_reducible refine (HO.out _ (bel_step HB BG)).mono ?_); rintro e y1 ⟨Rn, cn, Qn, dn, rfl, mn, mn2, hq_⟩; have qy1 : Below w1.heap.size w1 y1 := bel_step BG hq_) | (go_at_call 35; (with_reducible refine (HS.out _ (bel_step HB BG) _ _ _ _ (mn.below BG) (mn2.below BG)).mono ?_); rintro e y2 ⟨R1, c1, R2, c2, rfl, m1, m2, hq_⟩; have qy2 : Below w1.heap.size w1 y2 := bel_step BG hq_; have s0 := keep_cell qy2 s0; have s1 := keep_cell qy2 s1; have s2 := keep_cell qy2 s2; have s3 := keep_cell qy2 s3; have z3 := z3.below qy2; have f_z3 := z3.fr))
   replace HB := bel_step HB qy2
   go_wp2
   refine bodyPost_ret (v := .tuple #[.agg #[.bool bq, .slice R1 kq c1, .bool false, .slice R2 lq c2], .int .i64 err]) ?_ rfl ?_
   ·simp [results, Tryz.results13, go_sem, s0, s1, s2, s3]
   ·obtain ⟨j1_, j2_, j3_⟩ := fin_frn m1 m2 HB (by omega) s0 s1 s2 s3 (.bool bq) (.slice R1 kq c1) (.bool false) (.slice R2 lq c2)
    exact GFn.r ⟨R1, c1, R2, c2, rfl, j1_, j2_, j3_⟩ IQ.out
theorem FrDiv_any {na nb nc nd : Bool} {xs ys us vs : List Nat} {A B C D : Option Addr} {ca cb cc cd : Nat} {w : World} (ma : Mg w A ca xs) (mb : Mg w B cb ys) (mc : Mg w C cc us) (md : Mg w D cd vs) :
  Calls Tryz.prog 13 #[.agg #[.bool na, .slice A xs.length ca, .bool nb, .slice B ys.length cb], .agg #[.bool nc, .slice C us.length cc, .bool nd, .slice D vs.length cd]] w (RetFE w (opR divE na xs nb ys nc us nd vs)) := (FrDiv_n ma mb mc md).mono fun _ _ h => h.any
end Go.Proofs.YtfdmlfpldgobjaaGreatDoor
