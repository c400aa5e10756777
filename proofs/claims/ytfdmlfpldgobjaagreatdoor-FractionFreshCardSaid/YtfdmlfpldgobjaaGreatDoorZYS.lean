/- Valid fractions and what the functions answer at them; the examples' numbers. Conditions: none. -/
import Derived.Test.YtfdmlfpldgobjaaGreatDoorZYB
import Derived.Test.YtfdmlfpldgobjaaGreatDoorZYN
import Derived.Test.YtfdmlfpldgobjaaGreatDoorZYI
import Derived.Test.YtfdmlfpldgobjaaGreatDoorZFrP
import Derived.Test.YtfdmlfpldgobjaaGreatDoorZFrQ
import Derived.Test.YtfdmlfpldgobjaaGreatDoorZQ3I
set_option linter.unusedVariables false
set_option linter.unusedSimpArgs false
namespace Go.Proofs.YtfdmlfpldgobjaaGreatDoor
open Go.RowKit Big
/-- in lowest terms, both numbers of at most 512 limbs -/
structure Vf (f : Int × Nat) : Prop where
 nf : Nf f
 f1 : fits f.1
 f2 : fits (f.2 : Nat)
theorem Fz.valid {f : Int × Nat} {b : Bool} {k l : Nat} {xs ys : List Nat} (h : Fz f b k xs l ys) (v : Vf f) : fvB b xs false ys = true := by
 obtain ⟨rfl, rfl, rfl, rfl, rfl⟩ := h
 unfold fvB
 have v1 := validB_z v.f1
 have v2 := validB_z (z := (f.2 : Int)) v.f2
 rw [Int.natAbs_natCast, show decide ((f.2 : Int) < 0) = false by simp] at v2
 have h0 := v.nf.1
 have h1 : limbs f.2 ≠ [] := fun h => by have := limbs_eq_nil.1 h; omega
 rw [v1, v2, val_limbs, val_limbs, decide_eq_true h1, decide_eq_true v.nf.2]
 rfl
theorem Fz.pair {f : Int × Nat} {b : Bool} {k l : Nat} {xs ys : List Nat} (h : Fz f b k xs l ys) : (sg b (val xs), val ys) = f := by
 obtain ⟨rfl, rfl, rfl, rfl, rfl⟩ := h
 rw [val_limbs, val_limbs, sg_self]
theorem opR_f {E : Int × Nat → Int × Nat → (Int × Nat) × Int} {f g : Int × Nat} {b b' : Bool} {k l k' l' : Nat} {xs ys us vs : List Nat} (hf : Fz f b k xs l ys) (hg : Fz g b' k' us l' vs) (vf : Vf f) (vg : Vf g) : opR E b xs false ys b' us false vs = E f g := by
 unfold opR; rw [hf.valid vf, hg.valid vg, hf.pair, hg.pair]; rfl
theorem cmpR_f {f g : Int × Nat} {b b' : Bool} {k l k' l' : Nat} {xs ys us vs : List Nat} (hf : Fz f b k xs l ys) (hg : Fz g b' k' us l' vs) (vf : Vf f) (vg : Vf g) : cmpR b xs false ys b' us false vs = (cmpF f g, 0) := by
 unfold cmpR; rw [hf.valid vf, hg.valid vg, hf.pair, hg.pair]; rfl
theorem intR_f {F : Int × Nat → Int} {f : Int × Nat} {b : Bool} {k l : Nat} {xs ys : List Nat} (hf : Fz f b k xs l ys) (vf : Vf f) : intR F b xs false ys = (F f, 0) := by
 unfold intR; rw [hf.valid vf, hf.pair]; rfl
theorem fmtR_f {f : Int × Nat} {b : Bool} {k l : Nat} {xs ys : List Nat} (hf : Fz f b k xs l ys) (vf : Vf f) : fmtR b xs false ys = fmtF f := by
 unfold fmtR; rw [hf.valid vf, hf.pair]; rfl
theorem Vf.of_low {n : Int} {d : Nat} {p : Int × Nat} (hd : 0 < d) (h : lowE n d = (p, 0)) : Vf p := by
 unfold lowE at h
 split at h
 ·rename_i hf
  rw [Prod.mk.injEq] at h
  rw [← h.1]
  exact ⟨low_nf hd, hf.1, hf.2⟩
 ·simp at h
theorem Vf.of_new {x y : Int} {p : Int × Nat} (h : newE x y = (p, 0)) : Vf p := by
 unfold newE at h
 split at h
 ·simp at h
 ·exact Vf.of_low (by omega) h
theorem fits_w (z : Int) (h : z.natAbs < 4294967296) : fits z := by
 have := (limbs_len_iff z.natAbs 1).2 (by simpa using h)
 unfold fits; omega
theorem new_lit {x y : Int} {n : Int} {d : Nat} (hy : y ≠ 0) (h : low (sg (decide (x < 0) != decide (y < 0)) x.natAbs) y.natAbs = (n, d)) (h1 : n.natAbs < 4294967296) (h2 : d < 4294967296) : newE x y = ((n, d), 0) := by
 unfold newE
 rw [if_neg hy, lowE_yes, h]
 rw [h]
 exact ⟨fits_w _ h1, fits_w _ (by simpa using h2)⟩
theorem low_lit {x : Int} {y : Nat} {n : Int} {d : Nat} (h : low x y = (n, d)) (h1 : n.natAbs < 4294967296) (h2 : d < 4294967296) : lowE x y = ((n, d), 0) := by
 rw [lowE_yes, h]
 rw [h]
 exact ⟨fits_w _ h1, fits_w _ (by simpa using h2)⟩
theorem n_1_6 : newE 1 6 = ((1, 6), 0) := new_lit (by decide) (by decide) (by decide) (by decide)
theorem n_1_3 : newE 1 3 = ((1, 3), 0) := new_lit (by decide) (by decide) (by decide) (by decide)
theorem n_2_3 : newE 2 3 = ((2, 3), 0) := new_lit (by decide) (by decide) (by decide) (by decide)
theorem n_3_4 : newE 3 4 = ((3, 4), 0) := new_lit (by decide) (by decide) (by decide) (by decide)
theorem n_1_2 : newE 1 2 = ((1, 2), 0) := new_lit (by decide) (by decide) (by decide) (by decide)
theorem n_m3_4 : newE (-3) 4 = ((-3, 4), 0) := new_lit (by decide) (by decide) (by decide) (by decide)
theorem n_31_10 : newE 31 10 = ((31, 10), 0) := new_lit (by decide) (by decide) (by decide) (by decide)
theorem n_16_5 : newE 16 5 = ((16, 5), 0) := new_lit (by decide) (by decide) (by decide) (by decide)
theorem n_m2_3 : newE (-2) 3 = ((-2, 3), 0) := new_lit (by decide) (by decide) (by decide) (by decide)
theorem n_6_m4 : newE 6 (-4) = ((-3, 2), 0) := new_lit (by decide) (by decide) (by decide) (by decide)
theorem n_3_2 : newE 3 2 = ((3, 2), 0) := new_lit (by decide) (by decide) (by decide) (by decide)
theorem n_0_1 : newE 0 1 = ((0, 1), 0) := new_lit (by decide) (by decide) (by decide) (by decide)
theorem n_1_1 : newE 1 1 = ((1, 1), 0) := new_lit (by decide) (by decide) (by decide) (by decide)
theorem n_m1_1 : newE (-1) 1 = ((-1, 1), 0) := new_lit (by decide) (by decide) (by decide) (by decide)
theorem n_1_0 : newE 1 0 = ((0, 0), 12) := by unfold newE; rw [if_pos rfl]
theorem a_1_2 : addE (1, 6) (1, 3) = ((1, 2), 0) := low_lit (by decide) (by decide) (by decide)
theorem m_1_2 : mulE (2, 3) (3, 4) = ((1, 2), 0) := low_lit (by decide) (by decide) (by decide)
theorem d_m2_3 : divE (1, 2) (-3, 4) = ((-2, 3), 0) := by
 unfold divE
 rw [if_neg (by decide)]
 exact low_lit (by decide) (by decide) (by decide)
theorem s_16_5 : simE (31, 10) (16, 5) = ((16, 5), 0) := by
 have h : simpl 31 10 16 5 = (16, 5) := by
  rw [simpl_rec (by decide) (by decide) (by decide) (by decide)]
  have h2 : simpl 5 (16 % 5) 10 (31 % 10) = (5, 1) := simpl_int (by decide)
  rw [h2]
  rfl
 unfold simE
 rw [if_neg (by decide), if_neg (by decide), if_neg (by decide)]
 exact Prod.ext (by show (((simpl 31 10 16 5).1 : Int), (simpl 31 10 16 5).2) = ((16 : Int), 5); rw [h]; rfl) rfl
theorem p_1_m2 : parF [49, 47, 45, 50] = ((0, 0), 9) := by decide +kernel
theorem p_6_4 : parF [54, 47, 52] = ((3, 2), 0) := by decide +kernel
theorem c_1_3 : cmpF (1, 3) (1, 2) = -1 := by decide
theorem t_m3_4 : fmtF (-3, 4) = [45, 51, 47, 52] := by decide +kernel
end Go.Proofs.YtfdmlfpldgobjaaGreatDoor
/- The laws on fractions: contracts at valid fractions; the helpers. Conditions: none. -/
namespace Go.Proofs.YtfdmlfpldgobjaaGreatDoor
open Go.RowKit Big
theorem FrAdd_f {f g : Int × Nat} {b b' : Bool} {k l k' l' : Nat} {xs ys us vs : List Nat} {A B C D : Option Addr} {ca cb cc cd : Nat} {w : World} (hf : Fz f b k xs l ys) (hg : Fz g b' k' us l' vs) (vf : Vf f) (vg : Vf g) {p : Int × Nat} {err : Int} (hq : addE f g = (p, err)) {bq : Bool} {kq lq : Nat} {Xq Yq : List Nat} (IQ : Fz p bq kq Xq lq Yq) (ma : Mg w A ca xs) (mb : Mg w B cb ys) (mc : Mg w C cc us) (md : Mg w D cd vs) :
  Calls Tryz.prog 10 #[.agg #[.bool b, .slice A k ca, .bool false, .slice B l cb], .agg #[.bool b', .slice C k' cc, .bool false, .slice D l' cd]] w (GF w bq kq Xq lq Yq err) := by
 have h := FrAdd_any (na := b) (nb := false) (nc := b') (nd := false) ma mb mc md
 rw [opR_f hf hg vf vg, hq, ← hf.hk, ← hf.hl, ← hg.hk, ← hg.hl] at h
 exact h.mono fun e w' h => RetFE.g h IQ
theorem FrSub_f {f g : Int × Nat} {b b' : Bool} {k l k' l' : Nat} {xs ys us vs : List Nat} {A B C D : Option Addr} {ca cb cc cd : Nat} {w : World} (hf : Fz f b k xs l ys) (hg : Fz g b' k' us l' vs) (vf : Vf f) (vg : Vf g) {p : Int × Nat} {err : Int} (hq : subE f g = (p, err)) {bq : Bool} {kq lq : Nat} {Xq Yq : List Nat} (IQ : Fz p bq kq Xq lq Yq) (ma : Mg w A ca xs) (mb : Mg w B cb ys) (mc : Mg w C cc us) (md : Mg w D cd vs) :
  Calls Tryz.prog 11 #[.agg #[.bool b, .slice A k ca, .bool false, .slice B l cb], .agg #[.bool b', .slice C k' cc, .bool false, .slice D l' cd]] w (GF w bq kq Xq lq Yq err) := by
 have h := FrSub_any (na := b) (nb := false) (nc := b') (nd := false) ma mb mc md
 rw [opR_f hf hg vf vg, hq, ← hf.hk, ← hf.hl, ← hg.hk, ← hg.hl] at h
 exact h.mono fun e w' h => RetFE.g h IQ
theorem FrMul_f {f g : Int × Nat} {b b' : Bool} {k l k' l' : Nat} {xs ys us vs : List Nat} {A B C D : Option Addr} {ca cb cc cd : Nat} {w : World} (hf : Fz f b k xs l ys) (hg : Fz g b' k' us l' vs) (vf : Vf f) (vg : Vf g) {p : Int × Nat} {err : Int} (hq : mulE f g = (p, err)) {bq : Bool} {kq lq : Nat} {Xq Yq : List Nat} (IQ : Fz p bq kq Xq lq Yq) (ma : Mg w A ca xs) (mb : Mg w B cb ys) (mc : Mg w C cc us) (md : Mg w D cd vs) :
  Calls Tryz.prog 12 #[.agg #[.bool b, .slice A k ca, .bool false, .slice B l cb], .agg #[.bool b', .slice C k' cc, .bool false, .slice D l' cd]] w (GF w bq kq Xq lq Yq err) := by
 have h := FrMul_any (na := b) (nb := false) (nc := b') (nd := false) ma mb mc md
 rw [opR_f hf hg vf vg, hq, ← hf.hk, ← hf.hl, ← hg.hk, ← hg.hl] at h
 exact h.mono fun e w' h => RetFE.g h IQ
theorem FrDiv_f {f g : Int × Nat} {b b' : Bool} {k l k' l' : Nat} {xs ys us vs : List Nat} {A B C D : Option Addr} {ca cb cc cd : Nat} {w : World} (hf : Fz f b k xs l ys) (hg : Fz g b' k' us l' vs) (vf : Vf f) (vg : Vf g) {p : Int × Nat} {err : Int} (hq : divE f g = (p, err)) {bq : Bool} {kq lq : Nat} {Xq Yq : List Nat} (IQ : Fz p bq kq Xq lq Yq) (ma : Mg w A ca xs) (mb : Mg w B cb ys) (mc : Mg w C cc us) (md : Mg w D cd vs) :
  Calls Tryz.prog 13 #[.agg #[.bool b, .slice A k ca, .bool false, .slice B l cb], .agg #[.bool b', .slice C k' cc, .bool false, .slice D l' cd]] w (GF w bq kq Xq lq Yq err) := by
 have h := FrDiv_any (na := b) (nb := false) (nc := b') (nd := false) ma mb mc md
 rw [opR_f hf hg vf vg, hq, ← hf.hk, ← hf.hl, ← hg.hk, ← hg.hl] at h
 exact h.mono fun e w' h => RetFE.g h IQ
theorem FrSimplest_f {f g : Int × Nat} {b b' : Bool} {k l k' l' : Nat} {xs ys us vs : List Nat} {A B C D : Option Addr} {ca cb cc cd : Nat} {w : World} (hf : Fz f b k xs l ys) (hg : Fz g b' k' us l' vs) (vf : Vf f) (vg : Vf g) {p : Int × Nat} {err : Int} (hq : simE f g = (p, err)) {bq : Bool} {kq lq : Nat} {Xq Yq : List Nat} (IQ : Fz p bq kq Xq lq Yq) (ma : Mg w A ca xs) (mb : Mg w B cb ys) (mc : Mg w C cc us) (md : Mg w D cd vs) :
  Calls Tryz.prog 14 #[.agg #[.bool b, .slice A k ca, .bool false, .slice B l cb], .agg #[.bool b', .slice C k' cc, .bool false, .slice D l' cd]] w (GF w bq kq Xq lq Yq err) := by
 have h := FrSimplest_any (na := b) (nb := false) (nc := b') (nd := false) ma mb mc md
 rw [opR_f hf hg vf vg, hq, ← hf.hk, ← hf.hl, ← hg.hk, ← hg.hl] at h
 exact h.mono fun e w' h => RetFE.g h IQ
theorem FrCmp_f {f g : Int × Nat} {b b' : Bool} {k l k' l' : Nat} {xs ys us vs : List Nat} {A B C D : Option Addr} {ca cb cc cd : Nat} {w : World} (hf : Fz f b k xs l ys) (hg : Fz g b' k' us l' vs) (vf : Vf f) (vg : Vf g) (z : Int) (hz : cmpF f g = z) (ma : Mg w A ca xs) (mb : Mg w B cb ys) (mc : Mg w C cc us) (md : Mg w D cd vs) :
  Calls Tryz.prog 26 #[.agg #[.bool b, .slice A k ca, .bool false, .slice B l cb], .agg #[.bool b', .slice C k' cc, .bool false, .slice D l' cd]] w (RetIE w z 0) := by
 have h := FrCmp_any (na := b) (nb := false) (nc := b') (nd := false) ma mb mc md
 rw [cmpR_f hf hg vf vg, hz, ← hf.hk, ← hf.hl, ← hg.hk, ← hg.hl] at h
 exact h
theorem FrFloor_f {f : Int × Nat} {b : Bool} {k l : Nat} {xs ys : List Nat} {A B : Option Addr} {ca cb : Nat} {w : World} (hf : Fz f b k xs l ys) (vf : Vf f) {z : Int} (hz : flrF f = z) {bz : Bool} {nz : Nat} {Lz_ : List Nat} (I : Iz z bz nz Lz_) (ma : Mg w A ca xs) (mb : Mg w B cb ys) :
  Calls Tryz.prog 15 #[.agg #[.bool b, .slice A k ca, .bool false, .slice B l cb]] w (GZE w bz nz Lz_ 0) := by
 have h := FrFloor_any (na := b) (nb := false) ma mb
 rw [intR_f hf vf, hz, ← hf.hk, ← hf.hl] at h
 exact h.mono fun e w' h => h.g I
theorem FrRound_f {f : Int × Nat} {b : Bool} {k l : Nat} {xs ys : List Nat} {A B : Option Addr} {ca cb : Nat} {w : World} (hf : Fz f b k xs l ys) (vf : Vf f) {z : Int} (hz : rndF f = z) {bz : Bool} {nz : Nat} {Lz_ : List Nat} (I : Iz z bz nz Lz_) (ma : Mg w A ca xs) (mb : Mg w B cb ys) :
  Calls Tryz.prog 16 #[.agg #[.bool b, .slice A k ca, .bool false, .slice B l cb]] w (GZE w bz nz Lz_ 0) := by
 have h := FrRound_any (na := b) (nb := false) ma mb
 rw [intR_f hf vf, hz, ← hf.hk, ← hf.hl] at h
 exact h.mono fun e w' h => h.g I
theorem FrFormat_f {f : Int × Nat} {b : Bool} {k l : Nat} {xs ys : List Nat} {A B : Option Addr} {ca cb : Nat} {w : World} (hf : Fz f b k xs l ys) (vf : Vf f) (ma : Mg w A ca xs) (mb : Mg w B cb ys) (htab : PowTab w) :
  Calls Tryz.prog 27 #[.agg #[.bool b, .slice A k ca, .bool false, .slice B l cb]] w (RetS w (fmtF f)) := by
 have h := FrFormat_any (na := b) (nb := false) ma mb htab
 rw [fmtR_f hf vf, ← hf.hk, ← hf.hl] at h
 exact h
theorem FrValid_f {f : Int × Nat} {b : Bool} {k l : Nat} {xs ys : List Nat} {A B : Option Addr} {ca cb : Nat} {w : World} (hf : Fz f b k xs l ys) (vf : Vf f) (ma : Mg w A ca xs) (mb : Mg w B cb ys) :
  Calls Tryz.prog 28 #[.agg #[.bool b, .slice A k ca, .bool false, .slice B l cb]] w (RetB w true) := by
 have h := FrValid_any (na := b) (nb := false) ma mb
 rw [hf.valid vf, ← hf.hk, ← hf.hl] at h
 exact h
theorem FrParse_f {s : ByteArray} {w : World} (hl : LenAt w) (hs : s.size < 4294967281) {p : Int × Nat} {err : Int} (hq : parF s.data.toList = (p, err)) {bq : Bool} {kq lq : Nat} {Xq Yq : List Nat} (IQ : Fz p bq kq Xq lq Yq) :
  Calls Tryz.prog 25 #[.string s] w (GF w bq kq Xq lq Yq err) := by
 have h := FrParse_any s w hl hs
 rw [hq] at h
 exact h.mono fun e w' h => RetFE.g h IQ
theorem FrOf_f {x y : Int} {w : World} (h1 : -9223372036854775808 ≤ x) (h2 : x ≤ 9223372036854775807) (h3 : -9223372036854775808 ≤ y) (h4 : y ≤ 9223372036854775807) {p : Int × Nat} {err : Int} (hq : newE x y = (p, err)) {bq : Bool} {kq lq : Nat} {Xq Yq : List Nat} (IQ : Fz p bq kq Xq lq Yq) :
  Calls Tryz.prog 24 #[.int .i64 x, .int .i64 y] w (GF w bq kq Xq lq Yq err) := by
 have h := FrOf_any x y w h1 h2 h3 h4
 rw [hq] at h
 exact h.mono fun e w' h => RetFE.g h IQ
theorem QOf_f {x y : Int} {w : World} (h1 : -9223372036854775808 ≤ x) (h2 : x ≤ 9223372036854775807) (h3 : -9223372036854775808 ≤ y) (h4 : y ≤ 9223372036854775807) {p : Int × Nat} {err : Int} (hq : newE x y = (p, err)) {bq : Bool} {kq lq : Nat} {Xq Yq : List Nat} (IQ : Fz p bq kq Xq lq Yq) :
  Calls Tryz.prog 49 #[.int .i64 x, .int .i64 y] w (GF w bq kq Xq lq Yq err) := by
 have h := QOf_any x y w h1 h2 h3 h4
 rw [hq] at h
 exact h.mono fun e w' h => RetFE.g h IQ
set_option maxRecDepth 100000 in
set_option maxHeartbeats 2000000 in
theorem Lof_g {x y : Int} {w : World} (h1 : -9223372036854775808 ≤ x) (h2 : x ≤ 9223372036854775807) (h3 : -9223372036854775808 ≤ y) (h4 : y ≤ 9223372036854775807) {p : Int × Nat} {err : Int} (hq : newE x y = (p, err)) {bq : Bool} {kq lq : Nat} {Xq Yq : List Nat} (IQ : Fz p bq kq Xq lq Yq) :
  Calls Tryz.prog 8 #[.int .i64 x, .int .i64 y] w (GFV w bq kq Xq lq Yq) := by
 have HO := hid fun (w1 : World) => FrOf_f (w := w1) h1 h2 h3 h4 hq IQ
 clear hq IQ h1 h2 h3 h4
 go_enter Tryz.func8, Tryz.ntmps8
 go_wp2_with fail
 refine enterF (P := fun u => Calls _ _ _ u _) ?_
 intro u HB q0 q1 q2 q3 z1 hsz
 clear hsz
 have f_z1 := z1.fr
 have lt_q0 := cell_lt q0
 refine (HO.out _).mono ?_
 rintro e w1 ⟨R1, c1, R2, c2, rfl, m1, m2, h1⟩
 have hv_ : Below u.heap.size u w1 := Below.trans (b := _) (by repeat (first | assumption | exact Bv _ _ | refine Ba ?_ (by simp; try omega) _ | refine Bd ?_ | refine Bn ?_ _)) (h1.mono (by simp; try omega))
 replace q0 := keep_cell hv_ q0
 replace q1 := keep_cell hv_ q1
 replace q2 := keep_cell hv_ q2
 replace q3 := keep_cell hv_ q3
 have lt_q0 := cell_lt q0
 have lt_q1 := cell_lt q1
 have lt_q2 := cell_lt q2
 have lt_q3 := cell_lt q3
 replace z1 := z1.below hv_
 replace f_z1 := z1.fr
 replace HB := HB.trans (hv_.mono HB.size)
 clear hv_
 go_upto_region 2 with fail
 have a0 := at_allocF0 (W := w1) (a := .bool bq) (b := .slice R1 kq c1) (c := .bool false) (d := .slice R2 lq c2) (t := 26) rfl
 have a1 := at_allocF1 (W := w1) (a := .bool bq) (b := .slice R1 kq c1) (c := .bool false) (d := .slice R2 lq c2) (t := 26) rfl
 have a2 := at_allocF2 (W := w1) (a := .bool bq) (b := .slice R1 kq c1) (c := .bool false) (d := .slice R2 lq c2) (t := 26) rfl
 have a3 := at_allocF3 (W := w1) (a := .bool bq) (b := .slice R1 kq c1) (c := .bool false) (d := .slice R2 lq c2) (t := 26) rfl
 have hv_ : Below w1.heap.size w1 (w1.alloc (.cells #[.bool bq, .slice R1 kq c1, .bool false, .slice R2 lq c2] 26)) := (Below.refl _ _).alloc (Nat.le_refl _) _
 generalize w1.alloc (.cells #[.bool bq, .slice R1 kq c1, .bool false, .slice R2 lq c2] 26) = u1 at *
 replace m1 := m1.below hv_
 replace m2 := m2.below hv_
 replace z1 := z1.below hv_
 replace q0 := keep_cell hv_ q0
 replace q1 := keep_cell hv_ q1
 replace q2 := keep_cell hv_ q2
 replace q3 := keep_cell hv_ q3
 replace HB := HB.trans (hv_.mono HB.size)
 clear hv_
 have lt_a := cell_lt a0
 have f_z1 := z1.fr
 go_wp2
 refine bodyPost_ret (v := .agg #[.bool bq, .slice R1 kq c1, .bool false, .slice R2 lq c2]) ?_ rfl ?_
 ·simp [results, Tryz.results8, go_sem, q0, q1, q2, q3]
 ·obtain ⟨j1_, j2_, j3_⟩ := fin_fr m1 m2 HB (by omega) q0 q1 q2 q3 (.bool bq) (.slice R1 kq c1) (.bool false) (.slice R2 lq c2)
  exact ⟨R1, c1, R2, c2, rfl, j1_, j2_, j3_⟩
set_option maxRecDepth 100000 in
set_option maxHeartbeats 2000000 in
theorem Lis_g {x y : Int} {w : World} (h1 : -9223372036854775808 ≤ x) (h2 : x ≤ 9223372036854775807) (h3 : -9223372036854775808 ≤ y) (h4 : y ≤ 9223372036854775807) {p : Int × Nat} (hq : newE x y = (p, 0)) {b : Bool} {k l : Nat} {xs ys : List Nat} (I : Fz p b k xs l ys) {A B : Option Addr} {ca cb : Nat} (ma : Mg w A ca xs) (mb : Mg w B cb ys) :
  Calls Tryz.prog 23 #[.agg #[.bool b, .slice A k ca, .bool false, .slice B l cb], .int .i64 0, .int .i64 x, .int .i64 y] w (RetB w true) := by
 have HO := hid fun (w1 : World) => QOf_f (w := w1) h1 h2 h3 h4 hq I
 have HS := hid fun (w1 : World) (h : Below w.heap.size w w1) (R Q : Option Addr) (c d : Nat) (m1 : Mg w1 R c xs) (m2 : Mg w1 Q d ys) => QSame_g (w := w1) I I (ma.below h) (mb.below h) m1 m2 true (by simp)
 clear hq I h1 h2 h3 h4 ma mb
 go_enter Tryz.func23, Tryz.ntmps23
 go_wp2_with fail
 refine enterF (P := fun u => Calls _ _ _ u _) ?_
 intro u HB q0 q1 q2 q3 z1 hsz
 clear hsz
 have f_z1 := z1.fr
 have lt_q0 := cell_lt q0
 refine (HO.out _).mono ?_
 rintro e w1 ⟨R1, c1, R2, c2, rfl, m1, m2, h1⟩
 have hv_ : Below u.heap.size u w1 := Below.trans (b := _) (by repeat (first | assumption | exact Bv _ _ | refine Ba ?_ (by simp; try omega) _ | refine Bd ?_ | refine Bn ?_ _)) (h1.mono (by simp; try omega))
 replace q0 := keep_cell hv_ q0
 replace q1 := keep_cell hv_ q1
 replace q2 := keep_cell hv_ q2
 replace q3 := keep_cell hv_ q3
 have lt_q0 := cell_lt q0
 have lt_q1 := cell_lt q1
 have lt_q2 := cell_lt q2
 have lt_q3 := cell_lt q3
 replace z1 := z1.below hv_
 replace f_z1 := z1.fr
 replace HB := HB.trans (hv_.mono HB.size)
 clear hv_
 go_wp2_with fail
 have a0 := at_allocF0 (W := w1) (a := .bool b) (b := .slice R1 k c1) (c := .bool false) (d := .slice R2 l c2) (t := 26) rfl
 have a1 := at_allocF1 (W := w1) (a := .bool b) (b := .slice R1 k c1) (c := .bool false) (d := .slice R2 l c2) (t := 26) rfl
 have a2 := at_allocF2 (W := w1) (a := .bool b) (b := .slice R1 k c1) (c := .bool false) (d := .slice R2 l c2) (t := 26) rfl
 have a3 := at_allocF3 (W := w1) (a := .bool b) (b := .slice R1 k c1) (c := .bool false) (d := .slice R2 l c2) (t := 26) rfl
 have hv_ : Below w1.heap.size w1 (w1.alloc (.cells #[.bool b, .slice R1 k c1, .bool false, .slice R2 l c2] 26)) := (Below.refl _ _).alloc (Nat.le_refl _) _
 generalize w1.alloc (.cells #[.bool b, .slice R1 k c1, .bool false, .slice R2 l c2] 26) = u1 at *
 replace m1 := m1.below hv_
 replace m2 := m2.below hv_
 replace z1 := z1.below hv_
 replace q0 := keep_cell hv_ q0
 replace q1 := keep_cell hv_ q1
 replace q2 := keep_cell hv_ q2
 replace q3 := keep_cell hv_ q3
 replace HB := HB.trans (hv_.mono HB.size)
 clear hv_
 have lt_a := cell_lt a0
 refine (HS.out _ HB _ _ _ _ m1 m2).mono ?_
 rintro e w2 ⟨rfl, h2⟩
 go_wp2
 go_ret
 exact ⟨rfl, bel_step HB h2⟩
set_option maxRecDepth 100000 in
theorem Lshort_g {b : Bool} {A : Option Addr} {n c N : Nat} {w : World} (t : Bool) (h : decide (n ≤ N) = t) :
  Calls Tryz.prog 19 #[.agg #[.bool b, .slice A n c], .int .i64 N] w (RetB w t) := by
 have HT := hid h
 clear h
 go_enter Tryz.func19, Tryz.ntmps19
 go_wp2
 go_ret
 exact ⟨by rw [← HT.out]; rfl, by first | exact (Below.refl _ _).alloc (Nat.le_refl _) _ | (repeat' first | exact Below.refl _ _ | (refine Below.alloc ?_ (by first | omega | (simp only [World.size_alloc, World.size_setCell, World.size_drew]; done) | (simp only [World.size_alloc, World.size_setCell, World.size_drew]; omega)) _) | (refine Below.drew ?_))⟩
set_option maxRecDepth 100000 in
theorem Ltiny_g {na nb : Bool} {A B : Option Addr} {k l ca cb : Nat} {w : World} (t : Bool) (h : (decide (k ≤ 3) && decide (l ≤ 3)) = t) :
  Calls Tryz.prog 4 #[.agg #[.bool na, .slice A k ca, .bool nb, .slice B l cb]] w (RetB w t) := by
 by_cases h1 : k ≤ 3
 ·have H1 := hid fun (w1 : World) => Lshort_g (b := na) (A := A) (n := k) (c := ca) (N := 3) (w := w1) true (by simpa using h1)
  by_cases h2 : l ≤ 3
  ·have H2 := hid fun (w1 : World) => Lshort_g (b := nb) (A := B) (n := l) (c := cb) (N := 3) (w := w1) true (by simpa using h2)
   rw [decide_eq_true h1, decide_eq_true h2] at h
   obtain rfl : true = t := h
   clear h1 h2
   go_enter Tryz.func4, Tryz.ntmps4
   go_wp2_with fail
   refine enterF (P := fun u => Calls _ _ _ u _) ?_
   intro u HB q0 q1 q2 q3 z1 hsz
   clear hsz
   have f_z1 := z1.fr
   have lt_q0 := cell_lt q0
   refine (H1.out _).mono ?_
   rintro e w1 ⟨rfl, h1⟩
   have hv_ : Below u.heap.size u w1 := Below.trans (b := _) (by repeat (first | assumption | exact Bv _ _ | refine Ba ?_ (by simp; try omega) _ | refine Bd ?_ | refine Bn ?_ _)) (h1.mono (by simp; try omega))
   replace q0 := keep_cell hv_ q0
   replace q1 := keep_cell hv_ q1
   replace q2 := keep_cell hv_ q2
   replace q3 := keep_cell hv_ q3
   have lt_q0 := cell_lt q0
   have lt_q1 := cell_lt q1
   have lt_q2 := cell_lt q2
   have lt_q3 := cell_lt q3
   replace z1 := z1.below hv_
   replace f_z1 := z1.fr
   replace HB := HB.trans (hv_.mono HB.size)
   clear hv_
   go_wp2_with fail
   refine (H2.out _).mono ?_
   rintro e w2 ⟨rfl, h2⟩
   go_wp2
   go_ret
   exact ⟨rfl, bel_step HB h2⟩
  ·have H2 := hid fun (w1 : World) => Lshort_g (b := nb) (A := B) (n := l) (c := cb) (N := 3) (w := w1) false (by simpa using h2)
   rw [decide_eq_true h1, decide_eq_false h2] at h
   obtain rfl : false = t := h
   clear h1 h2
   go_enter Tryz.func4, Tryz.ntmps4
   go_wp2_with fail
   refine enterF (P := fun u => Calls _ _ _ u _) ?_
   intro u HB q0 q1 q2 q3 z1 hsz
   clear hsz
   have f_z1 := z1.fr
   have lt_q0 := cell_lt q0
   refine (H1.out _).mono ?_
   rintro e w1 ⟨rfl, h1⟩
   have hv_ : Below u.heap.size u w1 := Below.trans (b := _) (by repeat (first | assumption | exact Bv _ _ | refine Ba ?_ (by simp; try omega) _ | refine Bd ?_ | refine Bn ?_ _)) (h1.mono (by simp; try omega))
   replace q0 := keep_cell hv_ q0
   replace q1 := keep_cell hv_ q1
   replace q2 := keep_cell hv_ q2
   replace q3 := keep_cell hv_ q3
   have lt_q0 := cell_lt q0
   have lt_q1 := cell_lt q1
   have lt_q2 := cell_lt q2
   have lt_q3 := cell_lt q3
   replace z1 := z1.below hv_
   replace f_z1 := z1.fr
   replace HB := HB.trans (hv_.mono HB.size)
   clear hv_
   go_wp2_with fail
   refine (H2.out _).mono ?_
   rintro e w2 ⟨rfl, h2⟩
   go_wp2
   go_ret
   exact ⟨rfl, bel_step HB h2⟩
 ·have H1 := hid fun (w1 : World) => Lshort_g (b := na) (A := A) (n := k) (c := ca) (N := 3) (w := w1) false (by simpa using h1)
  rw [decide_eq_false h1] at h
  obtain rfl : false = t := by simpa using h
  clear h h1
  go_enter Tryz.func4, Tryz.ntmps4
  go_wp2_with fail
  refine enterF (P := fun u => Calls _ _ _ u _) ?_
  intro u HB q0 q1 q2 q3 z1 hsz
  clear hsz
  have f_z1 := z1.fr
  have lt_q0 := cell_lt q0
  refine (H1.out _).mono ?_
  rintro e w1 ⟨rfl, h1⟩
  have hv_ : Below u.heap.size u w1 := Below.trans (b := _) (by repeat (first | assumption | exact Bv _ _ | refine Ba ?_ (by simp; try omega) _ | refine Bd ?_ | refine Bn ?_ _)) (h1.mono (by simp; try omega))
  replace q0 := keep_cell hv_ q0
  replace q1 := keep_cell hv_ q1
  replace q2 := keep_cell hv_ q2
  replace q3 := keep_cell hv_ q3
  have lt_q0 := cell_lt q0
  have lt_q1 := cell_lt q1
  have lt_q2 := cell_lt q2
  have lt_q3 := cell_lt q3
  replace z1 := z1.below hv_
  replace f_z1 := z1.fr
  replace HB := HB.trans (hv_.mono HB.size)
  clear hv_
  go_wp2
  go_ret
  exact ⟨rfl, HB⟩
end Go.Proofs.YtfdmlfpldgobjaaGreatDoor
/- The laws on fractions: the chapter's examples hold. Conditions: none. -/
namespace Go.Proofs.YtfdmlfpldgobjaaGreatDoor
open Go.RowKit Big
set_option maxRecDepth 100000 in
set_option maxHeartbeats 8000000 in
theorem Lex_ok (w : World) (htab : PowTab w) (hlen : LenAt w) : Calls Tryz.prog 6 #[] w (RetB w true) := by
 obtain ⟨b16, k16, X16, l16, Y16, I16⟩ := fz ((1 : Int), 6)
 obtain ⟨b13, k13, X13, l13, Y13, I13⟩ := fz ((1 : Int), 3)
 obtain ⟨b23, k23, X23, l23, Y23, I23⟩ := fz ((2 : Int), 3)
 obtain ⟨b34, k34, X34, l34, Y34, I34⟩ := fz ((3 : Int), 4)
 obtain ⟨b12, k12, X12, l12, Y12, I12⟩ := fz ((1 : Int), 2)
 obtain ⟨bn34, kn34, Xn34, ln34, Yn34, In34⟩ := fz ((-3 : Int), 4)
 obtain ⟨b3110, k3110, X3110, l3110, Y3110, I3110⟩ := fz ((31 : Int), 10)
 obtain ⟨b165, k165, X165, l165, Y165, I165⟩ := fz ((16 : Int), 5)
 obtain ⟨bn23, kn23, Xn23, ln23, Yn23, In23⟩ := fz ((-2 : Int), 3)
 obtain ⟨b32, k32, X32, l32, Y32, I32⟩ := fz ((3 : Int), 2)
 obtain ⟨bn32, kn32, Xn32, ln32, Yn32, In32⟩ := fz ((-3 : Int), 2)
 obtain ⟨b00, k00, X00, l00, Y00, I00⟩ := fz ((0 : Int), 0)
 have H16 := hid fun (w1 : World) => Lof_g (w := w1) (x := 1) (y := 6) (by omega) (by omega) (by omega) (by omega) n_1_6 I16.out
 have H13 := hid fun (w1 : World) => Lof_g (w := w1) (x := 1) (y := 3) (by omega) (by omega) (by omega) (by omega) n_1_3 I13.out
 have H23 := hid fun (w1 : World) => Lof_g (w := w1) (x := 2) (y := 3) (by omega) (by omega) (by omega) (by omega) n_2_3 I23.out
 have H34 := hid fun (w1 : World) => Lof_g (w := w1) (x := 3) (y := 4) (by omega) (by omega) (by omega) (by omega) n_3_4 I34.out
 have H12 := hid fun (w1 : World) => Lof_g (w := w1) (x := 1) (y := 2) (by omega) (by omega) (by omega) (by omega) n_1_2 I12.out
 have Hn34 := hid fun (w1 : World) => Lof_g (w := w1) (x := (-3)) (y := 4) (by omega) (by omega) (by omega) (by omega) n_m3_4 In34.out
 have H3110 := hid fun (w1 : World) => Lof_g (w := w1) (x := 31) (y := 10) (by omega) (by omega) (by omega) (by omega) n_31_10 I3110.out
 have H165 := hid fun (w1 : World) => Lof_g (w := w1) (x := 16) (y := 5) (by omega) (by omega) (by omega) (by omega) n_16_5 I165.out
 have Hn32 := hid fun (w1 : World) => Lof_g (w := w1) (x := 6) (y := (-4)) (by omega) (by omega) (by omega) (by omega) n_6_m4 In32.out
 have HI12 := hid fun (w1 : World) (R Q : Option Addr) (c d : Nat) (m1 : Mg w1 R c X12) (m2 : Mg w1 Q d Y12) => Lis_g (w := w1) (x := 1) (y := 2) (by omega) (by omega) (by omega) (by omega) n_1_2 I12.out m1 m2
 have HIn23 := hid fun (w1 : World) (R Q : Option Addr) (c d : Nat) (m1 : Mg w1 R c Xn23) (m2 : Mg w1 Q d Yn23) => Lis_g (w := w1) (x := (-2)) (y := 3) (by omega) (by omega) (by omega) (by omega) n_m2_3 In23.out m1 m2
 have HI165 := hid fun (w1 : World) (R Q : Option Addr) (c d : Nat) (m1 : Mg w1 R c X165) (m2 : Mg w1 Q d Y165) => Lis_g (w := w1) (x := 16) (y := 5) (by omega) (by omega) (by omega) (by omega) n_16_5 I165.out m1 m2
 have HI32 := hid fun (w1 : World) (R Q : Option Addr) (c d : Nat) (m1 : Mg w1 R c X32) (m2 : Mg w1 Q d Y32) => Lis_g (w := w1) (x := 3) (y := 2) (by omega) (by omega) (by omega) (by omega) n_3_2 I32.out m1 m2
 have HB16_13 := hid fun (w1 : World) (R Q R' Q' : Option Addr) (c d c' d' : Nat) (m1 : Mg w1 R c X16) (m2 : Mg w1 Q d Y16) (m3 : Mg w1 R' c' X13) (m4 : Mg w1 Q' d' Y13) => FrAdd_f (w := w1) I16.out I13.out (Vf.of_new n_1_6) (Vf.of_new n_1_3) a_1_2 I12.out m1 m2 m3 m4
 have HB23_34 := hid fun (w1 : World) (R Q R' Q' : Option Addr) (c d c' d' : Nat) (m1 : Mg w1 R c X23) (m2 : Mg w1 Q d Y23) (m3 : Mg w1 R' c' X34) (m4 : Mg w1 Q' d' Y34) => FrMul_f (w := w1) I23.out I34.out (Vf.of_new n_2_3) (Vf.of_new n_3_4) m_1_2 I12.out m1 m2 m3 m4
 have HB12_n34 := hid fun (w1 : World) (R Q R' Q' : Option Addr) (c d c' d' : Nat) (m1 : Mg w1 R c X12) (m2 : Mg w1 Q d Y12) (m3 : Mg w1 R' c' Xn34) (m4 : Mg w1 Q' d' Yn34) => FrDiv_f (w := w1) I12.out In34.out (Vf.of_new n_1_2) (Vf.of_new n_m3_4) d_m2_3 In23.out m1 m2 m3 m4
 have HB3110_165 := hid fun (w1 : World) (R Q R' Q' : Option Addr) (c d c' d' : Nat) (m1 : Mg w1 R c X3110) (m2 : Mg w1 Q d Y3110) (m3 : Mg w1 R' c' X165) (m4 : Mg w1 Q' d' Y165) => FrSimplest_f (w := w1) I3110.out I165.out (Vf.of_new n_31_10) (Vf.of_new n_16_5) s_16_5 I165.out m1 m2 m3 m4
 have HC := hid fun (w1 : World) (R Q R' Q' : Option Addr) (c d c' d' : Nat) (m1 : Mg w1 R c X13) (m2 : Mg w1 Q d Y13) (m3 : Mg w1 R' c' X12) (m4 : Mg w1 Q' d' Y12) => FrCmp_f (w := w1) I13.out I12.out (Vf.of_new n_1_3) (Vf.of_new n_1_2) (-1) c_1_3 m1 m2 m3 m4
 have HZ0 := hid fun (w1 : World) => FrOf_f (w := w1) (x := 1) (y := 0) (by omega) (by omega) (by omega) (by omega) n_1_0 I00.out
 have HP1 := hid fun (w1 : World) (h : Below w.heap.size w w1) => FrParse_f (w := w1) (s := ⟨#[49, 47, 45, 50]⟩) (hlen.below h) (by decide) p_1_m2 I00.out
 have HP2 := hid fun (w1 : World) (h : Below w.heap.size w w1) => FrParse_f (w := w1) (s := ⟨#[54, 47, 52]⟩) (hlen.below h) (by decide) p_6_4 I32.out
 have HF := hid fun (w1 : World) (h : Below w.heap.size w w1) (R Q : Option Addr) (c d : Nat) (m1 : Mg w1 R c Xn34) (m2 : Mg w1 Q d Yn34) => (show Calls Tryz.prog 27 #[.agg #[.bool bn34, .slice R kn34 c, .bool false, .slice Q ln34 d]] w1 (fun e w' => e = .returned (.string ⟨#[45, 51, 47, 52]⟩) ∧ Below w1.heap.size w1 w') by
  have h := FrFormat_f (w := w1) In34.out (Vf.of_new n_m3_4) m1 m2 (htab.below h)
  rw [t_m3_4] at h
  exact h)
 have HV := hid fun (w1 : World) (R Q : Option Addr) (c d : Nat) (m1 : Mg w1 R c Xn32) (m2 : Mg w1 Q d Yn32) => FrValid_f (w := w1) In32.out (Vf.of_new n_6_m4) m1 m2
 have hst : (((⟨#[45, 51, 47, 52]⟩ : ByteArray).toList == [45, 51, 47, 52]) : Bool) = true := by decide +kernel
 have HB : Below w.heap.size w w := Below.refl _ _
 clear I16 I13 I23 I34 I12 In34 I3110 I165 In23 I32 In32 I00
 go_enter Tryz.func6, Tryz.ntmps6
 go_wp2_with fail
 refine (H16.out _).mono ?_
 rintro e w1a ⟨R11, c11, Q11, d11, rfl, m1, m2, h11⟩
 have hv_ : Below w.heap.size w w1a := Below.trans (b := _) (by repeat (first | assumption | exact Bv _ _ | refine Ba ?_ (by simp; try omega) _ | refine Bd ?_ | refine Bn ?_ _)) (h11.mono (by simp; try omega))
 replace HB := HB.trans (hv_.mono HB.size)
 clear hv_
 go_wp2_with fail
 refine (H13.out _).mono ?_
 rintro e w1b ⟨R12, c12, Q12, d12, rfl, m3, m4, h12⟩
 have hv_ : Below w1a.heap.size w1a w1b := Below.trans (b := _) (by repeat (first | assumption | exact Bv _ _ | refine Ba ?_ (by simp; try omega) _ | refine Bd ?_ | refine Bn ?_ _)) (h12.mono (by simp; try omega))
 replace m1 := m1.below hv_
 replace m2 := m2.below hv_
 replace HB := HB.trans (hv_.mono HB.size)
 clear hv_
 go_wp2_with fail
 refine (HB16_13.out _ _ _ _ _ _ _ _ _ m1 m2 m3 m4).mono ?_
 rintro e w1c ⟨R13, c13, Q13, d13, rfl, am, an, h13⟩
 have hv_ : Below w1b.heap.size w1b w1c := Below.trans (b := _) (by repeat (first | assumption | exact Bv _ _ | refine Ba ?_ (by simp; try omega) _ | refine Bd ?_ | refine Bn ?_ _)) (h13.mono (by simp; try omega))
 replace HB := HB.trans (hv_.mono HB.size)
 clear hv_
 go_upto_region 2 with fail
 have a0 := at_allocF0 (W := w1c) (a := .bool b12) (b := .slice R13 k12 c13) (c := .bool false) (d := .slice Q13 l12 d13) (t := 26) rfl
 have a1 := at_allocF1 (W := w1c) (a := .bool b12) (b := .slice R13 k12 c13) (c := .bool false) (d := .slice Q13 l12 d13) (t := 26) rfl
 have a2 := at_allocF2 (W := w1c) (a := .bool b12) (b := .slice R13 k12 c13) (c := .bool false) (d := .slice Q13 l12 d13) (t := 26) rfl
 have a3 := at_allocF3 (W := w1c) (a := .bool b12) (b := .slice R13 k12 c13) (c := .bool false) (d := .slice Q13 l12 d13) (t := 26) rfl
 have hv_ : Below w1c.heap.size w1c (w1c.alloc (.cells #[.bool b12, .slice R13 k12 c13, .bool false, .slice Q13 l12 d13] 26)) := (Below.refl _ _).alloc (Nat.le_refl _) _
 generalize w1c.alloc (.cells #[.bool b12, .slice R13 k12 c13, .bool false, .slice Q13 l12 d13] 26) = u1 at *
 replace am := am.below hv_
 replace an := an.below hv_
 replace HB := HB.trans (hv_.mono HB.size)
 clear hv_
 have lt_a0 := cell_lt a0
 go_wp2_with fail
 refine (H23.out _).mono ?_
 rintro e w2a ⟨R21, c21, Q21, d21, rfl, m1, m2, h21⟩
 have hv_ : Below u1.heap.size u1 w2a := Below.trans (b := _) (by repeat (first | assumption | exact Bv _ _ | refine Ba ?_ (by simp; try omega) _ | refine Bd ?_ | refine Bn ?_ _)) (h21.mono (by simp; try omega))
 replace am := am.below hv_
 replace an := an.below hv_
 replace a0 := keep_cell hv_ a0
 replace a1 := keep_cell hv_ a1
 replace a2 := keep_cell hv_ a2
 replace a3 := keep_cell hv_ a3
 have lt_a0 := cell_lt a0
 have lt_a1 := cell_lt a1
 have lt_a2 := cell_lt a2
 have lt_a3 := cell_lt a3
 replace HB := HB.trans (hv_.mono HB.size)
 clear hv_
 go_wp2_with fail
 refine (H34.out _).mono ?_
 rintro e w2b ⟨R22, c22, Q22, d22, rfl, m3, m4, h22⟩
 have hv_ : Below w2a.heap.size w2a w2b := Below.trans (b := _) (by repeat (first | assumption | exact Bv _ _ | refine Ba ?_ (by simp; try omega) _ | refine Bd ?_ | refine Bn ?_ _)) (h22.mono (by simp; try omega))
 replace m1 := m1.below hv_
 replace m2 := m2.below hv_
 replace am := am.below hv_
 replace an := an.below hv_
 replace a0 := keep_cell hv_ a0
 replace a1 := keep_cell hv_ a1
 replace a2 := keep_cell hv_ a2
 replace a3 := keep_cell hv_ a3
 have lt_a0 := cell_lt a0
 have lt_a1 := cell_lt a1
 have lt_a2 := cell_lt a2
 have lt_a3 := cell_lt a3
 replace HB := HB.trans (hv_.mono HB.size)
 clear hv_
 go_wp2_with fail
 refine (HB23_34.out _ _ _ _ _ _ _ _ _ m1 m2 m3 m4).mono ?_
 rintro e w2c ⟨R23, c23, Q23, d23, rfl, bm, bn, h23⟩
 have hv_ : Below w2b.heap.size w2b w2c := Below.trans (b := _) (by repeat (first | assumption | exact Bv _ _ | refine Ba ?_ (by simp; try omega) _ | refine Bd ?_ | refine Bn ?_ _)) (h23.mono (by simp; try omega))
 replace am := am.below hv_
 replace an := an.below hv_
 replace a0 := keep_cell hv_ a0
 replace a1 := keep_cell hv_ a1
 replace a2 := keep_cell hv_ a2
 replace a3 := keep_cell hv_ a3
 have lt_a0 := cell_lt a0
 have lt_a1 := cell_lt a1
 have lt_a2 := cell_lt a2
 have lt_a3 := cell_lt a3
 replace HB := HB.trans (hv_.mono HB.size)
 clear hv_
 go_upto_region 3 with fail
 have b0 := at_allocF0 (W := w2c) (a := .bool b12) (b := .slice R23 k12 c23) (c := .bool false) (d := .slice Q23 l12 d23) (t := 26) rfl
 have b1 := at_allocF1 (W := w2c) (a := .bool b12) (b := .slice R23 k12 c23) (c := .bool false) (d := .slice Q23 l12 d23) (t := 26) rfl
 have b2 := at_allocF2 (W := w2c) (a := .bool b12) (b := .slice R23 k12 c23) (c := .bool false) (d := .slice Q23 l12 d23) (t := 26) rfl
 have b3 := at_allocF3 (W := w2c) (a := .bool b12) (b := .slice R23 k12 c23) (c := .bool false) (d := .slice Q23 l12 d23) (t := 26) rfl
 have hv_ : Below w2c.heap.size w2c (w2c.alloc (.cells #[.bool b12, .slice R23 k12 c23, .bool false, .slice Q23 l12 d23] 26)) := (Below.refl _ _).alloc (Nat.le_refl _) _
 generalize w2c.alloc (.cells #[.bool b12, .slice R23 k12 c23, .bool false, .slice Q23 l12 d23] 26) = u2 at *
 replace bm := bm.below hv_
 replace bn := bn.below hv_
 replace am := am.below hv_
 replace an := an.below hv_
 replace a0 := keep_cell hv_ a0
 replace a1 := keep_cell hv_ a1
 replace a2 := keep_cell hv_ a2
 replace a3 := keep_cell hv_ a3
 replace HB := HB.trans (hv_.mono HB.size)
 clear hv_
 have lt_b0 := cell_lt b0
 go_wp2_with fail
 refine (H12.out _).mono ?_
 rintro e w3a ⟨R31, c31, Q31, d31, rfl, m1, m2, h31⟩
 have hv_ : Below u2.heap.size u2 w3a := Below.trans (b := _) (by repeat (first | assumption | exact Bv _ _ | refine Ba ?_ (by simp; try omega) _ | refine Bd ?_ | refine Bn ?_ _)) (h31.mono (by simp; try omega))
 replace am := am.below hv_
 replace an := an.below hv_
 replace bm := bm.below hv_
 replace bn := bn.below hv_
 replace a0 := keep_cell hv_ a0
 replace a1 := keep_cell hv_ a1
 replace a2 := keep_cell hv_ a2
 replace a3 := keep_cell hv_ a3
 replace b0 := keep_cell hv_ b0
 replace b1 := keep_cell hv_ b1
 replace b2 := keep_cell hv_ b2
 replace b3 := keep_cell hv_ b3
 have lt_a0 := cell_lt a0
 have lt_a1 := cell_lt a1
 have lt_a2 := cell_lt a2
 have lt_a3 := cell_lt a3
 have lt_b0 := cell_lt b0
 have lt_b1 := cell_lt b1
 have lt_b2 := cell_lt b2
 have lt_b3 := cell_lt b3
 replace HB := HB.trans (hv_.mono HB.size)
 clear hv_
 go_wp2_with fail
 refine (Hn34.out _).mono ?_
 rintro e w3b ⟨R32, c32, Q32, d32, rfl, m3, m4, h32⟩
 have hv_ : Below w3a.heap.size w3a w3b := Below.trans (b := _) (by repeat (first | assumption | exact Bv _ _ | refine Ba ?_ (by simp; try omega) _ | refine Bd ?_ | refine Bn ?_ _)) (h32.mono (by simp; try omega))
 replace m1 := m1.below hv_
 replace m2 := m2.below hv_
 replace am := am.below hv_
 replace an := an.below hv_
 replace bm := bm.below hv_
 replace bn := bn.below hv_
 replace a0 := keep_cell hv_ a0
 replace a1 := keep_cell hv_ a1
 replace a2 := keep_cell hv_ a2
 replace a3 := keep_cell hv_ a3
 replace b0 := keep_cell hv_ b0
 replace b1 := keep_cell hv_ b1
 replace b2 := keep_cell hv_ b2
 replace b3 := keep_cell hv_ b3
 have lt_a0 := cell_lt a0
 have lt_a1 := cell_lt a1
 have lt_a2 := cell_lt a2
 have lt_a3 := cell_lt a3
 have lt_b0 := cell_lt b0
 have lt_b1 := cell_lt b1
 have lt_b2 := cell_lt b2
 have lt_b3 := cell_lt b3
 replace HB := HB.trans (hv_.mono HB.size)
 clear hv_
 go_wp2_with fail
 refine (HB12_n34.out _ _ _ _ _ _ _ _ _ m1 m2 m3 m4).mono ?_
 rintro e w3c ⟨R33, c33, Q33, d33, rfl, gm, gn, h33⟩
 have hv_ : Below w3b.heap.size w3b w3c := Below.trans (b := _) (by repeat (first | assumption | exact Bv _ _ | refine Ba ?_ (by simp; try omega) _ | refine Bd ?_ | refine Bn ?_ _)) (h33.mono (by simp; try omega))
 replace am := am.below hv_
 replace an := an.below hv_
 replace bm := bm.below hv_
 replace bn := bn.below hv_
 replace a0 := keep_cell hv_ a0
 replace a1 := keep_cell hv_ a1
 replace a2 := keep_cell hv_ a2
 replace a3 := keep_cell hv_ a3
 replace b0 := keep_cell hv_ b0
 replace b1 := keep_cell hv_ b1
 replace b2 := keep_cell hv_ b2
 replace b3 := keep_cell hv_ b3
 have lt_a0 := cell_lt a0
 have lt_a1 := cell_lt a1
 have lt_a2 := cell_lt a2
 have lt_a3 := cell_lt a3
 have lt_b0 := cell_lt b0
 have lt_b1 := cell_lt b1
 have lt_b2 := cell_lt b2
 have lt_b3 := cell_lt b3
 replace HB := HB.trans (hv_.mono HB.size)
 clear hv_
 go_upto_region 4 with fail
 have g0 := at_allocF0 (W := w3c) (a := .bool bn23) (b := .slice R33 kn23 c33) (c := .bool false) (d := .slice Q33 ln23 d33) (t := 26) rfl
 have g1 := at_allocF1 (W := w3c) (a := .bool bn23) (b := .slice R33 kn23 c33) (c := .bool false) (d := .slice Q33 ln23 d33) (t := 26) rfl
 have g2 := at_allocF2 (W := w3c) (a := .bool bn23) (b := .slice R33 kn23 c33) (c := .bool false) (d := .slice Q33 ln23 d33) (t := 26) rfl
 have g3 := at_allocF3 (W := w3c) (a := .bool bn23) (b := .slice R33 kn23 c33) (c := .bool false) (d := .slice Q33 ln23 d33) (t := 26) rfl
 have hv_ : Below w3c.heap.size w3c (w3c.alloc (.cells #[.bool bn23, .slice R33 kn23 c33, .bool false, .slice Q33 ln23 d33] 26)) := (Below.refl _ _).alloc (Nat.le_refl _) _
 generalize w3c.alloc (.cells #[.bool bn23, .slice R33 kn23 c33, .bool false, .slice Q33 ln23 d33] 26) = u3 at *
 replace gm := gm.below hv_
 replace gn := gn.below hv_
 replace am := am.below hv_
 replace an := an.below hv_
 replace bm := bm.below hv_
 replace bn := bn.below hv_
 replace a0 := keep_cell hv_ a0
 replace a1 := keep_cell hv_ a1
 replace a2 := keep_cell hv_ a2
 replace a3 := keep_cell hv_ a3
 replace b0 := keep_cell hv_ b0
 replace b1 := keep_cell hv_ b1
 replace b2 := keep_cell hv_ b2
 replace b3 := keep_cell hv_ b3
 replace HB := HB.trans (hv_.mono HB.size)
 clear hv_
 have lt_g0 := cell_lt g0
 go_wp2_with fail
 refine (H3110.out _).mono ?_
 rintro e w4a ⟨R41, c41, Q41, d41, rfl, m1, m2, h41⟩
 have hv_ : Below u3.heap.size u3 w4a := Below.trans (b := _) (by repeat (first | assumption | exact Bv _ _ | refine Ba ?_ (by simp; try omega) _ | refine Bd ?_ | refine Bn ?_ _)) (h41.mono (by simp; try omega))
 replace am := am.below hv_
 replace an := an.below hv_
 replace bm := bm.below hv_
 replace bn := bn.below hv_
 replace gm := gm.below hv_
 replace gn := gn.below hv_
 replace a0 := keep_cell hv_ a0
 replace a1 := keep_cell hv_ a1
 replace a2 := keep_cell hv_ a2
 replace a3 := keep_cell hv_ a3
 replace b0 := keep_cell hv_ b0
 replace b1 := keep_cell hv_ b1
 replace b2 := keep_cell hv_ b2
 replace b3 := keep_cell hv_ b3
 replace g0 := keep_cell hv_ g0
 replace g1 := keep_cell hv_ g1
 replace g2 := keep_cell hv_ g2
 replace g3 := keep_cell hv_ g3
 have lt_a0 := cell_lt a0
 have lt_a1 := cell_lt a1
 have lt_a2 := cell_lt a2
 have lt_a3 := cell_lt a3
 have lt_b0 := cell_lt b0
 have lt_b1 := cell_lt b1
 have lt_b2 := cell_lt b2
 have lt_b3 := cell_lt b3
 have lt_g0 := cell_lt g0
 have lt_g1 := cell_lt g1
 have lt_g2 := cell_lt g2
 have lt_g3 := cell_lt g3
 replace HB := HB.trans (hv_.mono HB.size)
 clear hv_
 go_wp2_with fail
 refine (H165.out _).mono ?_
 rintro e w4b ⟨R42, c42, Q42, d42, rfl, m3, m4, h42⟩
 have hv_ : Below w4a.heap.size w4a w4b := Below.trans (b := _) (by repeat (first | assumption | exact Bv _ _ | refine Ba ?_ (by simp; try omega) _ | refine Bd ?_ | refine Bn ?_ _)) (h42.mono (by simp; try omega))
 replace m1 := m1.below hv_
 replace m2 := m2.below hv_
 replace am := am.below hv_
 replace an := an.below hv_
 replace bm := bm.below hv_
 replace bn := bn.below hv_
 replace gm := gm.below hv_
 replace gn := gn.below hv_
 replace a0 := keep_cell hv_ a0
 replace a1 := keep_cell hv_ a1
 replace a2 := keep_cell hv_ a2
 replace a3 := keep_cell hv_ a3
 replace b0 := keep_cell hv_ b0
 replace b1 := keep_cell hv_ b1
 replace b2 := keep_cell hv_ b2
 replace b3 := keep_cell hv_ b3
 replace g0 := keep_cell hv_ g0
 replace g1 := keep_cell hv_ g1
 replace g2 := keep_cell hv_ g2
 replace g3 := keep_cell hv_ g3
 have lt_a0 := cell_lt a0
 have lt_a1 := cell_lt a1
 have lt_a2 := cell_lt a2
 have lt_a3 := cell_lt a3
 have lt_b0 := cell_lt b0
 have lt_b1 := cell_lt b1
 have lt_b2 := cell_lt b2
 have lt_b3 := cell_lt b3
 have lt_g0 := cell_lt g0
 have lt_g1 := cell_lt g1
 have lt_g2 := cell_lt g2
 have lt_g3 := cell_lt g3
 replace HB := HB.trans (hv_.mono HB.size)
 clear hv_
 go_wp2_with fail
 refine (HB3110_165.out _ _ _ _ _ _ _ _ _ m1 m2 m3 m4).mono ?_
 rintro e w4c ⟨R43, c43, Q43, d43, rfl, om, on, h43⟩
 have hv_ : Below w4b.heap.size w4b w4c := Below.trans (b := _) (by repeat (first | assumption | exact Bv _ _ | refine Ba ?_ (by simp; try omega) _ | refine Bd ?_ | refine Bn ?_ _)) (h43.mono (by simp; try omega))
 replace am := am.below hv_
 replace an := an.below hv_
 replace bm := bm.below hv_
 replace bn := bn.below hv_
 replace gm := gm.below hv_
 replace gn := gn.below hv_
 replace a0 := keep_cell hv_ a0
 replace a1 := keep_cell hv_ a1
 replace a2 := keep_cell hv_ a2
 replace a3 := keep_cell hv_ a3
 replace b0 := keep_cell hv_ b0
 replace b1 := keep_cell hv_ b1
 replace b2 := keep_cell hv_ b2
 replace b3 := keep_cell hv_ b3
 replace g0 := keep_cell hv_ g0
 replace g1 := keep_cell hv_ g1
 replace g2 := keep_cell hv_ g2
 replace g3 := keep_cell hv_ g3
 have lt_a0 := cell_lt a0
 have lt_a1 := cell_lt a1
 have lt_a2 := cell_lt a2
 have lt_a3 := cell_lt a3
 have lt_b0 := cell_lt b0
 have lt_b1 := cell_lt b1
 have lt_b2 := cell_lt b2
 have lt_b3 := cell_lt b3
 have lt_g0 := cell_lt g0
 have lt_g1 := cell_lt g1
 have lt_g2 := cell_lt g2
 have lt_g3 := cell_lt g3
 replace HB := HB.trans (hv_.mono HB.size)
 clear hv_
 go_upto_region 5 with fail
 have o0 := at_allocF0 (W := w4c) (a := .bool b165) (b := .slice R43 k165 c43) (c := .bool false) (d := .slice Q43 l165 d43) (t := 26) rfl
 have o1 := at_allocF1 (W := w4c) (a := .bool b165) (b := .slice R43 k165 c43) (c := .bool false) (d := .slice Q43 l165 d43) (t := 26) rfl
 have o2 := at_allocF2 (W := w4c) (a := .bool b165) (b := .slice R43 k165 c43) (c := .bool false) (d := .slice Q43 l165 d43) (t := 26) rfl
 have o3 := at_allocF3 (W := w4c) (a := .bool b165) (b := .slice R43 k165 c43) (c := .bool false) (d := .slice Q43 l165 d43) (t := 26) rfl
 have hv_ : Below w4c.heap.size w4c (w4c.alloc (.cells #[.bool b165, .slice R43 k165 c43, .bool false, .slice Q43 l165 d43] 26)) := (Below.refl _ _).alloc (Nat.le_refl _) _
 generalize w4c.alloc (.cells #[.bool b165, .slice R43 k165 c43, .bool false, .slice Q43 l165 d43] 26) = u4 at *
 replace om := om.below hv_
 replace on := on.below hv_
 replace am := am.below hv_
 replace an := an.below hv_
 replace bm := bm.below hv_
 replace bn := bn.below hv_
 replace gm := gm.below hv_
 replace gn := gn.below hv_
 replace a0 := keep_cell hv_ a0
 replace a1 := keep_cell hv_ a1
 replace a2 := keep_cell hv_ a2
 replace a3 := keep_cell hv_ a3
 replace b0 := keep_cell hv_ b0
 replace b1 := keep_cell hv_ b1
 replace b2 := keep_cell hv_ b2
 replace b3 := keep_cell hv_ b3
 replace g0 := keep_cell hv_ g0
 replace g1 := keep_cell hv_ g1
 replace g2 := keep_cell hv_ g2
 replace g3 := keep_cell hv_ g3
 replace HB := HB.trans (hv_.mono HB.size)
 clear hv_
 have lt_o0 := cell_lt o0
 have lt_a0 := cell_lt a0
 have lt_b0 := cell_lt b0
 have lt_g0 := cell_lt g0
 go_wp2_with fail
 refine (HI12.out _ _ _ _ _ am an).mono ?_
 rintro e v1 ⟨rfl, hv1⟩
 have hv_ : Below u4.heap.size u4 v1 := Below.trans (b := _) (by repeat (first | assumption | exact Bv _ _ | refine Ba ?_ (by simp; try omega) _ | refine Bd ?_ | refine Bn ?_ _)) (hv1.mono (by simp; try omega))
 replace bm := bm.below hv_
 replace bn := bn.below hv_
 replace gm := gm.below hv_
 replace gn := gn.below hv_
 replace om := om.below hv_
 replace on := on.below hv_
 replace b0 := keep_cell hv_ b0
 replace b1 := keep_cell hv_ b1
 replace b2 := keep_cell hv_ b2
 replace b3 := keep_cell hv_ b3
 replace g0 := keep_cell hv_ g0
 replace g1 := keep_cell hv_ g1
 replace g2 := keep_cell hv_ g2
 replace g3 := keep_cell hv_ g3
 replace o0 := keep_cell hv_ o0
 replace o1 := keep_cell hv_ o1
 replace o2 := keep_cell hv_ o2
 replace o3 := keep_cell hv_ o3
 have lt_b0 := cell_lt b0
 have lt_b1 := cell_lt b1
 have lt_b2 := cell_lt b2
 have lt_b3 := cell_lt b3
 have lt_g0 := cell_lt g0
 have lt_g1 := cell_lt g1
 have lt_g2 := cell_lt g2
 have lt_g3 := cell_lt g3
 have lt_o0 := cell_lt o0
 have lt_o1 := cell_lt o1
 have lt_o2 := cell_lt o2
 have lt_o3 := cell_lt o3
 replace HB := HB.trans (hv_.mono HB.size)
 clear hv_
 go_wp2_with fail
 refine (HI12.out _ _ _ _ _ bm bn).mono ?_
 rintro e v2 ⟨rfl, hv2⟩
 have hv_ : Below v1.heap.size v1 v2 := Below.trans (b := _) (by repeat (first | assumption | exact Bv _ _ | refine Ba ?_ (by simp; try omega) _ | refine Bd ?_ | refine Bn ?_ _)) (hv2.mono (by simp; try omega))
 replace gm := gm.below hv_
 replace gn := gn.below hv_
 replace om := om.below hv_
 replace on := on.below hv_
 replace g0 := keep_cell hv_ g0
 replace g1 := keep_cell hv_ g1
 replace g2 := keep_cell hv_ g2
 replace g3 := keep_cell hv_ g3
 replace o0 := keep_cell hv_ o0
 replace o1 := keep_cell hv_ o1
 replace o2 := keep_cell hv_ o2
 replace o3 := keep_cell hv_ o3
 have lt_g0 := cell_lt g0
 have lt_g1 := cell_lt g1
 have lt_g2 := cell_lt g2
 have lt_g3 := cell_lt g3
 have lt_o0 := cell_lt o0
 have lt_o1 := cell_lt o1
 have lt_o2 := cell_lt o2
 have lt_o3 := cell_lt o3
 replace HB := HB.trans (hv_.mono HB.size)
 clear hv_
 go_wp2_with fail
 refine (HIn23.out _ _ _ _ _ gm gn).mono ?_
 rintro e v3 ⟨rfl, hv3⟩
 have hv_ : Below v2.heap.size v2 v3 := Below.trans (b := _) (by repeat (first | assumption | exact Bv _ _ | refine Ba ?_ (by simp; try omega) _ | refine Bd ?_ | refine Bn ?_ _)) (hv3.mono (by simp; try omega))
 replace om := om.below hv_
 replace on := on.below hv_
 replace o0 := keep_cell hv_ o0
 replace o1 := keep_cell hv_ o1
 replace o2 := keep_cell hv_ o2
 replace o3 := keep_cell hv_ o3
 have lt_o0 := cell_lt o0
 have lt_o1 := cell_lt o1
 have lt_o2 := cell_lt o2
 have lt_o3 := cell_lt o3
 replace HB := HB.trans (hv_.mono HB.size)
 clear hv_
 go_wp2_with fail
 refine (HI165.out _ _ _ _ _ om on).mono ?_
 rintro e v4 ⟨rfl, hv4⟩
 have hv_ : Below v3.heap.size v3 v4 := Below.trans (b := _) (by repeat (first | assumption | exact Bv _ _ | refine Ba ?_ (by simp; try omega) _ | refine Bd ?_ | refine Bn ?_ _)) (hv4.mono (by simp; try omega))
 replace HB := HB.trans (hv_.mono HB.size)
 clear hv_
 go_wp2_with fail
 refine (HZ0.out _).mono ?_
 rintro e v5 ⟨R5, c5, Q5, d5, rfl, m5, m5b, hv5⟩
 have hv_ : Below v4.heap.size v4 v5 := Below.trans (b := _) (by repeat (first | assumption | exact Bv _ _ | refine Ba ?_ (by simp; try omega) _ | refine Bd ?_ | refine Bn ?_ _)) (hv5.mono (by simp; try omega))
 replace HB := HB.trans (hv_.mono HB.size)
 clear hv_
 go_upto_region 8 with fail
 have i0 := at_allocF0 (W := v5) (a := .bool b00) (b := .slice R5 k00 c5) (c := .bool false) (d := .slice Q5 l00 d5) (t := 26) rfl
 have i1 := at_allocF1 (W := v5) (a := .bool b00) (b := .slice R5 k00 c5) (c := .bool false) (d := .slice Q5 l00 d5) (t := 26) rfl
 have i2 := at_allocF2 (W := v5) (a := .bool b00) (b := .slice R5 k00 c5) (c := .bool false) (d := .slice Q5 l00 d5) (t := 26) rfl
 have i3 := at_allocF3 (W := v5) (a := .bool b00) (b := .slice R5 k00 c5) (c := .bool false) (d := .slice Q5 l00 d5) (t := 26) rfl
 have hv_ : Below v5.heap.size v5 (v5.alloc (.cells #[.bool b00, .slice R5 k00 c5, .bool false, .slice Q5 l00 d5] 26)) := (Below.refl _ _).alloc (Nat.le_refl _) _
 generalize v5.alloc (.cells #[.bool b00, .slice R5 k00 c5, .bool false, .slice Q5 l00 d5] 26) = u5 at *
 replace HB := HB.trans (hv_.mono HB.size)
 clear hv_
 go_wp2_with fail
 refine (HP1.out _ HB).mono ?_
 rintro e v6 ⟨R6, c6, Q6, d6, rfl, m6, m6b, hv6⟩
 have hv_ : Below u5.heap.size u5 v6 := Below.trans (b := _) (by repeat (first | assumption | exact Bv _ _ | refine Ba ?_ (by simp; try omega) _ | refine Bd ?_ | refine Bn ?_ _)) (hv6.mono (by simp; try omega))
 replace HB := HB.trans (hv_.mono HB.size)
 clear hv_
 go_upto_region 9 with fail
 have j0 := at_allocF0 (W := v6) (a := .bool b00) (b := .slice R6 k00 c6) (c := .bool false) (d := .slice Q6 l00 d6) (t := 26) rfl
 have j1 := at_allocF1 (W := v6) (a := .bool b00) (b := .slice R6 k00 c6) (c := .bool false) (d := .slice Q6 l00 d6) (t := 26) rfl
 have j2 := at_allocF2 (W := v6) (a := .bool b00) (b := .slice R6 k00 c6) (c := .bool false) (d := .slice Q6 l00 d6) (t := 26) rfl
 have j3 := at_allocF3 (W := v6) (a := .bool b00) (b := .slice R6 k00 c6) (c := .bool false) (d := .slice Q6 l00 d6) (t := 26) rfl
 have hv_ : Below v6.heap.size v6 (v6.alloc (.cells #[.bool b00, .slice R6 k00 c6, .bool false, .slice Q6 l00 d6] 26)) := (Below.refl _ _).alloc (Nat.le_refl _) _
 generalize v6.alloc (.cells #[.bool b00, .slice R6 k00 c6, .bool false, .slice Q6 l00 d6] 26) = u6 at *
 replace HB := HB.trans (hv_.mono HB.size)
 clear hv_
 go_wp2_with fail
 refine (HP2.out _ HB).mono ?_
 rintro e v7 ⟨R7, c7, Q7, d7, rfl, m7, m7b, hv7⟩
 have hv_ : Below u6.heap.size u6 v7 := Below.trans (b := _) (by repeat (first | assumption | exact Bv _ _ | refine Ba ?_ (by simp; try omega) _ | refine Bd ?_ | refine Bn ?_ _)) (hv7.mono (by simp; try omega))
 replace HB := HB.trans (hv_.mono HB.size)
 clear hv_
 go_upto_region 10 with fail
 have k0 := at_allocF0 (W := v7) (a := .bool b32) (b := .slice R7 k32 c7) (c := .bool false) (d := .slice Q7 l32 d7) (t := 26) rfl
 have k1 := at_allocF1 (W := v7) (a := .bool b32) (b := .slice R7 k32 c7) (c := .bool false) (d := .slice Q7 l32 d7) (t := 26) rfl
 have k2 := at_allocF2 (W := v7) (a := .bool b32) (b := .slice R7 k32 c7) (c := .bool false) (d := .slice Q7 l32 d7) (t := 26) rfl
 have k3 := at_allocF3 (W := v7) (a := .bool b32) (b := .slice R7 k32 c7) (c := .bool false) (d := .slice Q7 l32 d7) (t := 26) rfl
 have hv_ : Below v7.heap.size v7 (v7.alloc (.cells #[.bool b32, .slice R7 k32 c7, .bool false, .slice Q7 l32 d7] 26)) := (Below.refl _ _).alloc (Nat.le_refl _) _
 generalize v7.alloc (.cells #[.bool b32, .slice R7 k32 c7, .bool false, .slice Q7 l32 d7] 26) = u7 at *
 replace m7 := m7.below hv_
 replace m7b := m7b.below hv_
 replace HB := HB.trans (hv_.mono HB.size)
 clear hv_
 have lt_k0 := cell_lt k0
 go_wp2_with fail
 refine (H13.out _).mono ?_
 rintro e v8 ⟨R8, c8, Q8, d8, rfl, m8, m8b, hv8⟩
 have hv_ : Below u7.heap.size u7 v8 := Below.trans (b := _) (by repeat (first | assumption | exact Bv _ _ | refine Ba ?_ (by simp; try omega) _ | refine Bd ?_ | refine Bn ?_ _)) (hv8.mono (by simp; try omega))
 replace m7 := m7.below hv_
 replace m7b := m7b.below hv_
 replace k0 := keep_cell hv_ k0
 replace k1 := keep_cell hv_ k1
 replace k2 := keep_cell hv_ k2
 replace k3 := keep_cell hv_ k3
 have lt_k0 := cell_lt k0
 have lt_k1 := cell_lt k1
 have lt_k2 := cell_lt k2
 have lt_k3 := cell_lt k3
 replace HB := HB.trans (hv_.mono HB.size)
 clear hv_
 go_wp2_with fail
 refine (H12.out _).mono ?_
 rintro e v9 ⟨R9, c9, Q9, d9, rfl, m9, m9b, hv9⟩
 have hv_ : Below v8.heap.size v8 v9 := Below.trans (b := _) (by repeat (first | assumption | exact Bv _ _ | refine Ba ?_ (by simp; try omega) _ | refine Bd ?_ | refine Bn ?_ _)) (hv9.mono (by simp; try omega))
 replace m7 := m7.below hv_
 replace m7b := m7b.below hv_
 replace m8 := m8.below hv_
 replace m8b := m8b.below hv_
 replace k0 := keep_cell hv_ k0
 replace k1 := keep_cell hv_ k1
 replace k2 := keep_cell hv_ k2
 replace k3 := keep_cell hv_ k3
 have lt_k0 := cell_lt k0
 have lt_k1 := cell_lt k1
 have lt_k2 := cell_lt k2
 have lt_k3 := cell_lt k3
 replace HB := HB.trans (hv_.mono HB.size)
 clear hv_
 go_wp2_with fail
 refine (HC.out _ _ _ _ _ _ _ _ _ m8 m8b m9 m9b).mono ?_
 rintro e v10 ⟨rfl, hv10⟩
 have hv_ : Below v9.heap.size v9 v10 := Below.trans (b := _) (by repeat (first | assumption | exact Bv _ _ | refine Ba ?_ (by simp; try omega) _ | refine Bd ?_ | refine Bn ?_ _)) (hv10.mono (by simp; try omega))
 replace m7 := m7.below hv_
 replace m7b := m7b.below hv_
 replace k0 := keep_cell hv_ k0
 replace k1 := keep_cell hv_ k1
 replace k2 := keep_cell hv_ k2
 replace k3 := keep_cell hv_ k3
 have lt_k0 := cell_lt k0
 have lt_k1 := cell_lt k1
 have lt_k2 := cell_lt k2
 have lt_k3 := cell_lt k3
 replace HB := HB.trans (hv_.mono HB.size)
 clear hv_
 go_wp2_with fail
 refine (HI32.out _ _ _ _ _ m7 m7b).mono ?_
 rintro e v11 ⟨rfl, hv11⟩
 have hv_ : Below v10.heap.size v10 v11 := Below.trans (b := _) (by repeat (first | assumption | exact Bv _ _ | refine Ba ?_ (by simp; try omega) _ | refine Bd ?_ | refine Bn ?_ _)) (hv11.mono (by simp; try omega))
 replace HB := HB.trans (hv_.mono HB.size)
 clear hv_
 go_wp2_with fail
 refine (Hn34.out _).mono ?_
 rintro e v12 ⟨R12, c12, Q12, d12, rfl, m12, m12b, hv12⟩
 have hv_ : Below v11.heap.size v11 v12 := Below.trans (b := _) (by repeat (first | assumption | exact Bv _ _ | refine Ba ?_ (by simp; try omega) _ | refine Bd ?_ | refine Bn ?_ _)) (hv12.mono (by simp; try omega))
 replace HB := HB.trans (hv_.mono HB.size)
 clear hv_
 go_wp2_with fail
 refine (HF.out _ HB _ _ _ _ m12 m12b).mono ?_
 rintro e v13 ⟨rfl, hv13⟩
 have hv_ : Below v12.heap.size v12 v13 := Below.trans (b := _) (by repeat (first | assumption | exact Bv _ _ | refine Ba ?_ (by simp; try omega) _ | refine Bd ?_ | refine Bn ?_ _)) (hv13.mono (by simp; try omega))
 replace HB := HB.trans (hv_.mono HB.size)
 clear hv_
 go_wp2_with fail
 refine (Hn32.out _).mono ?_
 rintro e v14 ⟨R14, c14, Q14, d14, rfl, m14, m14b, hv14⟩
 have hv_ : Below v13.heap.size v13 v14 := Below.trans (b := _) (by repeat (first | assumption | exact Bv _ _ | refine Ba ?_ (by simp; try omega) _ | refine Bd ?_ | refine Bn ?_ _)) (hv14.mono (by simp; try omega))
 replace HB := HB.trans (hv_.mono HB.size)
 clear hv_
 go_wp2_with fail
 refine (HV.out _ _ _ _ _ m14 m14b).mono ?_
 rintro e v15 ⟨rfl, hv15⟩
 go_wp2
 go_ret
 exact ⟨rfl, bel_step HB hv15⟩
end Go.Proofs.YtfdmlfpldgobjaaGreatDoor
