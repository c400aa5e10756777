/- The law FractionMinimal: the walk of inside. Conditions: none. -/
import Derived.Test.YtfhbigfbeppinaaGreatDoorZYS
import Derived.Test.YtfhbigfbeppinaaGreatDoorZNtV
import Derived.Test.YtfhbigfbeppinaaGreatDoorZLwI
set_option linter.unusedVariables false
set_option linter.unusedSimpArgs false
namespace Go.Proofs.YtfhbigfbeppinaaGreatDoor
open Go.RowKit Big

theorem sz_d {d : Nat} (h : d ≤ 300) : Sz 9 ((d : Int), 1) := ⟨by simp only [Int.natAbs_natCast]; omega, by show (1 : Nat) < 2 ^ 9; decide⟩
set_option maxRecDepth 100000 in
set_option maxHeartbeats 4000000 in
theorem Linside_g {f g : Int × Nat} {b b' : Bool} {k l k' l' : Nat} {xs ys us vs : List Nat} {A B C D : Option Addr} {ca cb cc cd : Nat} {w : World} (hf : Fz f b k xs l ys) (hg : Fz g b' k' us l' vs) (nf : Nf f) (ng : Nf g) (sf : Sz 32 f) (sg_ : Sz 32 g) {d : Nat} (h1 : 0 < d) (h2 : d ≤ 300) (hno : 0 < cmpF (fmul f ((d : Int), 1)) (flrF (fmul g ((d : Int), 1)), 1)) (ma : Mg w A ca xs) (mb : Mg w B cb ys) (mc : Mg w C cc us) (md : Mg w D cd vs) :
    Calls Tryz.prog 43 #[.agg #[.bool b, .slice A k ca, .bool false, .slice B l cb], .agg #[.bool b', .slice C k' cc, .bool false, .slice D l' cd], .int .i64 d] w (RetB w false) := by
  have sd := sz_d h2
  have nd := nf_int (d : Int)
  have vd := sd.vf (by omega) nd
  have sa := fmul_sz sf sd
  have sb := fmul_sz sg_ sd
  have na := fmul_nf nf nd
  have nb := fmul_nf ng nd
  have hfl := flr_abs nb.1 sb
  have st := sz_int hfl (by omega)
  have IF := hid hf
  have IG := hid hg
  obtain ⟨bd_, kd_, Xd_, ld_, Yd_, Id_⟩ := fz ((d : Int), 1)
  obtain ⟨ba_, ka_, Xa_, la_, Ya_, Ia_⟩ := fz (fmul f ((d : Int), 1))
  obtain ⟨bb_, kb_, Xb_, lb_, Yb_, Ib_⟩ := fz (fmul g ((d : Int), 1))
  obtain ⟨bt_, kt_, Xt_, lt_, Yt_, It_⟩ := fz (flrF (fmul g ((d : Int), 1)), 1)
  obtain ⟨bi, ki, Xi, Ii⟩ := iz (flrF (fmul g ((d : Int), 1)))
  have HO := hid fun (w1 : World) => Lof_g (w := w1) (x := d) (y := 1) (by omega) (by omega) (by omega) (by omega) (new_int (k := 9) (by simp only [Int.natAbs_natCast]; omega) (by omega)) Id_.out
  have HH2 := hid fun (w1 : World) (R Q R' Q' : Option Addr) (c d c' d' : Nat) (m1 : Mg w1 R c xs) (m2 : Mg w1 Q d ys) (m3 : Mg w1 R' c' Xd_) (m4 : Mg w1 Q' d' Yd_) => FrMul_f (w := w1) IF.out Id_.out (sf.vf (by omega) nf) vd (mulE_sz sf sd (by omega)) Ia_.out m1 m2 m3 m4
  have HH3 := hid fun (w1 : World) (R Q R' Q' : Option Addr) (c d c' d' : Nat) (m1 : Mg w1 R c us) (m2 : Mg w1 Q d vs) (m3 : Mg w1 R' c' Xd_) (m4 : Mg w1 Q' d' Yd_) => FrMul_f (w := w1) IG.out Id_.out (sg_.vf (by omega) ng) vd (mulE_sz sg_ sd (by omega)) Ib_.out m1 m2 m3 m4
  have HF := hid fun (w1 : World) (R Q : Option Addr) (c d : Nat) (m1 : Mg w1 R c Xb_) (m2 : Mg w1 Q d Yb_) => FrFloor_f (w := w1) Ib_.out (sb.vf (by omega) nb) rfl Ii.out m1 m2
  have HN := hid fun (w1 : World) (R Q : Option Addr) (c d : Nat) (m1 : Mg w1 R c Xi) (m2 : Mg w1 Q d Yd_) => FrNew_z (w1 := w1) Ii.out Id_.out.den (fits_bits hfl (by omega)) (valid_int 1 (by omega) (by omega)) (new_int hfl (by omega)) It_.out m1 m2
  obtain ⟨z, hz⟩ : ∃ z, cmpF (fmul f ((d : Int), 1)) (flrF (fmul g ((d : Int), 1)), 1) = z := ⟨_, rfl⟩
  rw [hz] at hno
  have HH6 := hid fun (w1 : World) (R Q R' Q' : Option Addr) (c d c' d' : Nat) (m1 : Mg w1 R c Xa_) (m2 : Mg w1 Q d Ya_) (m3 : Mg w1 R' c' Xt_) (m4 : Mg w1 Q' d' Yt_) => FrCmp_f (w := w1) Ia_.out It_.out (sa.vf (by omega) na) (st.vf (by omega) (nf_int _)) _ hz m1 m2 m3 m4
  have hnz : ¬ z ≤ 0 := by omega
  have MM := hid fun (w1 : World) (h : Below w.heap.size w w1) => And.intro (And.intro (ma.below h) (mb.below h)) (And.intro (mc.below h) (md.below h))
  clear hf hg nf ng sf sg_ h1 h2 hno ma mb mc md sd nd vd sa sb na nb hfl st IF IG Id_ Ia_ Ib_ It_ Ii hz
  go_enter Tryz.func43, Tryz.ntmps43
  go_wp2_with fail
  refine enterFF (P := fun u => Calls _ _ _ u _) ?_
  intro u HB q0 q1 q2 q3 r0 r1 r2 r3 z1 z2 hsz
  clear hsz
  have f_z1 := z1.fr
  have f_z2 := z2.fr
  have lt_q0 := cell_lt q0
  have lt_r0 := cell_lt r0
  obtain ⟨⟨n1_, n2_⟩, ⟨n3_, n4_⟩⟩ := MM.out _ HB
  have fa : Fb u w.heap.size b A k ca xs B l cb ys := ⟨q0, q1, q2, q3, n1_, n2_⟩
  have fb : Fb u (w.heap.size + 1) b' C k' cc us D l' cd vs := ⟨r0, r1, r2, r3, n3_, n4_⟩
  clear q0 q1 q2 q3 r0 r1 r2 r3 n1_ n2_ n3_ n4_ MM lt_q0 lt_r0 z1 z2 f_z1 f_z2
  refine (HO.out _).mono ?_
  rintro e w3 ⟨R3, c3, Q3, d3, rfl, m_, n_, h_⟩
  have hv_ : Below u.heap.size u w3 := Below.trans (b := _) (by repeat (first | assumption | exact Below.refl _ _ | refine Below.alloc ?_ (by simp; try omega) _ | refine Below.drew ?_ | refine below_drewN ?_ _)) (h_.mono (by simp; try omega))
  replace fa := fa.below hv_
  replace fb := fb.below hv_
  replace HB := HB.trans (hv_.mono HB.size)
  clear hv_
  go_upto_region 2 with fail
  have od : Fb (w3.alloc (.cells #[.bool bd_, .slice R3 kd_ c3, .bool false, .slice Q3 ld_ d3] 26)) w3.heap.size bd_ R3 kd_ c3 Xd_ Q3 ld_ d3 Yd_ := ⟨at_allocF0 rfl, at_allocF1 rfl, at_allocF2 rfl, at_allocF3 rfl, m_.alloc, n_.alloc⟩
  have hv_ : Below w3.heap.size w3 (w3.alloc (.cells #[.bool bd_, .slice R3 kd_ c3, .bool false, .slice Q3 ld_ d3] 26)) := (Below.refl _ _).alloc (Nat.le_refl _) _
  generalize w3.alloc (.cells #[.bool bd_, .slice R3 kd_ c3, .bool false, .slice Q3 ld_ d3] 26) = u3 at *
  replace fa := fa.below hv_
  replace fb := fb.below hv_
  replace HB := HB.trans (hv_.mono HB.size)
  clear hv_ m_ n_
  have e0 := fa.c0
  have e1 := fa.c1
  have e2 := fa.c2
  have e3 := fa.c3
  have f0 := od.c0
  have f1 := od.c1
  have f2 := od.c2
  have f3 := od.c3
  have lt_e0 := cell_lt e0
  have lt_f0 := cell_lt f0
  go_wp2_with fail
  refine (HH2.out _ _ _ _ _ _ _ _ _ fa.m fa.n od.m od.n).mono ?_
  rintro e v4 ⟨R2_, c2_, Q2_, d2_, rfl, m_, n_, h_⟩
  clear e0 e1 e2 e3 f0 f1 f2 f3 lt_e0 lt_f0
  have hv_ : Below u3.heap.size u3 v4 := Below.trans (b := _) (by repeat (first | assumption | exact Below.refl _ _ | refine Below.alloc ?_ (by simp; try omega) _ | refine Below.drew ?_ | refine below_drewN ?_ _)) (h_.mono (by simp; try omega))
  replace fa := fa.below hv_
  replace fb := fb.below hv_
  replace od := od.below hv_
  replace HB := HB.trans (hv_.mono HB.size)
  clear hv_
  go_upto_region 3 with fail
  have oa : Fb (v4.alloc (.cells #[.bool ba_, .slice R2_ ka_ c2_, .bool false, .slice Q2_ la_ d2_] 26)) v4.heap.size ba_ R2_ ka_ c2_ Xa_ Q2_ la_ d2_ Ya_ := ⟨at_allocF0 rfl, at_allocF1 rfl, at_allocF2 rfl, at_allocF3 rfl, m_.alloc, n_.alloc⟩
  have hv_ : Below v4.heap.size v4 (v4.alloc (.cells #[.bool ba_, .slice R2_ ka_ c2_, .bool false, .slice Q2_ la_ d2_] 26)) := (Below.refl _ _).alloc (Nat.le_refl _) _
  generalize v4.alloc (.cells #[.bool ba_, .slice R2_ ka_ c2_, .bool false, .slice Q2_ la_ d2_] 26) = u4 at *
  replace fa := fa.below hv_
  replace fb := fb.below hv_
  replace od := od.below hv_
  replace HB := HB.trans (hv_.mono HB.size)
  clear hv_ m_ n_
  have e0 := fb.c0
  have e1 := fb.c1
  have e2 := fb.c2
  have e3 := fb.c3
  have f0 := od.c0
  have f1 := od.c1
  have f2 := od.c2
  have f3 := od.c3
  have lt_e0 := cell_lt e0
  have lt_f0 := cell_lt f0
  go_wp2_with fail
  refine (HH3.out _ _ _ _ _ _ _ _ _ fb.m fb.n od.m od.n).mono ?_
  rintro e v5 ⟨R3_, c3_, Q3_, d3_, rfl, m_, n_, h_⟩
  clear e0 e1 e2 e3 f0 f1 f2 f3 lt_e0 lt_f0
  have hv_ : Below u4.heap.size u4 v5 := Below.trans (b := _) (by repeat (first | assumption | exact Below.refl _ _ | refine Below.alloc ?_ (by simp; try omega) _ | refine Below.drew ?_ | refine below_drewN ?_ _)) (h_.mono (by simp; try omega))
  replace fb := fb.below hv_
  replace od := od.below hv_
  replace oa := oa.below hv_
  replace HB := HB.trans (hv_.mono HB.size)
  clear hv_
  go_upto_region 4 with fail
  have ob : Fb (v5.alloc (.cells #[.bool bb_, .slice R3_ kb_ c3_, .bool false, .slice Q3_ lb_ d3_] 26)) v5.heap.size bb_ R3_ kb_ c3_ Xb_ Q3_ lb_ d3_ Yb_ := ⟨at_allocF0 rfl, at_allocF1 rfl, at_allocF2 rfl, at_allocF3 rfl, m_.alloc, n_.alloc⟩
  have hv_ : Below v5.heap.size v5 (v5.alloc (.cells #[.bool bb_, .slice R3_ kb_ c3_, .bool false, .slice Q3_ lb_ d3_] 26)) := (Below.refl _ _).alloc (Nat.le_refl _) _
  generalize v5.alloc (.cells #[.bool bb_, .slice R3_ kb_ c3_, .bool false, .slice Q3_ lb_ d3_] 26) = u5 at *
  replace fb := fb.below hv_
  replace od := od.below hv_
  replace oa := oa.below hv_
  replace HB := HB.trans (hv_.mono HB.size)
  clear hv_ m_ n_
  have q0 := ob.c0
  have q1 := ob.c1
  have q2 := ob.c2
  have q3 := ob.c3
  have lt_q := cell_lt q0
  go_wp2_with fail
  refine (HF.out _ _ _ _ _ ob.m ob.n).mono ?_
  rintro e w6 ⟨R6, c6, rfl, m_, h_⟩
  have hv_ : Below u5.heap.size u5 w6 := Below.trans (b := _) (by repeat (first | assumption | exact Below.refl _ _ | refine Below.alloc ?_ (by simp; try omega) _ | refine Below.drew ?_ | refine below_drewN ?_ _)) (h_.mono (by simp; try omega))
  replace oa := oa.below hv_
  replace od := od.below hv_
  replace HB := HB.trans (hv_.mono HB.size)
  clear hv_
  clear q0 q1 q2 q3 lt_q ob
  go_upto_region 5 with fail
  have oi : Ib (w6.alloc (.cells #[.bool bi, .slice R6 ki c6] 24)) w6.heap.size bi R6 ki c6 Xi := ⟨at_alloc0 rfl, at_alloc1 rfl, m_.alloc⟩
  have hv_ : Below w6.heap.size w6 (w6.alloc (.cells #[.bool bi, .slice R6 ki c6] 24)) := (Below.refl _ _).alloc (Nat.le_refl _) _
  generalize w6.alloc (.cells #[.bool bi, .slice R6 ki c6] 24) = u6 at *
  replace oa := oa.below hv_
  replace od := od.below hv_
  replace HB := HB.trans (hv_.mono HB.size)
  clear hv_ m_
  have q0 := od.c0
  have q1 := od.c1
  have q2 := od.c2
  have q3 := od.c3
  have i0 := oi.c0
  have i1 := oi.c1
  have lt_q := cell_lt q0
  have lt_i := cell_lt i0
  go_wp2_with fail
  refine (HN.out _ _ _ _ _ oi.m od.n).mono ?_
  rintro e w7 ⟨R7, c7, Q7, d7, rfl, m_, n_, h_⟩
  have hv_ : Below u6.heap.size u6 w7 := Below.trans (b := _) (by repeat (first | assumption | exact Below.refl _ _ | refine Below.alloc ?_ (by simp; try omega) _ | refine Below.drew ?_ | refine below_drewN ?_ _)) (h_.mono (by simp; try omega))
  replace oa := oa.below hv_
  replace HB := HB.trans (hv_.mono HB.size)
  clear hv_
  clear q0 q1 q2 q3 lt_q i0 i1 lt_i oi od
  go_upto_region 6 with fail
  have ot : Fb (w7.alloc (.cells #[.bool bt_, .slice R7 kt_ c7, .bool false, .slice Q7 lt_ d7] 26)) w7.heap.size bt_ R7 kt_ c7 Xt_ Q7 lt_ d7 Yt_ := ⟨at_allocF0 rfl, at_allocF1 rfl, at_allocF2 rfl, at_allocF3 rfl, m_.alloc, n_.alloc⟩
  have hv_ : Below w7.heap.size w7 (w7.alloc (.cells #[.bool bt_, .slice R7 kt_ c7, .bool false, .slice Q7 lt_ d7] 26)) := (Below.refl _ _).alloc (Nat.le_refl _) _
  generalize w7.alloc (.cells #[.bool bt_, .slice R7 kt_ c7, .bool false, .slice Q7 lt_ d7] 26) = u7 at *
  replace oa := oa.below hv_
  replace HB := HB.trans (hv_.mono HB.size)
  clear hv_ m_ n_
  have e0 := oa.c0
  have e1 := oa.c1
  have e2 := oa.c2
  have e3 := oa.c3
  have f0 := ot.c0
  have f1 := ot.c1
  have f2 := ot.c2
  have f3 := ot.c3
  have lt_e0 := cell_lt e0
  have lt_f0 := cell_lt f0
  go_wp2_with fail
  refine (HH6.out _ _ _ _ _ _ _ _ _ oa.m oa.n ot.m ot.n).mono ?_
  rintro e v8 ⟨rfl, h_⟩
  clear e0 e1 e2 e3 f0 f1 f2 f3 lt_e0 lt_f0
  have hv_ : Below u7.heap.size u7 v8 := Below.trans (b := _) (by repeat (first | assumption | exact Below.refl _ _ | refine Below.alloc ?_ (by simp; try omega) _ | refine Below.drew ?_ | refine below_drewN ?_ _)) (h_.mono (by simp; try omega))
  replace oa := oa.below hv_
  replace HB := HB.trans (hv_.mono HB.size)
  clear hv_
  have e_ : decide (z ≤ 0) = false := by simpa using hnz
  go_wp2
  go_ret
  exact ⟨by rw [← e_]; rfl, HB⟩
end Go.Proofs.YtfhbigfbeppinaaGreatDoor
