/- Homographies: walks of the small functions on integers (package and reference). Conditions: none. -/
import Derived.Test.YtdkgbkbbbldliaaGreatZYE
import Derived.Test.YtdkgbkbbbldliaaGreatZYM2
import Derived.Test.YtdkgbkbbbldliaaGreatZYI
import Derived.Test.YtdkgbkbbbldliaaGreatZYO
set_option linter.unusedVariables false
set_option linter.unusedSimpArgs false
namespace Go.Proofs.YtdkgbkbbbldliaaGreat
open Go.RowKit Big
set_option maxRecDepth 100000 in
set_option maxHeartbeats 2000000 in
theorem Yg {x y z : Int} {b b' b2 : Bool} {n n' n2 : Nat} {xs ys zs : List Nat} {A B : Option Addr} {c d : Nat} {w : World} (hx : Iz x b n xs) (hy : Iz y b' n' ys) (hz : Iz z b2 n2 zs) (ha : Mg w A c xs) (hb : Mg w B d ys) (fx : fits x) (fy : fits y) (fz : fits z) (h : x * y = z) :
  Calls Tryz.prog 110 #[.agg #[.bool b, .slice A n c], .agg #[.bool b', .slice B n' d]] w (GZ w b2 n2 zs) := by
 have HX := hid fun (w1 : World) (h' : Below w.heap.size w w1) => Mul_g (w := w1) hx hy hz (J7 fz) (ha.below h') (hb.below h') fx fy h
 clear hx hy hz ha hb fx fy fz h
 go_enter Tryz.func110, Tryz.ntmps110
 go_wp2_with fail
 refine Qz (P := fun u => Calls _ _ _ u _) ?_
 intro u HB q0 q1 r0 r1 s0 s1 z1 z2 z3 hsz
 clear hsz
 have f_z1 := z1.fr
 have f_z2 := z2.fr
 have f_z3 := z3.fr
 have lt_q0 := Kd q0
 have lt_r0 := Kd r0
 have lt_s0 := Kd s0
 refine (HX.out _ HB).mono ?_
 rintro e w1 ⟨R1, c1, rfl, m1, h1⟩
 have hv_ : Below u.heap.size u w1 := Below.trans (b := _) BL (h1.mono (by simp; try omega))
 replace s0 := Ka hv_ s0
 replace s1 := Ka hv_ s1
 have lt_s0 := Kd s0
 have lt_s1 := Kd s1
 replace z3 := z3.below hv_
 replace f_z3 := z3.fr
 replace HB := HB.trans (hv_.mono HB.size)
 clear hv_
 go_upto_region 2 with fail
 have a0 := K5 (W := w1) (a := .bool b2) (b := .slice R1 n2 c1) (t := 27) rfl
 have a1 := K7 (W := w1) (a := .bool b2) (b := .slice R1 n2 c1) (t := 27) rfl
 have hv_ : Below w1.heap.size w1 (w1.alloc (.cells #[.bool b2, .slice R1 n2 c1] 27)) := (Below.refl _ _).alloc (Nat.le_refl _) _
 generalize w1.alloc (.cells #[.bool b2, .slice R1 n2 c1] 27) = u1 at *
 replace m1 := m1.below hv_
 replace z3 := z3.below hv_
 replace s0 := Ka hv_ s0
 replace s1 := Ka hv_ s1
 replace HB := HB.trans (hv_.mono HB.size)
 clear hv_
 have lt_a := Kd a0
 have f_z3 := z3.fr
 go_wp2
 refine bodyPost_ret (v := .agg #[.bool b2, .slice R1 n2 c1]) ?_ rfl ?_
 ·simp [results, Tryz.results110, go_sem, s0, s1]
 ·obtain ⟨j1_, j2_⟩ := Z1 m1 HB (by omega) s0 s1 (.bool b2) (.slice R1 n2 c1)
  exact ⟨R1, c1, rfl, j1_, j2_⟩
set_option maxRecDepth 100000 in
set_option maxHeartbeats 2000000 in
theorem Hadd_g {x y z : Int} {b b' b2 : Bool} {n n' n2 : Nat} {xs ys zs : List Nat} {A B : Option Addr} {c d : Nat} {w : World} (hx : Iz x b n xs) (hy : Iz y b' n' ys) (hz : Iz z b2 n2 zs) (ha : Mg w A c xs) (hb : Mg w B d ys) (fx : fits x) (fy : fits y) (fz : fits z) (h : x + y = z) :
  Calls Tryz.prog 111 #[.agg #[.bool b, .slice A n c], .agg #[.bool b', .slice B n' d]] w (GZ w b2 n2 zs) := by
 have HX := hid fun (w1 : World) (h' : Below w.heap.size w w1) => Add_g (w := w1) hx hy hz (J7 fz) (ha.below h') (hb.below h') fx fy h
 clear hx hy hz ha hb fx fy fz h
 go_enter Tryz.func111, Tryz.ntmps111
 go_wp2_with fail
 refine Qz (P := fun u => Calls _ _ _ u _) ?_
 intro u HB q0 q1 r0 r1 s0 s1 z1 z2 z3 hsz
 clear hsz
 have f_z1 := z1.fr
 have f_z2 := z2.fr
 have f_z3 := z3.fr
 have lt_q0 := Kd q0
 have lt_r0 := Kd r0
 have lt_s0 := Kd s0
 refine (HX.out _ HB).mono ?_
 rintro e w1 ⟨R1, c1, rfl, m1, h1⟩
 have hv_ : Below u.heap.size u w1 := Below.trans (b := _) BL (h1.mono (by simp; try omega))
 replace s0 := Ka hv_ s0
 replace s1 := Ka hv_ s1
 have lt_s0 := Kd s0
 have lt_s1 := Kd s1
 replace z3 := z3.below hv_
 replace f_z3 := z3.fr
 replace HB := HB.trans (hv_.mono HB.size)
 clear hv_
 go_upto_region 2 with fail
 have a0 := K5 (W := w1) (a := .bool b2) (b := .slice R1 n2 c1) (t := 27) rfl
 have a1 := K7 (W := w1) (a := .bool b2) (b := .slice R1 n2 c1) (t := 27) rfl
 have hv_ : Below w1.heap.size w1 (w1.alloc (.cells #[.bool b2, .slice R1 n2 c1] 27)) := (Below.refl _ _).alloc (Nat.le_refl _) _
 generalize w1.alloc (.cells #[.bool b2, .slice R1 n2 c1] 27) = u1 at *
 replace m1 := m1.below hv_
 replace z3 := z3.below hv_
 replace s0 := Ka hv_ s0
 replace s1 := Ka hv_ s1
 replace HB := HB.trans (hv_.mono HB.size)
 clear hv_
 have lt_a := Kd a0
 have f_z3 := z3.fr
 go_wp2
 refine bodyPost_ret (v := .agg #[.bool b2, .slice R1 n2 c1]) ?_ rfl ?_
 ·simp [results, Tryz.results111, go_sem, s0, s1]
 ·obtain ⟨j1_, j2_⟩ := Z1 m1 HB (by omega) s0 s1 (.bool b2) (.slice R1 n2 c1)
  exact ⟨R1, c1, rfl, j1_, j2_⟩
set_option maxRecDepth 100000 in
set_option maxHeartbeats 2000000 in
theorem Hsub_g {x y z : Int} {b b' b2 : Bool} {n n' n2 : Nat} {xs ys zs : List Nat} {A B : Option Addr} {c d : Nat} {w : World} (hx : Iz x b n xs) (hy : Iz y b' n' ys) (hz : Iz z b2 n2 zs) (ha : Mg w A c xs) (hb : Mg w B d ys) (fx : fits x) (fy : fits y) (fz : fits z) (h : x - y = z) :
  Calls Tryz.prog 136 #[.agg #[.bool b, .slice A n c], .agg #[.bool b', .slice B n' d]] w (GZ w b2 n2 zs) := by
 have HX := hid fun (w1 : World) (h' : Below w.heap.size w w1) => Sub_g (w := w1) hx hy hz (J7 fz) (ha.below h') (hb.below h') fx fy h
 clear hx hy hz ha hb fx fy fz h
 go_enter Tryz.func136, Tryz.ntmps136
 go_wp2_with fail
 refine Qz (P := fun u => Calls _ _ _ u _) ?_
 intro u HB q0 q1 r0 r1 s0 s1 z1 z2 z3 hsz
 clear hsz
 have f_z1 := z1.fr
 have f_z2 := z2.fr
 have f_z3 := z3.fr
 have lt_q0 := Kd q0
 have lt_r0 := Kd r0
 have lt_s0 := Kd s0
 refine (HX.out _ HB).mono ?_
 rintro e w1 ⟨R1, c1, rfl, m1, h1⟩
 have hv_ : Below u.heap.size u w1 := Below.trans (b := _) BL (h1.mono (by simp; try omega))
 replace s0 := Ka hv_ s0
 replace s1 := Ka hv_ s1
 have lt_s0 := Kd s0
 have lt_s1 := Kd s1
 replace z3 := z3.below hv_
 replace f_z3 := z3.fr
 replace HB := HB.trans (hv_.mono HB.size)
 clear hv_
 go_upto_region 2 with fail
 have a0 := K5 (W := w1) (a := .bool b2) (b := .slice R1 n2 c1) (t := 27) rfl
 have a1 := K7 (W := w1) (a := .bool b2) (b := .slice R1 n2 c1) (t := 27) rfl
 have hv_ : Below w1.heap.size w1 (w1.alloc (.cells #[.bool b2, .slice R1 n2 c1] 27)) := (Below.refl _ _).alloc (Nat.le_refl _) _
 generalize w1.alloc (.cells #[.bool b2, .slice R1 n2 c1] 27) = u1 at *
 replace m1 := m1.below hv_
 replace z3 := z3.below hv_
 replace s0 := Ka hv_ s0
 replace s1 := Ka hv_ s1
 replace HB := HB.trans (hv_.mono HB.size)
 clear hv_
 have lt_a := Kd a0
 have f_z3 := z3.fr
 go_wp2
 refine bodyPost_ret (v := .agg #[.bool b2, .slice R1 n2 c1]) ?_ rfl ?_
 ·simp [results, Tryz.results136, go_sem, s0, s1]
 ·obtain ⟨j1_, j2_⟩ := Z1 m1 HB (by omega) s0 s1 (.bool b2) (.slice R1 n2 c1)
  exact ⟨R1, c1, rfl, j1_, j2_⟩
set_option maxRecDepth 100000 in
set_option maxHeartbeats 2000000 in
theorem Jy {x y z : Int} {b b' b2 : Bool} {n n' n2 : Nat} {xs ys zs : List Nat} {A B : Option Addr} {c d : Nat} {w : World} (hx : Iz x b n xs) (hy : Iz y b' n' ys) (hz : Iz z b2 n2 zs) (ha : Mg w A c xs) (hb : Mg w B d ys) (fx : fits x) (fy : fits y) (fz : fits z) (h : x * y = z) :
  Calls Tryz.prog 79 #[.agg #[.bool b, .slice A n c], .agg #[.bool b', .slice B n' d]] w (GZ w b2 n2 zs) := by
 have HX := hid fun (w1 : World) (h' : Below w.heap.size w w1) => RMul_g (w := w1) hx hy hz (J7 fz) (ha.below h') (hb.below h') fx fy h
 clear hx hy hz ha hb fx fy fz h
 go_enter Tryz.func79, Tryz.ntmps79
 go_wp2_with fail
 refine Qz (P := fun u => Calls _ _ _ u _) ?_
 intro u HB q0 q1 r0 r1 s0 s1 z1 z2 z3 hsz
 clear hsz
 have f_z1 := z1.fr
 have f_z2 := z2.fr
 have f_z3 := z3.fr
 have lt_q0 := Kd q0
 have lt_r0 := Kd r0
 have lt_s0 := Kd s0
 refine (HX.out _ HB).mono ?_
 rintro e w1 ⟨R1, c1, rfl, m1, h1⟩
 have hv_ : Below u.heap.size u w1 := Below.trans (b := _) BL (h1.mono (by simp; try omega))
 replace s0 := Ka hv_ s0
 replace s1 := Ka hv_ s1
 have lt_s0 := Kd s0
 have lt_s1 := Kd s1
 replace z3 := z3.below hv_
 replace f_z3 := z3.fr
 replace HB := HB.trans (hv_.mono HB.size)
 clear hv_
 go_upto_region 2 with fail
 have a0 := K5 (W := w1) (a := .bool b2) (b := .slice R1 n2 c1) (t := 27) rfl
 have a1 := K7 (W := w1) (a := .bool b2) (b := .slice R1 n2 c1) (t := 27) rfl
 have hv_ : Below w1.heap.size w1 (w1.alloc (.cells #[.bool b2, .slice R1 n2 c1] 27)) := (Below.refl _ _).alloc (Nat.le_refl _) _
 generalize w1.alloc (.cells #[.bool b2, .slice R1 n2 c1] 27) = u1 at *
 replace m1 := m1.below hv_
 replace z3 := z3.below hv_
 replace s0 := Ka hv_ s0
 replace s1 := Ka hv_ s1
 replace HB := HB.trans (hv_.mono HB.size)
 clear hv_
 have lt_a := Kd a0
 have f_z3 := z3.fr
 go_wp2
 refine bodyPost_ret (v := .agg #[.bool b2, .slice R1 n2 c1]) ?_ rfl ?_
 ·simp [results, Tryz.results79, go_sem, s0, s1]
 ·obtain ⟨j1_, j2_⟩ := Z1 m1 HB (by omega) s0 s1 (.bool b2) (.slice R1 n2 c1)
  exact ⟨R1, c1, rfl, j1_, j2_⟩
set_option maxRecDepth 100000 in
set_option maxHeartbeats 2000000 in
theorem Da {x y z : Int} {b b' b2 : Bool} {n n' n2 : Nat} {xs ys zs : List Nat} {A B : Option Addr} {c d : Nat} {w : World} (hx : Iz x b n xs) (hy : Iz y b' n' ys) (hz : Iz z b2 n2 zs) (ha : Mg w A c xs) (hb : Mg w B d ys) (fx : fits x) (fy : fits y) (fz : fits z) (h : x + y = z) :
  Calls Tryz.prog 78 #[.agg #[.bool b, .slice A n c], .agg #[.bool b', .slice B n' d]] w (GZ w b2 n2 zs) := by
 have HX := hid fun (w1 : World) (h' : Below w.heap.size w w1) => RAdd_g (w := w1) hx hy hz (J7 fz) (ha.below h') (hb.below h') fx fy h
 clear hx hy hz ha hb fx fy fz h
 go_enter Tryz.func78, Tryz.ntmps78
 go_wp2_with fail
 refine Qz (P := fun u => Calls _ _ _ u _) ?_
 intro u HB q0 q1 r0 r1 s0 s1 z1 z2 z3 hsz
 clear hsz
 have f_z1 := z1.fr
 have f_z2 := z2.fr
 have f_z3 := z3.fr
 have lt_q0 := Kd q0
 have lt_r0 := Kd r0
 have lt_s0 := Kd s0
 refine (HX.out _ HB).mono ?_
 rintro e w1 ⟨R1, c1, rfl, m1, h1⟩
 have hv_ : Below u.heap.size u w1 := Below.trans (b := _) BL (h1.mono (by simp; try omega))
 replace s0 := Ka hv_ s0
 replace s1 := Ka hv_ s1
 have lt_s0 := Kd s0
 have lt_s1 := Kd s1
 replace z3 := z3.below hv_
 replace f_z3 := z3.fr
 replace HB := HB.trans (hv_.mono HB.size)
 clear hv_
 go_upto_region 2 with fail
 have a0 := K5 (W := w1) (a := .bool b2) (b := .slice R1 n2 c1) (t := 27) rfl
 have a1 := K7 (W := w1) (a := .bool b2) (b := .slice R1 n2 c1) (t := 27) rfl
 have hv_ : Below w1.heap.size w1 (w1.alloc (.cells #[.bool b2, .slice R1 n2 c1] 27)) := (Below.refl _ _).alloc (Nat.le_refl _) _
 generalize w1.alloc (.cells #[.bool b2, .slice R1 n2 c1] 27) = u1 at *
 replace m1 := m1.below hv_
 replace z3 := z3.below hv_
 replace s0 := Ka hv_ s0
 replace s1 := Ka hv_ s1
 replace HB := HB.trans (hv_.mono HB.size)
 clear hv_
 have lt_a := Kd a0
 have f_z3 := z3.fr
 go_wp2
 refine bodyPost_ret (v := .agg #[.bool b2, .slice R1 n2 c1]) ?_ rfl ?_
 ·simp [results, Tryz.results78, go_sem, s0, s1]
 ·obtain ⟨j1_, j2_⟩ := Z1 m1 HB (by omega) s0 s1 (.bool b2) (.slice R1 n2 c1)
  exact ⟨R1, c1, rfl, j1_, j2_⟩
set_option maxRecDepth 100000 in
set_option maxHeartbeats 2000000 in
theorem HRsub_g {x y z : Int} {b b' b2 : Bool} {n n' n2 : Nat} {xs ys zs : List Nat} {A B : Option Addr} {c d : Nat} {w : World} (hx : Iz x b n xs) (hy : Iz y b' n' ys) (hz : Iz z b2 n2 zs) (ha : Mg w A c xs) (hb : Mg w B d ys) (fx : fits x) (fy : fits y) (fz : fits z) (h : x - y = z) :
  Calls Tryz.prog 83 #[.agg #[.bool b, .slice A n c], .agg #[.bool b', .slice B n' d]] w (GZ w b2 n2 zs) := by
 have HX := hid fun (w1 : World) (h' : Below w.heap.size w w1) => RSub_g (w := w1) hx hy hz (J7 fz) (ha.below h') (hb.below h') fx fy h
 clear hx hy hz ha hb fx fy fz h
 go_enter Tryz.func83, Tryz.ntmps83
 go_wp2_with fail
 refine Qz (P := fun u => Calls _ _ _ u _) ?_
 intro u HB q0 q1 r0 r1 s0 s1 z1 z2 z3 hsz
 clear hsz
 have f_z1 := z1.fr
 have f_z2 := z2.fr
 have f_z3 := z3.fr
 have lt_q0 := Kd q0
 have lt_r0 := Kd r0
 have lt_s0 := Kd s0
 refine (HX.out _ HB).mono ?_
 rintro e w1 ⟨R1, c1, rfl, m1, h1⟩
 have hv_ : Below u.heap.size u w1 := Below.trans (b := _) BL (h1.mono (by simp; try omega))
 replace s0 := Ka hv_ s0
 replace s1 := Ka hv_ s1
 have lt_s0 := Kd s0
 have lt_s1 := Kd s1
 replace z3 := z3.below hv_
 replace f_z3 := z3.fr
 replace HB := HB.trans (hv_.mono HB.size)
 clear hv_
 go_upto_region 2 with fail
 have a0 := K5 (W := w1) (a := .bool b2) (b := .slice R1 n2 c1) (t := 27) rfl
 have a1 := K7 (W := w1) (a := .bool b2) (b := .slice R1 n2 c1) (t := 27) rfl
 have hv_ : Below w1.heap.size w1 (w1.alloc (.cells #[.bool b2, .slice R1 n2 c1] 27)) := (Below.refl _ _).alloc (Nat.le_refl _) _
 generalize w1.alloc (.cells #[.bool b2, .slice R1 n2 c1] 27) = u1 at *
 replace m1 := m1.below hv_
 replace z3 := z3.below hv_
 replace s0 := Ka hv_ s0
 replace s1 := Ka hv_ s1
 replace HB := HB.trans (hv_.mono HB.size)
 clear hv_
 have lt_a := Kd a0
 have f_z3 := z3.fr
 go_wp2
 refine bodyPost_ret (v := .agg #[.bool b2, .slice R1 n2 c1]) ?_ rfl ?_
 ·simp [results, Tryz.results83, go_sem, s0, s1]
 ·obtain ⟨j1_, j2_⟩ := Z1 m1 HB (by omega) s0 s1 (.bool b2) (.slice R1 n2 c1)
  exact ⟨R1, c1, rfl, j1_, j2_⟩
set_option maxRecDepth 100000 in
set_option maxHeartbeats 2000000 in
theorem Hgcd_g {x y z : Int} {b b' b2 : Bool} {n n' n2 : Nat} {xs ys zs : List Nat} {A B : Option Addr} {c d : Nat} {w : World} (hx : Iz x b n xs) (hy : Iz y b' n' ys) (hz : Iz z b2 n2 zs) (ha : Mg w A c xs) (hb : Mg w B d ys) (fx : fits x) (fy : fits y) (h : ((Nat.gcd x.natAbs y.natAbs : Nat) : Int) = z) :
  Calls Tryz.prog 122 #[.agg #[.bool b, .slice A n c], .agg #[.bool b', .slice B n' d]] w (GZ w b2 n2 zs) := by
 have HX := hid fun (w1 : World) (h' : Below w.heap.size w w1) => GCD_g (w := w1) hx hy hz (ha.below h') (hb.below h') fx fy h
 clear hx hy hz ha hb fx fy h
 go_enter Tryz.func122, Tryz.ntmps122
 go_wp2_with fail
 refine Qz (P := fun u => Calls _ _ _ u _) ?_
 intro u HB q0 q1 r0 r1 s0 s1 z1 z2 z3 hsz
 clear hsz
 have f_z1 := z1.fr
 have f_z2 := z2.fr
 have f_z3 := z3.fr
 have lt_q0 := Kd q0
 have lt_r0 := Kd r0
 have lt_s0 := Kd s0
 refine (HX.out _ HB).mono ?_
 rintro e w1 ⟨R1, c1, rfl, m1, h1⟩
 have hv_ : Below u.heap.size u w1 := Below.trans (b := _) BL (h1.mono (by simp; try omega))
 replace s0 := Ka hv_ s0
 replace s1 := Ka hv_ s1
 have lt_s0 := Kd s0
 have lt_s1 := Kd s1
 replace z3 := z3.below hv_
 replace f_z3 := z3.fr
 replace HB := HB.trans (hv_.mono HB.size)
 clear hv_
 go_upto_region 2 with fail
 have a0 := K5 (W := w1) (a := .bool b2) (b := .slice R1 n2 c1) (t := 27) rfl
 have a1 := K7 (W := w1) (a := .bool b2) (b := .slice R1 n2 c1) (t := 27) rfl
 have hv_ : Below w1.heap.size w1 (w1.alloc (.cells #[.bool b2, .slice R1 n2 c1] 27)) := (Below.refl _ _).alloc (Nat.le_refl _) _
 generalize w1.alloc (.cells #[.bool b2, .slice R1 n2 c1] 27) = u1 at *
 replace m1 := m1.below hv_
 replace z3 := z3.below hv_
 replace s0 := Ka hv_ s0
 replace s1 := Ka hv_ s1
 replace HB := HB.trans (hv_.mono HB.size)
 clear hv_
 have lt_a := Kd a0
 have f_z3 := z3.fr
 go_wp2
 refine bodyPost_ret (v := .agg #[.bool b2, .slice R1 n2 c1]) ?_ rfl ?_
 ·simp [results, Tryz.results122, go_sem, s0, s1]
 ·obtain ⟨j1_, j2_⟩ := Z1 m1 HB (by omega) s0 s1 (.bool b2) (.slice R1 n2 c1)
  exact ⟨R1, c1, rfl, j1_, j2_⟩
set_option maxRecDepth 100000 in
set_option maxHeartbeats 2000000 in
theorem HRgcd_g {x y z : Int} {b b' b2 : Bool} {n n' n2 : Nat} {xs ys zs : List Nat} {A B : Option Addr} {c d : Nat} {w : World} (hx : Iz x b n xs) (hy : Iz y b' n' ys) (hz : Iz z b2 n2 zs) (ha : Mg w A c xs) (hb : Mg w B d ys) (fx : fits x) (fy : fits y) (h : ((Nat.gcd x.natAbs y.natAbs : Nat) : Int) = z) :
  Calls Tryz.prog 85 #[.agg #[.bool b, .slice A n c], .agg #[.bool b', .slice B n' d]] w (GZ w b2 n2 zs) := by
 have HX := hid fun (w1 : World) (h' : Below w.heap.size w w1) => RGCD_g (w := w1) hx hy hz (ha.below h') (hb.below h') fx fy h
 clear hx hy hz ha hb fx fy h
 go_enter Tryz.func85, Tryz.ntmps85
 go_wp2_with fail
 refine Qz (P := fun u => Calls _ _ _ u _) ?_
 intro u HB q0 q1 r0 r1 s0 s1 z1 z2 z3 hsz
 clear hsz
 have f_z1 := z1.fr
 have f_z2 := z2.fr
 have f_z3 := z3.fr
 have lt_q0 := Kd q0
 have lt_r0 := Kd r0
 have lt_s0 := Kd s0
 refine (HX.out _ HB).mono ?_
 rintro e w1 ⟨R1, c1, rfl, m1, h1⟩
 have hv_ : Below u.heap.size u w1 := Below.trans (b := _) BL (h1.mono (by simp; try omega))
 replace s0 := Ka hv_ s0
 replace s1 := Ka hv_ s1
 have lt_s0 := Kd s0
 have lt_s1 := Kd s1
 replace z3 := z3.below hv_
 replace f_z3 := z3.fr
 replace HB := HB.trans (hv_.mono HB.size)
 clear hv_
 go_upto_region 2 with fail
 have a0 := K5 (W := w1) (a := .bool b2) (b := .slice R1 n2 c1) (t := 27) rfl
 have a1 := K7 (W := w1) (a := .bool b2) (b := .slice R1 n2 c1) (t := 27) rfl
 have hv_ : Below w1.heap.size w1 (w1.alloc (.cells #[.bool b2, .slice R1 n2 c1] 27)) := (Below.refl _ _).alloc (Nat.le_refl _) _
 generalize w1.alloc (.cells #[.bool b2, .slice R1 n2 c1] 27) = u1 at *
 replace m1 := m1.below hv_
 replace z3 := z3.below hv_
 replace s0 := Ka hv_ s0
 replace s1 := Ka hv_ s1
 replace HB := HB.trans (hv_.mono HB.size)
 clear hv_
 have lt_a := Kd a0
 have f_z3 := z3.fr
 go_wp2
 refine bodyPost_ret (v := .agg #[.bool b2, .slice R1 n2 c1]) ?_ rfl ?_
 ·simp [results, Tryz.results85, go_sem, s0, s1]
 ·obtain ⟨j1_, j2_⟩ := Z1 m1 HB (by omega) s0 s1 (.bool b2) (.slice R1 n2 c1)
  exact ⟨R1, c1, rfl, j1_, j2_⟩
set_option maxRecDepth 100000 in
set_option maxHeartbeats 2000000 in
theorem Yu {x y z : Int} {b b' b2 : Bool} {n n' n2 : Nat} {xs ys zs : List Nat} {A B : Option Addr} {c d : Nat} {w : World} (hx : Iz x b n xs) (hy : Iz y b' n' ys) (hz : Iz z b2 n2 zs) (ha : Mg w A c xs) (hb : Mg w B d ys) (fx : fits x) (fy : fits y) (h0 : y ≠ 0) (h : dmQ x y = z) :
  Calls Tryz.prog 121 #[.agg #[.bool b, .slice A n c], .agg #[.bool b', .slice B n' d]] w (GZ w b2 n2 zs) := by
 obtain ⟨b3, n3, L3, I3⟩ := iz (dmR x y)
 have HX := hid fun (w1 : World) (h' : Below w.heap.size w w1) => Dh (w := w1) hx hy hz I3.out (ha.below h') (hb.below h') fx fy h0 h rfl
 clear hx hy hz ha hb fx fy h h0 I3
 go_enter Tryz.func121, Tryz.ntmps121
 go_wp2_with fail
 refine Qz (P := fun u => Calls _ _ _ u _) ?_
 intro u HB q0 q1 r0 r1 s0 s1 z1 z2 z3 hsz
 clear hsz
 have f_z1 := z1.fr
 have f_z2 := z2.fr
 have f_z3 := z3.fr
 have lt_q0 := Kd q0
 have lt_r0 := Kd r0
 have lt_s0 := Kd s0
 refine (HX.out _ HB).mono ?_
 rintro e w1 ⟨R1, c1, R2, c2, rfl, m1, m2, h1⟩
 have hv_ : Below u.heap.size u w1 := Below.trans (b := _) BL (h1.mono (by simp; try omega))
 replace s0 := Ka hv_ s0
 replace s1 := Ka hv_ s1
 have lt_s0 := Kd s0
 have lt_s1 := Kd s1
 replace z3 := z3.below hv_
 replace f_z3 := z3.fr
 replace HB := HB.trans (hv_.mono HB.size)
 clear hv_
 go_upto_region 2 with fail
 have a0 := Kk (b := .cells #[.bool b3, .slice R2 n3 c2] 27) (K5 (W := w1) (a := .bool b2) (b := .slice R1 n2 c1) (t := 27) rfl)
 have a1 := Kk (b := .cells #[.bool b3, .slice R2 n3 c2] 27) (K7 (W := w1) (a := .bool b2) (b := .slice R1 n2 c1) (t := 27) rfl)
 have e0 := K5 (W := w1.alloc (.cells #[.bool b2, .slice R1 n2 c1] 27)) (a := .bool b3) (b := .slice R2 n3 c2) (t := 27) rfl
 have e1 := K7 (W := w1.alloc (.cells #[.bool b2, .slice R1 n2 c1] 27)) (a := .bool b3) (b := .slice R2 n3 c2) (t := 27) rfl
 have hv_ : Below w1.heap.size w1 ((w1.alloc (.cells #[.bool b2, .slice R1 n2 c1] 27)).alloc (.cells #[.bool b3, .slice R2 n3 c2] 27)) := ((Below.refl _ _).alloc (Nat.le_refl _) _).alloc (by simp) _
 simp only [World.size_alloc] at e0 e1
 generalize (w1.alloc (.cells #[.bool b2, .slice R1 n2 c1] 27)).alloc (.cells #[.bool b3, .slice R2 n3 c2] 27) = u1 at *
 replace m1 := m1.below hv_
 replace z3 := z3.below hv_
 replace s0 := Ka hv_ s0
 replace s1 := Ka hv_ s1
 replace HB := HB.trans (hv_.mono HB.size)
 clear hv_
 have lt_a := Kd a0
 have f_z3 := z3.fr
 go_wp2
 refine bodyPost_ret (v := .agg #[.bool b2, .slice R1 n2 c1]) ?_ rfl ?_
 ·simp [results, Tryz.results121, go_sem, s0, s1]
 ·obtain ⟨j1_, j2_⟩ := Z1 m1 HB (by omega) s0 s1 (.bool b2) (.slice R1 n2 c1)
  exact ⟨R1, c1, rfl, j1_, j2_⟩
set_option maxRecDepth 100000 in
set_option maxHeartbeats 2000000 in
theorem Q8 {x y z : Int} {b b' b2 : Bool} {n n' n2 : Nat} {xs ys zs : List Nat} {A B : Option Addr} {c d : Nat} {w : World} (hx : Iz x b n xs) (hy : Iz y b' n' ys) (hz : Iz z b2 n2 zs) (ha : Mg w A c xs) (hb : Mg w B d ys) (fx : fits x) (fy : fits y) (h0 : y ≠ 0) (h : dmQ x y = z) :
  Calls Tryz.prog 84 #[.agg #[.bool b, .slice A n c], .agg #[.bool b', .slice B n' d]] w (GZ w b2 n2 zs) := by
 obtain ⟨b3, n3, L3, I3⟩ := iz (dmR x y)
 have HX := hid fun (w1 : World) (h' : Below w.heap.size w w1) => RDivMod_g (w := w1) hx hy hz I3.out (ha.below h') (hb.below h') fx fy h0 h rfl
 clear hx hy hz ha hb fx fy h h0 I3
 go_enter Tryz.func84, Tryz.ntmps84
 go_wp2_with fail
 refine Qz (P := fun u => Calls _ _ _ u _) ?_
 intro u HB q0 q1 r0 r1 s0 s1 z1 z2 z3 hsz
 clear hsz
 have f_z1 := z1.fr
 have f_z2 := z2.fr
 have f_z3 := z3.fr
 have lt_q0 := Kd q0
 have lt_r0 := Kd r0
 have lt_s0 := Kd s0
 refine (HX.out _ HB).mono ?_
 rintro e w1 ⟨R1, c1, R2, c2, rfl, m1, m2, h1⟩
 have hv_ : Below u.heap.size u w1 := Below.trans (b := _) BL (h1.mono (by simp; try omega))
 replace s0 := Ka hv_ s0
 replace s1 := Ka hv_ s1
 have lt_s0 := Kd s0
 have lt_s1 := Kd s1
 replace z3 := z3.below hv_
 replace f_z3 := z3.fr
 replace HB := HB.trans (hv_.mono HB.size)
 clear hv_
 go_upto_region 2 with fail
 have a0 := Kk (b := .cells #[.bool b3, .slice R2 n3 c2] 27) (K5 (W := w1) (a := .bool b2) (b := .slice R1 n2 c1) (t := 27) rfl)
 have a1 := Kk (b := .cells #[.bool b3, .slice R2 n3 c2] 27) (K7 (W := w1) (a := .bool b2) (b := .slice R1 n2 c1) (t := 27) rfl)
 have e0 := K5 (W := w1.alloc (.cells #[.bool b2, .slice R1 n2 c1] 27)) (a := .bool b3) (b := .slice R2 n3 c2) (t := 27) rfl
 have e1 := K7 (W := w1.alloc (.cells #[.bool b2, .slice R1 n2 c1] 27)) (a := .bool b3) (b := .slice R2 n3 c2) (t := 27) rfl
 have hv_ : Below w1.heap.size w1 ((w1.alloc (.cells #[.bool b2, .slice R1 n2 c1] 27)).alloc (.cells #[.bool b3, .slice R2 n3 c2] 27)) := ((Below.refl _ _).alloc (Nat.le_refl _) _).alloc (by simp) _
 simp only [World.size_alloc] at e0 e1
 generalize (w1.alloc (.cells #[.bool b2, .slice R1 n2 c1] 27)).alloc (.cells #[.bool b3, .slice R2 n3 c2] 27) = u1 at *
 replace m1 := m1.below hv_
 replace z3 := z3.below hv_
 replace s0 := Ka hv_ s0
 replace s1 := Ka hv_ s1
 replace HB := HB.trans (hv_.mono HB.size)
 clear hv_
 have lt_a := Kd a0
 have f_z3 := z3.fr
 go_wp2
 refine bodyPost_ret (v := .agg #[.bool b2, .slice R1 n2 c1]) ?_ rfl ?_
 ·simp [results, Tryz.results84, go_sem, s0, s1]
 ·obtain ⟨j1_, j2_⟩ := Z1 m1 HB (by omega) s0 s1 (.bool b2) (.slice R1 n2 c1)
  exact ⟨R1, c1, rfl, j1_, j2_⟩
set_option maxRecDepth 100000 in
theorem W6 {b : Bool} {n c : Nat} {A : Option Addr} {w : World} (t : Bool) (h : decide (n = 0) = t) :
  Calls Tryz.prog 73 #[.agg #[.bool b, .slice A n c]] w (RetB w t) := by
 have HT := hid h
 clear h
 go_enter Tryz.func73, Tryz.ntmps73
 go_wp2
 go_ret
 exact ⟨by rw [← HT.out]; simp; rw [Bool.eq_iff_iff]; simp, (Below.refl _ _).alloc (Nat.le_refl _) _⟩
set_option maxRecDepth 100000 in
set_option maxHeartbeats 4000000 in
theorem Xf {p q r t z : Int} {bp_ bq br bt b2 : Bool} {np nq nr nt n2 : Nat} {ps qs rs ts zs : List Nat} {A B C D : Option Addr} {ca cb cc cd : Nat} {w : World} (hp : Iz p bp_ np ps) (hq : Iz q bq nq qs) (hr : Iz r br nr rs) (ht : Iz t bt nt ts) (hz : Iz z b2 n2 zs)
  (ma : Mg w A ca ps) (mb : Mg w B cb qs) (mc : Mg w C cc rs) (md : Mg w D cd ts) (fp : fits p) (fq : fits q) (fr_ : fits r) (ft : fits t) (f1 : fits (p * t)) (f2 : fits (q * r)) (fz : fits z) (h : p * t - q * r = z) :
  Calls Tryz.prog 105 #[.agg #[.bool bp_, .slice A np ca], .agg #[.bool bq, .slice B nq cb], .agg #[.bool br, .slice C nr cc], .agg #[.bool bt, .slice D nt cd]] w (GZ w b2 n2 zs) := by
 obtain ⟨b1, n1, xs, I1⟩ := iz (p * t)
 obtain ⟨b3, n3, ys, I2⟩ := iz (q * r)
 have H1 := hid fun (w1 : World) (h' : Below w.heap.size w w1) => Yg (w := w1) hp ht I1.out (ma.below h') (md.below h') fp ft f1 rfl
 have H2 := hid fun (w1 : World) (h' : Below w.heap.size w w1) => Yg (w := w1) hq hr I2.out (mb.below h') (mc.below h') fq fr_ f2 rfl
 have H3 := hid fun (w1 : World) (R Q : Option Addr) (c d : Nat) (m1 : Mg w1 R c xs) (m2 : Mg w1 Q d ys) => Hsub_g (w := w1) I1.out I2.out hz m1 m2 f1 f2 fz h
 clear hp hq hr ht hz ma mb mc md fp fq fr_ ft f1 f2 fz h I1 I2
 go_enter Tryz.func105, Tryz.ntmps105
 go_wp2_with fail
 refine enterIIIII (P := fun u => Code.wp _ _ _ _ u) ?_
 intro u HB q0 q1 r0 r1 s0 s1 t0 t1 u0 u1 z1 z2 z3 z4 z5 hsz
 clear hsz
 have f_z1 := z1.fr
 have f_z2 := z2.fr
 have f_z3 := z3.fr
 have f_z4 := z4.fr
 have f_z5 := z5.fr
 have lt_q0 := Kd q0
 have lt_r0 := Kd r0
 have lt_s0 := Kd s0
 have lt_t0 := Kd t0
 have lt_u0 := Kd u0
 go_region_held3 (fun w' => (w'.cell? ⟨w.heap.size, 0, none⟩ = some (.bool bp_) ∧ w'.cell? ⟨w.heap.size, 1, none⟩ = some (.slice A np ca)) ∧ (w'.cell? ⟨w.heap.size + 1, 0, none⟩ = some (.bool bq) ∧ w'.cell? ⟨w.heap.size + 1, 1, none⟩ = some (.slice B nq cb)) ∧ (w'.cell? ⟨w.heap.size + 1 + 1, 0, none⟩ = some (.bool br) ∧ w'.cell? ⟨w.heap.size + 1 + 1, 1, none⟩ = some (.slice C nr cc)) ∧ (w'.cell? ⟨w.heap.size + 1 + 1 + 1, 0, none⟩ = some (.bool bt) ∧ w'.cell? ⟨w.heap.size + 1 + 1 + 1, 1, none⟩ = some (.slice D nt cd))) (first | ((try dsimp only); repeat' (first | with_reducible assumption | apply And.intro | (with_reducible refine Kk ?_) | (with_reducible refine Kn ?_) | (with_reducible refine Kh (by first | omega | (simp only [World.size_alloc, World.size_setCell, World.size_drew]; done) | (simp only [World.size_alloc, World.size_setCell, World.size_drew]; omega)) ?_) | (with_reducible refine Ka (W := u) ?_ ?_) | fail))) (first | (go_at_call 110; (with_reducible refine (H1.out _ (Kb HB BG)).mono ?_); rintro e y1 ⟨R1, c1, rfl, m1, hq_⟩; have qy1 : Below u.heap.size u y1 := Kb BG hq_) | (go_at_call 110; (with_reducible refine (H2.out _ (Kb HB BG)).mono ?_); rintro e y2 ⟨R2, c2, rfl, m2, hq_⟩; have qy2 : Below u.heap.size u y2 := Kb BG hq_) | (go_at_call 136; (with_reducible refine (H3.out _ _ _ _ _ (m1.below BG) (m2.below BG)).mono ?_); rintro e y3 ⟨R3, c3, rfl, m3, hq_⟩; have qy3 : Below u.heap.size u y3 := Kb BG hq_; have u0 := Ka qy3 u0; have u1 := Ka qy3 u1; have z5 := z5.below qy3; have f_z5 := z5.fr))
 all_goals
  replace HB := Kb HB qy3
  go_wp2
  refine bodyPost_ret (v := .agg #[.bool b2, .slice R3 n2 c3]) ?_ rfl ?_
  ·simp [results, Tryz.results105, go_sem, u0, u1]
  ·obtain ⟨j1_, j2_⟩ := Z1 m3 HB (by omega) u0 u1 (.bool b2) (.slice R3 n2 c3)
   exact ⟨R3, c3, rfl, j1_, j2_⟩
theorem alloc_ArB {w : World} {l : List ZE} {t : TypeId} (h : ∀ e ∈ l, e.ok w) : ArB (w.alloc (.cells (Kc l).toArray t)) w.heap.size l :=
 ⟨fun j v hv => by rw [Nat.zero_add, World.cell?_alloc_at _ _ _ _ rfl]; simpa using hv, fun e he => (h e he).below ((Below.refl _ _).alloc (Nat.le_refl _) _)⟩
theorem T55u : Tryz.prog.underlying 95 = some (.array 9 27) := Tryz.underlying95
set_option maxRecDepth 100000 in
set_option maxHeartbeats 4000000 in
theorem Hfits_g (l : List ZE) (hl : l.length = 9) {w : World} (hok : ∀ e ∈ l, e.ok w) :
  Calls Tryz.prog 91 #[.agg (Kc l).toArray] w (RetB w (decide (∀ e ∈ l, e.n ≤ 40))) := by
 have hi := hid (show (Tryz.prog.info? 95).map (·.size) = some (Kc l).length by rw [Kf, hl]; kernel_rfl)
 have HIx := fun (w1 : World) (j : Nat) (hj : j < l.length) => Zr w1 l 95 9 hl T55u j hj
 have hA := hid (alloc_ArB (t := 95) hok)
 go_enter Tryz.func91, Tryz.ntmps91
 go_upto_region 1 with fail
 go_wp2_with (refine wpList_load_mid (by rfl) _ _ (by rfl) w.heap.size 0 (by rfl) (Kc l) _ hA.out.r T55u (by rfl) hi.out ?_)
 go_loopw [6] (fun s6 wr => ∃ j : Nat, j ≤ 9 ∧ s6 = .int .i64 j ∧ Below w.heap.size w wr ∧ Hid (∀ i (h : i < l.length), i < j → l[i].n ≤ 40)) (fun s6 _ => 9 - (intOf s6).toNat)
 case atStart => exact ⟨0, by omega, rfl, (Below.refl _ _).alloc (Nat.le_refl _) _, fun i _ h => by omega⟩
 case round =>
  obtain ⟨j, hj, rfl, hbl, hp⟩ := hrel
  by_cases h9 : j < 9
  ·have hj2 : j < l.length := by omega
   have hix := HIx wr j hj2
   have hR : Hid (decide (∀ e ∈ l, e.n ≤ 40) = decide (∀ e ∈ l, e.n ≤ 40)) := rfl
   have hbad : Hid (¬ l[j].n ≤ 40 → decide (∀ e ∈ l, e.n ≤ 40) = false) := fun h => by
    rw [decide_eq_false_iff_not]
    exact fun h' => h (h' _ (List.getElem_mem hj2))
   have hnext : Hid (l[j].n ≤ 40 → ∀ i (h : i < l.length), i < j + 1 → l[i].n ≤ 40) := fun h i hi2 hi3 => by
    rcases Nat.lt_or_ge i j with h4 | h4
    ·exact hp.out i hi2 h4
    ·have e : i = j := by omega
     subst e; exact h
   generalize l[j] = e at *
   obtain ⟨ez, eb, en, exs, eA, ec⟩ := e
   dsimp only at *
   have h9i : (j : Int) < 9 := by omega
   by_cases hbig : en ≤ 40
   ·have hb2 : ¬ (40 : Int) < (en : Int) := by omega
    have hN := hid (hnext.out hbig)
    clear hbad hnext hp hR hj2 HIx
    go_wp2
    go_roundw
    case rel => exact ⟨j + 1, by omega, by go_num, by first | exact hbl.alloc hbl.size _ | skip, hN.out⟩
    case measure => simp [intOf]; omega
   ·have hb2 : (40 : Int) < (en : Int) := by omega
    have hB := hid (hbad.out hbig)
    clear hbad hnext hp hR hj2 HIx
    go_wp2
    go_ret
    exact ⟨by rw [hB.out]; rfl, hbl.alloc hbl.size _⟩
  ·obtain rfl : j = 9 := by omega
   have hB : Hid (decide (∀ e ∈ l, e.n ≤ 40) = true) := by
    unfold Hid
    rw [decide_eq_true_eq]
    intro e he
    obtain ⟨i, hi2, rfl⟩ := List.getElem_of_mem he
    exact hp.out i hi2 (by omega)
   clear hp HIx
   go_wp2
   go_ret
   exact ⟨by rw [hB.out]; rfl, hbl⟩
set_option maxRecDepth 100000 in
set_option maxHeartbeats 4000000 in
theorem Hdot_g {e0 e1 e2 f0 f1 f2 : ZE} {g o g' o' ca cb : Nat} {w : World} (hr : w.rangeAt g o (Kc [e0, e1, e2])) (hs : w.rangeAt g' o' (Kc [f0, f1, f2]))
  (k0 : e0.ok w) (k1 : e1.ok w) (k2 : e2.ok w) (j0 : f0.ok w) (j1 : f1.ok w) (j2 : f2.ok w) (a0 : fits e0.z) (a1 : fits e1.z) (a2 : fits e2.z) (b0 : fits f0.z) (b1 : fits f1.z) (b2 : fits f2.z)
  (p0 : fits (e0.z * f0.z)) (p1 : fits (e1.z * f1.z)) (p2 : fits (e2.z * f2.z)) (s1 : fits (e0.z * f0.z + e1.z * f1.z)) {z : Int} (fz : fits z) (h : e0.z * f0.z + e1.z * f1.z + e2.z * f2.z = z)
  {bz : Bool} {nz : Nat} {zs : List Nat} (I : Iz z bz nz zs) :
  Calls Tryz.prog 72 #[.slice (some ⟨g, o, none⟩) 3 ca, .slice (some ⟨g', o', none⟩) 3 cb] w (GZ w bz nz zs) := by
 obtain ⟨y1, n1, L1, I1⟩ := iz (e0.z * f0.z)
 obtain ⟨y2, n2, L2, I2⟩ := iz (e1.z * f1.z)
 obtain ⟨y3, n3, L3, I3⟩ := iz (e2.z * f2.z)
 obtain ⟨y4, n4, L4, I4⟩ := iz (e0.z * f0.z + e1.z * f1.z)
 have H1 := hid fun (w1 : World) (h : Below w.heap.size w w1) => Yg (w := w1) k0.i j0.i I1.out (k0.m.below h) (j0.m.below h) a0 b0 p0 rfl
 have H2 := hid fun (w1 : World) (h : Below w.heap.size w w1) => Yg (w := w1) k1.i j1.i I2.out (k1.m.below h) (j1.m.below h) a1 b1 p1 rfl
 have H3 := hid fun (w1 : World) (h : Below w.heap.size w w1) => Yg (w := w1) k2.i j2.i I3.out (k2.m.below h) (j2.m.below h) a2 b2 p2 rfl
 have H4 := hid fun (w1 : World) (R Q : Option Addr) (c d : Nat) (m1 : Mg w1 R c L1) (m2 : Mg w1 Q d L2) => Hadd_g (w := w1) I1.out I2.out I4.out m1 m2 p0 p1 s1 rfl
 have H5 := hid fun (w1 : World) (R Q : Option Addr) (c d : Nat) (m1 : Mg w1 R c L4) (m2 : Mg w1 Q d L3) => Hadd_g (w := w1) I4.out I3.out I m1 m2 s1 p2 fz h
 have HC := hid fun (w1 : World) (h : Below w.heap.size w w1) => And.intro (And.intro (And.intro (Ka h (hr 0 _ rfl)) (Ka h (hr 1 _ rfl))) (And.intro (Ka h (hr 2 _ rfl)) (Ka h (hr 3 _ rfl)))) (And.intro (And.intro (Ka h (hr 4 _ rfl)) (Ka h (hr 5 _ rfl))) (And.intro (And.intro (Ka h (hs 0 _ rfl)) (Ka h (hs 1 _ rfl))) (And.intro (And.intro (Ka h (hs 2 _ rfl)) (Ka h (hs 3 _ rfl))) (And.intro (Ka h (hs 4 _ rfl)) (Ka h (hs 5 _ rfl))))))
 have lg := Kd (hr 0 _ rfl)
 have lg' := Kd (hs 0 _ rfl)
 clear k0 k1 k2 j0 j1 j2 a0 a1 a2 b0 b1 b2 p0 p1 p2 s1 fz h I I1 I2 I3 I4 hr hs
 obtain ⟨z0, bb0, nn0, xx0, A0, q0⟩ := e0
 obtain ⟨z1, bb1, nn1, xx1, A1, q1⟩ := e1
 obtain ⟨z2, bb2, nn2, xx2, A2, q2⟩ := e2
 obtain ⟨v0, bc0, mm0, yy0, B0, r0⟩ := f0
 obtain ⟨v1, bc1, mm1, yy1, B1, r1⟩ := f1
 obtain ⟨v2, bc2, mm2, yy2, B2, r2⟩ := f2
 dsimp only at *
 go_enter Tryz.func72, Tryz.ntmps72
 go_wp2_with fail
 refine Qh (P := fun u => Code.wp _ _ _ _ u) ?_
 intro u HB s0 s1 z3 hsz
 clear hsz
 have f_z3 := z3.fr
 have lt_s0 := Kd s0
 obtain ⟨⟨⟨c0, c1⟩, c2, c3⟩, ⟨c4, c5⟩, ⟨d0, d1⟩, ⟨d2, d3⟩, d4, d5⟩ := HC.out u HB
 simp only [Nat.add_zero] at c0 d0
 go_region_held3 (fun w' => (w'.cell? ⟨g, o, none⟩ = some (.bool bb0)) ∧ (w'.cell? ⟨g, o + 1, none⟩ = some (.slice A0 nn0 q0)) ∧ (w'.cell? ⟨g, o + 2, none⟩ = some (.bool bb1)) ∧ (w'.cell? ⟨g, o + 3, none⟩ = some (.slice A1 nn1 q1)) ∧ (w'.cell? ⟨g, o + 4, none⟩ = some (.bool bb2)) ∧ (w'.cell? ⟨g, o + 5, none⟩ = some (.slice A2 nn2 q2)) ∧ (w'.cell? ⟨g', o', none⟩ = some (.bool bc0)) ∧ (w'.cell? ⟨g', o' + 1, none⟩ = some (.slice B0 mm0 r0)) ∧ (w'.cell? ⟨g', o' + 2, none⟩ = some (.bool bc1)) ∧ (w'.cell? ⟨g', o' + 3, none⟩ = some (.slice B1 mm1 r1)) ∧ (w'.cell? ⟨g', o' + 4, none⟩ = some (.bool bc2)) ∧ (w'.cell? ⟨g', o' + 5, none⟩ = some (.slice B2 mm2 r2))) (first | ((try dsimp only); repeat' (first | with_reducible assumption | apply And.intro | (with_reducible refine Kk ?_) | (with_reducible refine Kn ?_) | (with_reducible refine Kh (by first | omega | (simp only [World.size_alloc, World.size_setCell, World.size_drew]; done) | (simp only [World.size_alloc, World.size_setCell, World.size_drew]; omega)) ?_) | (with_reducible refine Ka (W := u) ?_ ?_) | fail))) (first | (go_at_call 110; (with_reducible refine (H1.out _ (Kb HB BG)).mono ?_); rintro e y1 ⟨R1, c1', rfl, m1, hq_⟩; have qy1 : Below u.heap.size u y1 := Kb BG hq_) | (go_at_call 110; (with_reducible refine (H2.out _ (Kb HB BG)).mono ?_); rintro e y2 ⟨R2, c2', rfl, m2, hq_⟩; have qy2 : Below u.heap.size u y2 := Kb BG hq_) | (go_at_call 111; (with_reducible refine (H4.out _ _ _ _ _ (m1.below BG) (m2.below BG)).mono ?_); rintro e y4 ⟨R4, c4', rfl, m4, hq_⟩; have qy4 : Below u.heap.size u y4 := Kb BG hq_) | (go_at_call 110; (with_reducible refine (H3.out _ (Kb HB BG)).mono ?_); rintro e y3 ⟨R3, c3', rfl, m3, hq_⟩; have qy3 : Below u.heap.size u y3 := Kb BG hq_) | (go_at_call 111; (with_reducible refine (H5.out _ _ _ _ _ (m4.below BG) (m3.below BG)).mono ?_); rintro e y5 ⟨R5, c5', rfl, m5, hq_⟩; have qy5 : Below u.heap.size u y5 := Kb BG hq_; have s0 := Ka qy5 s0; have s1 := Ka qy5 s1; have z3 := z3.below qy5; have f_z3 := z3.fr))
 all_goals
  replace HB := Kb HB qy5
  go_wp2
  refine bodyPost_ret (v := .agg #[.bool bz, .slice R5 nz c5']) ?_ rfl ?_
  ·simp [results, Tryz.results72, go_sem, s0, s1]
  ·obtain ⟨j1_, j2_⟩ := Z1 m5 HB (by omega) s0 s1 (.bool bz) (.slice R5 nz c5')
   exact ⟨R5, c5', rfl, j1_, j2_⟩
set_option maxRecDepth 100000 in
set_option maxHeartbeats 2000000 in
theorem Hwhole_g {z : Int} {b : Bool} {n c : Nat} {xs : List Nat} {A : Option Addr} {w : World} (hz : Iz z b n xs) (ma : Mg w A c xs) {b1 : Bool} {n1 : Nat} {L1 : List Nat} (I1 : Iz 1 b1 n1 L1) :
  Calls Tryz.prog 106 #[.agg #[.bool b, .slice A n c]] w (fun e w' => ∃ B d, e = .returned (.agg #[.bool b, .slice A n c, .bool b1, .slice B n1 d]) ∧ Mg w' A c xs ∧ Mg w' B d L1 ∧ Below w.heap.size w w') := by
 have H1 := hid fun (w1 : World) => Q7 (w := w1) I1 (by omega) (by omega)
 have HM := hid fun (w1 : World) (h : Below w.heap.size w w1) => ma.below h
 clear hz ma I1
 go_enter Tryz.func106, Tryz.ntmps106
 go_wp2_with fail
 refine Hm (P := fun u => Code.wp _ _ _ _ u) ?_
 intro u HB q0 q1 r0 r1 r2 r3 z1 z2 hsz
 clear hsz
 have f_z1 := z1.fr
 have f_z2 := z2.fr
 have lt_q0 := Kd q0
 have lt_r0 := Kd r0
 go_region_held3 (fun w' => w'.cell? ⟨w.heap.size, 0, none⟩ = some (.bool b) ∧ w'.cell? ⟨w.heap.size, 1, none⟩ = some (.slice A n c)) (first | ((try dsimp only); repeat' (first | with_reducible assumption | apply And.intro | (with_reducible refine Kk ?_) | (with_reducible refine Kn ?_) | (with_reducible refine Kh (by first | omega | (simp only [World.size_alloc, World.size_setCell, World.size_drew]; done) | (simp only [World.size_alloc, World.size_setCell, World.size_drew]; omega)) ?_) | (with_reducible refine Ka (W := u) ?_ ?_) | fail))) ((go_at_call 75; (with_reducible refine (H1.out _).mono ?_); rintro e y1 ⟨R1, c1, rfl, m1, hq_⟩; have qy1 : Below u.heap.size u y1 := Kb BG hq_; have r0 := Ka qy1 r0; have r1 := Ka qy1 r1; have r2 := Ka qy1 r2; have r3 := Ka qy1 r3; have z2 := z2.below qy1; have f_z2 := z2.fr))
 all_goals
  replace HB := Kb HB qy1
  have m0 := HM.out _ HB
  go_wp2
  refine bodyPost_ret (v := .agg #[.bool b, .slice A n c, .bool b1, .slice R1 n1 c1]) ?_ rfl ?_
  ·simp [results, Tryz.results106, go_sem, r0, r1, r2, r3]
  ·obtain ⟨j1_, j2_, j3_⟩ := Zc m0 m1 HB (by omega) r0 r1 r2 r3 (.bool b) (.slice A n c) (.bool b1) (.slice R1 n1 c1)
   exact ⟨R1, c1, rfl, j1_, j2_, j3_⟩
end Go.Proofs.YtdkgbkbbbldliaaGreat
