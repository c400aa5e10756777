/- Homographies, the reference: walk of SameFrac. Conditions: none. -/
import Derived.Test.YtdkgbkbbbldliaaGreatZXB
import Derived.Test.YtdkgbkbbbldliaaGreatZYO
import Derived.Test.YtdkgbkbbbldliaaGreatZYS
set_option linter.unusedVariables false
set_option linter.unusedSimpArgs false
namespace Go.Proofs.YtdkgbkbbbldliaaGreat
open Go.RowKit Big
theorem HSame_z {x y : Int} {b b' : Bool} {n n' : Nat} {L L' : List Nat} {A B : Option Addr} {c d : Nat} {w : World} (hx : Iz x b n L) (hy : Iz y b' n' L') (ma : Mg w A c L) (mb : Mg w B d L') :
  Calls Tryz.prog 81 #[.agg #[.bool b, .slice A n c], .agg #[.bool b', .slice B n' d]] w (RetB w (decide (x = y))) := by
 obtain ⟨rfl, rfl, rfl⟩ := hx
 obtain ⟨rfl, rfl, rfl⟩ := hy
 refine (Same_any _ _ A B c d _ _ w ma mb).mono fun e w' h => ?_
 have e1 : Dz (decide (x < 0)) (decide (y < 0)) (limbs x.natAbs) (limbs y.natAbs) = decide (x = y) := by
  unfold Dz
  rw [Bool.eq_iff_iff]
  simp only [Bool.and_eq_true, beq_iff_eq, decide_eq_true_eq]
  constructor
  ·rintro ⟨h1, h2⟩
   have h3 := limbs_inj h2
   have h4 : x < 0 ↔ y < 0 := by simpa using h1
   omega
  ·rintro rfl
   exact ⟨rfl, rfl⟩
 rwa [e1] at h
set_option maxRecDepth 100000 in
set_option maxHeartbeats 2000000 in
theorem Uj {e0 e1 f0 f1 : ZE} {w : World} (o0 : e0.ok w) (o1 : e1.ok w) (p0 : f0.ok w) (p1 : f1.ok w) :
  Calls Tryz.prog 46 #[.agg (Kc [e0, e1]).toArray, .agg (Kc [f0, f1]).toArray] w (RetB w (decide (e0.z = f0.z) && decide (e1.z = f1.z))) := by
 have H1 := hid fun (W : World) (h : Below w.heap.size w W) => HSame_z (w := W) o0.i p0.i (o0.m.below h) (p0.m.below h)
 have H2 := hid fun (W : World) (h : Below w.heap.size w W) => HSame_z (w := W) o1.i p1.i (o1.m.below h) (p1.m.below h)
 generalize decide (e0.z = f0.z) = t1 at *
 generalize decide (e1.z = f1.z) = t2 at *
 clear o0 o1 p0 p1
 obtain ⟨z0, b0, n0, x0, A0, c0⟩ := e0
 obtain ⟨z1, b1, n1, x1, A1, c1⟩ := e1
 obtain ⟨z2, b2, n2, x2, A2, c2⟩ := f0
 obtain ⟨z3, b3, n3, x3, A3, c3⟩ := f1
 simp only [Kc, ZE.cells, List.cons_append, List.nil_append] at *
 go_enter Tryz.func46, Tryz.ntmps46
 go_wp2_with fail
 refine enterFF (P := fun u => Calls _ _ _ u _) ?_
 intro u HB q0 q1 q2 q3 r0 r1 r2 r3 z1 z2 hsz
 clear hsz
 have f_z1 := z1.fr
 have f_z2 := z2.fr
 have lt_q0 := Kd q0
 have lt_r0 := Kd r0
 cases t1
 ·refine (H1.out u HB).mono ?_
  rintro e w1 ⟨rfl, h1⟩
  go_wp2
  go_ret
  exact ⟨rfl, Kb HB h1⟩
 ·refine (H1.out u HB).mono ?_
  rintro e w1 ⟨rfl, h1⟩
  have q2 := Ka h1 q2
  have q3 := Ka h1 q3
  have r2 := Ka h1 r2
  have r3 := Ka h1 r3
  go_wp2_with fail
  refine (H2.out w1 (Kb HB h1)).mono ?_
  rintro e w2 ⟨rfl, h2⟩
  go_wp2
  go_ret
  exact ⟨by simp, Kb HB (Kb h1 h2)⟩
set_option maxRecDepth 100000 in
set_option maxHeartbeats 2000000 in
theorem Vk {e0 e1 e2 e3 f0 f1 f2 f3 : ZE} {w : World} (o0 : e0.ok w) (o1 : e1.ok w) (o2 : e2.ok w) (o3 : e3.ok w) (p0 : f0.ok w) (p1 : f1.ok w) (p2 : f2.ok w) (p3 : f3.ok w) :
  Calls Tryz.prog 20 #[.agg (Kc [e0, e1, e2, e3]).toArray, .agg (Kc [f0, f1, f2, f3]).toArray] w (RetB w ((decide (e0.z = f0.z) && decide (e1.z = f1.z)) && (decide (e2.z = f2.z) && decide (e3.z = f3.z)))) := by
 have H1 := hid fun (W : World) (h : Below w.heap.size w W) => Uj (w := W) (o0.below h) (o1.below h) (p0.below h) (p1.below h)
 have H2 := hid fun (W : World) (h : Below w.heap.size w W) => Uj (w := W) (o2.below h) (o3.below h) (p2.below h) (p3.below h)
 generalize (decide (e0.z = f0.z) && decide (e1.z = f1.z)) = t1 at *
 generalize (decide (e2.z = f2.z) && decide (e3.z = f3.z)) = t2 at *
 clear o0 o1 o2 o3 p0 p1 p2 p3
 obtain ⟨ze0, be0, ne0, xe0, Ae0, ce0⟩ := e0
 obtain ⟨ze1, be1, ne1, xe1, Ae1, ce1⟩ := e1
 obtain ⟨ze2, be2, ne2, xe2, Ae2, ce2⟩ := e2
 obtain ⟨ze3, be3, ne3, xe3, Ae3, ce3⟩ := e3
 obtain ⟨zf0, bf0, nf0, xf0, Af0, cf0⟩ := f0
 obtain ⟨zf1, bf1, nf1, xf1, Af1, cf1⟩ := f1
 obtain ⟨zf2, bf2, nf2, xf2, Af2, cf2⟩ := f2
 obtain ⟨zf3, bf3, nf3, xf3, Af3, cf3⟩ := f3
 simp only [Kc, ZE.cells, List.cons_append, List.nil_append] at *
 go_enter Tryz.func20, Tryz.ntmps20
 go_upto_region 1 with fail
 refine Jc (P := fun u => Code.wp _ _ _ _ u) ?_
 intro u HB r0 r1 zn0 zn1 hsz
 have s00 : u.cell? ⟨w.heap.size, 0, none⟩ = some (.bool be0) := r0 0 _ rfl
 have s01 : u.cell? ⟨w.heap.size, 1, none⟩ = some (.slice Ae0 ne0 ce0) := r0 1 _ rfl
 have s02 : u.cell? ⟨w.heap.size, 2, none⟩ = some (.bool be1) := r0 2 _ rfl
 have s03 : u.cell? ⟨w.heap.size, 3, none⟩ = some (.slice Ae1 ne1 ce1) := r0 3 _ rfl
 have s04 : u.cell? ⟨w.heap.size, 4, none⟩ = some (.bool be2) := r0 4 _ rfl
 have s05 : u.cell? ⟨w.heap.size, 5, none⟩ = some (.slice Ae2 ne2 ce2) := r0 5 _ rfl
 have s06 : u.cell? ⟨w.heap.size, 6, none⟩ = some (.bool be3) := r0 6 _ rfl
 have s07 : u.cell? ⟨w.heap.size, 7, none⟩ = some (.slice Ae3 ne3 ce3) := r0 7 _ rfl
 have s10 : u.cell? ⟨w.heap.size + 1, 0, none⟩ = some (.bool bf0) := r1 0 _ rfl
 have s11 : u.cell? ⟨w.heap.size + 1, 1, none⟩ = some (.slice Af0 nf0 cf0) := r1 1 _ rfl
 have s12 : u.cell? ⟨w.heap.size + 1, 2, none⟩ = some (.bool bf1) := r1 2 _ rfl
 have s13 : u.cell? ⟨w.heap.size + 1, 3, none⟩ = some (.slice Af1 nf1 cf1) := r1 3 _ rfl
 have s14 : u.cell? ⟨w.heap.size + 1, 4, none⟩ = some (.bool bf2) := r1 4 _ rfl
 have s15 : u.cell? ⟨w.heap.size + 1, 5, none⟩ = some (.slice Af2 nf2 cf2) := r1 5 _ rfl
 have s16 : u.cell? ⟨w.heap.size + 1, 6, none⟩ = some (.bool bf3) := r1 6 _ rfl
 have s17 : u.cell? ⟨w.heap.size + 1, 7, none⟩ = some (.slice Af3 nf3 cf3) := r1 7 _ rfl
 clear r0 r1 zn0 zn1 hsz
 go_wp2_with fail
 cases t1
 ·refine (H1.out u HB).mono ?_
  rintro e w1 ⟨rfl, h1⟩
  go_wp2
  go_ret
  exact ⟨rfl, Kb HB h1⟩
 ·refine (H1.out u HB).mono ?_
  rintro e w1 ⟨rfl, h1⟩
  have s04 := Ka h1 s04
  have s05 := Ka h1 s05
  have s06 := Ka h1 s06
  have s07 := Ka h1 s07
  have s14 := Ka h1 s14
  have s15 := Ka h1 s15
  have s16 := Ka h1 s16
  have s17 := Ka h1 s17
  go_wp2_with fail
  refine (H2.out w1 (Kb HB h1)).mono ?_
  rintro e w2 ⟨rfl, h2⟩
  go_wp2
  go_ret
  exact ⟨by simp, Kb HB (Kb h1 h2)⟩
end Go.Proofs.YtdkgbkbbbldliaaGreat
