/- Geometry: the law Lines. Conditions: none. -/
import Derived.Test.YtglailcfgcdagaaZXL
set_option linter.unusedVariables false
set_option linter.unusedSimpArgs false
namespace Go.Proofs.Ytglailcfgcdagaa
open Go.RowKit Big
/-- the products on a line -/
theorem line_nums {a b : Int × Int} {A B C : Int} (h : LnF a b A B C) : ∃ m1 m2 m3 m4 : Int, A * a.1 = m1 ∧ B * a.2 = m2 ∧ m1 + m2 = C ∧ A * b.1 = m3 ∧ B * b.2 = m4 ∧ m3 + m4 = C ∧
  IntKind.i64.wrap m1 = m1 ∧ IntKind.i64.wrap m2 = m2 ∧ IntKind.i64.wrap m3 = m3 ∧ IntKind.i64.wrap m4 = m4 ∧ IntKind.i64.wrap C = C ∧ i64B A ∧ i64B B ∧ i64B C := by
 have ia := inP_iff.1 h.ia
 have ib := inP_iff.1 h.ib
 have q1 := mul_box (k := 33554432) (l := 16777216) h.bA (show -16777216 ≤ a.1 ∧ a.1 ≤ 16777216 by omega)
 have q2 := mul_box (k := 33554432) (l := 16777216) h.bB (show -16777216 ≤ a.2 ∧ a.2 ≤ 16777216 by omega)
 have q3 := mul_box (k := 33554432) (l := 16777216) h.bA (show -16777216 ≤ b.1 ∧ b.1 ≤ 16777216 by omega)
 have q4 := mul_box (k := 33554432) (l := 16777216) h.bB (show -16777216 ≤ b.2 ∧ b.2 ≤ 16777216 by omega)
 have o1 := h.on1
 have o2 := h.on2
 have bA := h.bA
 have bB := h.bB
 refine ⟨_, _, _, _, rfl, rfl, o1, rfl, rfl, o2, ?_⟩
 generalize A * a.1 = m1 at *
 generalize B * a.2 = m2 at *
 generalize A * b.1 = m3 at *
 generalize B * b.2 = m4 at *
 unfold i64B
 simp only [IntKind.wrap_i64]
 omega
/-- what Meet answers at two lines of the law -/
theorem meet_lines {a b c d : Int × Int} {A1 B1 C1 A2 B2 C2 : Int} (h : LnF a b A1 B1 C1) (h' : LnF c d A2 B2 C2) :
  (A1 * B2 = B1 * A2 ∧ meetL (A1, B1, C1) (A2, B2, C2) = ([0, ((0 : Nat) : Int), 0, ((0 : Nat) : Int)], 24)) ∨
  (∃ X Y P Q P' Q' : Int × Nat, meetL (A1, B1, C1) (A2, B2, C2) = ([X.1, (X.2 : Int), Y.1, (Y.2 : Int)], 0) ∧ Vf X ∧ Vf Y ∧ Vf P ∧ Vf Q ∧ Vf P' ∧ Vf Q' ∧ mulE (A1, 1) X = (P, 0) ∧ mulE (B1, 1) Y = (Q, 0) ∧ addE P Q = ((C1, 1), 0) ∧
   mulE (A2, 1) X = (P', 0) ∧ mulE (B2, 1) Y = (Q', 0) ∧ addE P' Q' = ((C2, 1), 0)) := by
 obtain ⟨_, _, _, _, _, _, _, _, _, _, _, _, _, _, _, a1, a2, a3⟩ := line_nums h
 obtain ⟨_, _, _, _, _, _, _, _, _, _, _, _, _, _, _, b1, b2, b3⟩ := line_nums h'
 have n1 := h.norm
 have n2 := h'.norm
 have hc : ¬((A1 = 0 ∧ B1 = 0) ∨ (A2 = 0 ∧ B2 = 0)) := by omega
 unfold meetL
 dsimp only
 rw [if_neg hc]
 by_cases hD : mD (A1, B1, C1) (A2, B2, C2) = 0
 ·left
  rw [if_pos hD]
  refine ⟨?_, rfl⟩
  unfold mD at hD
  dsimp only at hD
  omega
 ·right
  rw [if_neg hD]
  have zD : Bz 1024 (mD (A1, B1, C1) (A2, B2, C2)) := det_bz a1 b2 a2 b1
  have zx : Bz 1024 (mX (A1, B1, C1) (A2, B2, C2)) := det_bz a3 b2 a2 b3
  have zy : Bz 1024 (mY (A1, B1, C1) (A2, B2, C2)) := det_bz a1 b3 a3 b1
  obtain ⟨P, Q, v1, v2, v3, v4, e1, e2, e3⟩ := on_facts (C := C1) a1 a2 zD zx zy hD (by unfold mX mY mD; dsimp only; grind)
  obtain ⟨P', Q', _, _, v5, v6, e4, e5, e6⟩ := on_facts (C := C2) b1 b2 zD zx zy hD (by unfold mX mY mD; dsimp only; grind)
  exact ⟨_, _, P, Q, P', Q', rfl, v1, v2, v3, v4, v5, v6, e1, e2, e3, e4, e5, e6⟩
theorem prod_64 {x y : Int} (hx : -33554432 ≤ x ∧ x ≤ 33554432) (hy : -33554432 ≤ y ∧ y ≤ 33554432) : IntKind.i64.wrap (x * y) = x * y := by
 have := mul_box (k := 33554432) (l := 33554432) hx hy
 generalize x * y = z at *
 rw [IntKind.wrap_i64]; omega
set_option maxRecDepth 100000 in
set_option maxHeartbeats 8000000 in
theorem Lines_law (a0 a1 b0 b1 : Int × Int) (w : World) : Calls Try.prog 6 #[.agg #[.int .i64 a0.1, .int .i64 a0.2, .int .i64 a1.1, .int .i64 a1.2], .agg #[.int .i64 b0.1, .int .i64 b0.2, .int .i64 b1.1, .int .i64 b1.2]] w (RetB w true) := by
 obtain ⟨⟨⟨A1, B1, C1⟩, e1⟩, hT1⟩ : ∃ E, thrE a0 a1 = E := ⟨_, rfl⟩
 obtain ⟨⟨⟨A2, B2, C2⟩, e2⟩, hT2⟩ : ∃ E, thrE b0 b1 = E := ⟨_, rfl⟩
 have H0 := hid fun (W : World) => alive_ok W
 have H1 := hid fun (W : World) => (show Calls Try.prog 12 #[.agg #[.int .i64 a0.1, .int .i64 a0.2], .agg #[.int .i64 a1.1, .int .i64 a1.2]] W (RetLE W ((A1, B1, C1), e1)) from by rw [← hT1]; exact GThrough_g a0 a1 W)
 have H2 := hid fun (W : World) => (show Calls Try.prog 12 #[.agg #[.int .i64 b0.1, .int .i64 b0.2], .agg #[.int .i64 b1.1, .int .i64 b1.2]] W (RetLE W ((A2, B2, C2), e2)) from by rw [← hT2]; exact GThrough_g b0 b1 W)
 have L1 := hid fun (h : e1 = 0) => thr_facts hT1 h
 have L2 := hid fun (h : e2 = 0) => thr_facts hT2 h
 clear hT1 hT2
 obtain ⟨x0, y0⟩ := a0
 obtain ⟨x1, y1⟩ := a1
 obtain ⟨x2, y2⟩ := b0
 obtain ⟨x3, y3⟩ := b1
 dsimp only at H1 H2 ⊢
 go_enter Try.func6, Try.ntmps6
 go_upto_region 1 with fail
 refine enterR2 (P := fun u => Code.wp _ _ _ _ u) (c0 := [.int .i64 x0, .int .i64 y0, .int .i64 x1, .int .i64 y1]) (c1 := [.int .i64 x2, .int .i64 y2, .int .i64 x3, .int .i64 y3]) ?_
 intro u HB r0 r1 zn0 zn1 hsz
 have p0 := r0 0 _ rfl
 have p1 := r0 1 _ rfl
 have p2 := r0 2 _ rfl
 have p3 := r0 3 _ rfl
 have q0 := r1 0 _ rfl
 have q1 := r1 1 _ rfl
 have q2 := r1 2 _ rfl
 have q3 := r1 3 _ rfl
 simp only [Nat.zero_add] at p0 p1 p2 p3 q0 q1 q2 q3
 clear r0 r1 zn0 zn1 hsz
 go_wp2_with fail
 refine (H1.out _).mono ?_
 rintro e w1 ⟨rfl, hv⟩
 dsimp only
 replace HB := bel_step HB hv
 have p0 := keep_cell hv p0
 have p1 := keep_cell hv p1
 have p2 := keep_cell hv p2
 have p3 := keep_cell hv p3
 have q0 := keep_cell hv q0
 have q1 := keep_cell hv q1
 have q2 := keep_cell hv q2
 have q3 := keep_cell hv q3
 clear hv H1
 go_upto_region 2 with fail
 refine enterR (P := fun u => Code.wp _ _ _ _ u) (c := [.int .i64 A1, .int .i64 B1, .int .i64 C1]) ?_
 intro v1 hv r1 zn hsz
 replace HB := bel_step HB hv
 have p0 := keep_cell hv p0
 have p1 := keep_cell hv p1
 have p2 := keep_cell hv p2
 have p3 := keep_cell hv p3
 have q0 := keep_cell hv q0
 have q1 := keep_cell hv q1
 have q2 := keep_cell hv q2
 have q3 := keep_cell hv q3
 have s0 := r1 0 _ rfl
 have s1 := r1 1 _ rfl
 have s2 := r1 2 _ rfl
 simp only [Nat.zero_add] at s0 s1 s2
 clear hv r1 zn hsz
 generalize w1.heap.size = g1 at *
 go_wp2_with fail
 refine (H2.out _).mono ?_
 rintro e w2 ⟨rfl, hv⟩
 dsimp only
 replace HB := bel_step HB hv
 have p0 := keep_cell hv p0
 have p1 := keep_cell hv p1
 have p2 := keep_cell hv p2
 have p3 := keep_cell hv p3
 have q0 := keep_cell hv q0
 have q1 := keep_cell hv q1
 have q2 := keep_cell hv q2
 have q3 := keep_cell hv q3
 have s0 := keep_cell hv s0
 have s1 := keep_cell hv s1
 have s2 := keep_cell hv s2
 clear hv H2
 go_upto_region 3 with fail
 refine enterR (P := fun u => Code.wp _ _ _ _ u) (c := [.int .i64 A2, .int .i64 B2, .int .i64 C2]) ?_
 intro v2 hv r1 zn hsz
 replace HB := bel_step HB hv
 have p0 := keep_cell hv p0
 have p1 := keep_cell hv p1
 have p2 := keep_cell hv p2
 have p3 := keep_cell hv p3
 have q0 := keep_cell hv q0
 have q1 := keep_cell hv q1
 have q2 := keep_cell hv q2
 have q3 := keep_cell hv q3
 have s0 := keep_cell hv s0
 have s1 := keep_cell hv s1
 have s2 := keep_cell hv s2
 have t0 := r1 0 _ rfl
 have t1 := r1 1 _ rfl
 have t2 := r1 2 _ rfl
 simp only [Nat.zero_add] at t0 t1 t2
 clear hv r1 zn hsz
 generalize w2.heap.size = g2 at *
 by_cases he1 : e1 = 0
 ·by_cases he2 : e2 = 0
  ·have F1 := L1.out he1
   have F2 := L2.out he2
   subst he1 he2
   clear L1 L2
   have hML := hid (meet_lines F1 F2)
   have n1 := hid F1.norm
   have n2 := hid F2.norm
   have hpr := hid (And.intro (prod_64 F1.bA F2.bB) (prod_64 F1.bB F2.bA))
   obtain ⟨m1, m2, m3, m4, f1, f2, f3, f4, f5, f6, k1, k2, k3, k4, k5, i1, i2, i3⟩ := line_nums F1
   obtain ⟨m5, m6, m7, m8, f7, f8, f9, f10, f11, f12, k6, k7, k8, k9, k10, i4, i5, i6⟩ := line_nums F2
   have hI := hid (And.intro (And.intro i1 (And.intro i2 i3)) (And.intro i4 (And.intro i5 i6)))
   dsimp only at f1 f2 f4 f5 f7 f8 f10 f11
   clear F1 F2 i1 i2 i3 i4 i5 i6
   obtain ⟨g0, hg0⟩ : ∃ g, g = v2 := ⟨_, rfl⟩
   subst hg0
   go_wp2
   go_loopw [35, 9] (fun s35 s9 wr => ∃ i : Nat, s35 = .int .i64 i ∧ i ≤ 2 ∧ Below g0.heap.size g0 wr) (fun s35 _ _ => 2 - (intOf s35).toNat)
   case atStart => exact ⟨0, rfl, by omega, Below.refl _ _⟩
   case round =>
    obtain ⟨i, rfl, hi, hb⟩ := hrel
    rcases (show i = 0 ∨ i = 1 ∨ i = 2 by omega) with rfl | rfl | rfl
    ·replace HB := bel_step HB hb
     have p0 := keep_cell hb p0
     have p1 := keep_cell hb p1
     have p2 := keep_cell hb p2
     have p3 := keep_cell hb p3
     have q0 := keep_cell hb q0
     have q1 := keep_cell hb q1
     have q2 := keep_cell hb q2
     have q3 := keep_cell hb q3
     have s0 := keep_cell hb s0
     have s1 := keep_cell hb s1
     have s2 := keep_cell hb s2
     have t0 := keep_cell hb t0
     have t1 := keep_cell hb t1
     have t2 := keep_cell hb t2
     clear f4 f5 f6 f10 f11 f12
     go_wp2_with fail
     go_quiet (fail)
     have hv : Below wr.heap.size wr (wr.drewN nq) := below_drewN (Below.refl _ _) _
     generalize hvq : wr.drewN nq = v3 at hv ⊢
     clear hvq
     have hb3 := bel_step hb hv
     go_wp2
     go_roundw
     case rel => exact ⟨1, by go_num, by omega, hb3⟩
     case measure => simp [intOf]
    ·replace HB := bel_step HB hb
     have p0 := keep_cell hb p0
     have p1 := keep_cell hb p1
     have p2 := keep_cell hb p2
     have p3 := keep_cell hb p3
     have q0 := keep_cell hb q0
     have q1 := keep_cell hb q1
     have q2 := keep_cell hb q2
     have q3 := keep_cell hb q3
     have s0 := keep_cell hb s0
     have s1 := keep_cell hb s1
     have s2 := keep_cell hb s2
     have t0 := keep_cell hb t0
     have t1 := keep_cell hb t1
     have t2 := keep_cell hb t2
     clear f1 f2 f3 f7 f8 f9
     go_wp2_with fail
     go_quiet (fail)
     have hv : Below wr.heap.size wr (wr.drewN nq) := below_drewN (Below.refl _ _) _
     generalize hvq : wr.drewN nq = v3 at hv ⊢
     clear hvq
     have hb3 := bel_step hb hv
     go_wp2
     go_roundw
     case rel => exact ⟨2, by go_num, by omega, hb3⟩
     case measure => simp [intOf]
    ·replace HB := bel_step HB hb
     have p0 := keep_cell hb p0
     have p1 := keep_cell hb p1
     have p2 := keep_cell hb p2
     have p3 := keep_cell hb p3
     have q0 := keep_cell hb q0
     have q1 := keep_cell hb q1
     have q2 := keep_cell hb q2
     have q3 := keep_cell hb q3
     have s0 := keep_cell hb s0
     have s1 := keep_cell hb s1
     have s2 := keep_cell hb s2
     have t0 := keep_cell hb t0
     have t1 := keep_cell hb t1
     have t2 := keep_cell hb t2
     clear f1 f2 f3 f7 f8 f9 f4 f5 f6 f10 f11 f12 k1 k2 k3 k4 k5 k6 k7 k8 k9 k10 p0 p1 p2 p3 q0 q1 q2 q3 m1 m2 m3 m4 m5 m6 m7 m8
     go_upto_region 11 with fail
     go_cut [104] (fun s wx => s = .bool false ∧ wx = wr)
     case first =>
      rcases n1.out with h1 | ⟨h1, h1'⟩
      ·have j1 : decide (A1 < 0) = false := decide_eq_false (by omega)
       have j2 : (A1 == 0) = false := beq_eq_false_iff_ne.2 (by omega)
       rcases n2.out with h2 | ⟨h2, h2'⟩
       ·have j3 : decide (A2 < 0) = false := decide_eq_false (by omega)
        have j4 : (A2 == 0) = false := beq_eq_false_iff_ne.2 (by omega)
        go_wp2_with fail
        go_meet
        exact ⟨rfl, rfl⟩
       ·subst h2 h2'
        go_wp2_with fail
        go_meet
        exact ⟨rfl, rfl⟩
      ·subst h1 h1'
       rcases n2.out with h2 | ⟨h2, h2'⟩
       ·have j3 : decide (A2 < 0) = false := decide_eq_false (by omega)
        have j4 : (A2 == 0) = false := beq_eq_false_iff_ne.2 (by omega)
        go_wp2_with fail
        go_meet
        exact ⟨rfl, rfl⟩
       ·subst h2 h2'
        go_wp2_with fail
        go_meet
        exact ⟨rfl, rfl⟩
     case rest =>
      obtain ⟨rfl, rfl⟩ := hcut
      rcases hML.out with ⟨hq, hE⟩ | ⟨X, Y, P, Q, P', Q', hE, v1, v2, v3, v4, v5, v6, c1, c2, c3, c4, c5, c6⟩
      ·have HM := hid fun (W : World) => (GMeet_g (A1, B1, C1) (A2, B2, C2) hI.out.1 hI.out.2 W).mono fun e w' h => by rw [hE] at h; exact h.fp
       dsimp only at HM
       obtain ⟨z1, hz1⟩ : ∃ z, A1 * B2 = z := ⟨_, rfl⟩
       have hz2 : B1 * A2 = z1 := by rw [← hq, hz1]
       have hzw : IntKind.i64.wrap z1 = z1 := by rw [← hz1]; exact hpr.out.1
       clear hML hq hE hI hpr n1 n2
       go_wp2_with fail
       refine (HM.out _).mono ?_
       rintro e w3 ⟨d1, k1, D1, u1, l1, E1, o1, d2, k2, D2, u2, l2, E2, o2, rfl, hV, hv⟩
       replace HB := bel_step HB hv
       have s0 := keep_cell hv s0
       have s1 := keep_cell hv s1
       have s2 := keep_cell hv s2
       have t0 := keep_cell hv t0
       have t1 := keep_cell hv t1
       have t2 := keep_cell hv t2
       clear hv HM
       go_upto_region 14 with fail
       refine enterR (P := fun u => Code.wp _ _ _ _ u) (c := [.bool d1, .slice D1 k1 u1, .bool false, .slice E1 l1 o1, .bool d2, .slice D2 k2 u2, .bool false, .slice E2 l2 o2]) ?_
       intro v3 hv r1 zn hsz
       have y0' := r1 0 _ rfl
       have y1' := r1 1 _ rfl
       have y2' := r1 2 _ rfl
       have y3' := r1 3 _ rfl
       have y4' := r1 4 _ rfl
       have y5' := r1 5 _ rfl
       have y6' := r1 6 _ rfl
       have y7' := r1 7 _ rfl
       simp only [Nat.zero_add] at y0' y1' y2' y3' y4' y5' y6' y7'
       replace HB := bel_step HB hv
       have s0 := keep_cell hv s0
       have s1 := keep_cell hv s1
       have s2 := keep_cell hv s2
       have t0 := keep_cell hv t0
       have t1 := keep_cell hv t1
       have t2 := keep_cell hv t2
       replace hV := hV.below hv
       clear hv r1 zn hsz
       generalize w3.heap.size = g3 at *
       clear hV
       go_wp2_with fail
       refine (H0.out _).mono ?_
       rintro e w4 ⟨rfl, hv⟩
       replace HB := bel_step HB hv
       clear hv
       go_wp2
       go_ret
       exact ⟨rfl, HB⟩
      ·have HM := hid fun (W : World) => (GMeet_g (A1, B1, C1) (A2, B2, C2) hI.out.1 hI.out.2 W).mono fun e w' h => by rw [hE] at h; exact h.fp
       have ON1 := hid fun (W : World) (b1 b2 : Bool) (k1 c1 l1 e1 k2 c2' l2 e2 : Nat) (A1' B1' A2' B2' : Option Addr) (hX : FvX W X b1 k1 A1' c1 l1 B1' e1) (hY : FvX W Y b2 k2 A2' c2' l2 B2' e2) => on_g hI.out.1.1 hI.out.1.2.1 hI.out.1.2.2 v1 v2 v3 v4 (by assumption) (by assumption) (by assumption) hX hY
       have ON2 := hid fun (W : World) (b1 b2 : Bool) (k1 c1 l1 e1 k2 c2' l2 e2 : Nat) (A1' B1' A2' B2' : Option Addr) (hX : FvX W X b1 k1 A1' c1 l1 B1' e1) (hY : FvX W Y b2 k2 A2' c2' l2 B2' e2) => on_g hI.out.2.1 hI.out.2.2.1 hI.out.2.2.2 v1 v2 v5 v6 (by assumption) (by assumption) (by assumption) hX hY
       dsimp only at HM ON1 ON2
       clear hML hE hI hpr n1 n2 v1 v2 v3 v4 v5 v6 c1 c2 c3 c4 c5 c6
       go_wp2_with fail
       refine (HM.out _).mono ?_
       rintro e w3 ⟨d1, k1, D1, u1, l1, E1, o1, d2, k2, D2, u2, l2, E2, o2, rfl, hV, hv⟩
       replace HB := bel_step HB hv
       have s0 := keep_cell hv s0
       have s1 := keep_cell hv s1
       have s2 := keep_cell hv s2
       have t0 := keep_cell hv t0
       have t1 := keep_cell hv t1
       have t2 := keep_cell hv t2
       clear hv HM
       go_upto_region 14 with fail
       refine enterR (P := fun u => Code.wp _ _ _ _ u) (c := [.bool d1, .slice D1 k1 u1, .bool false, .slice E1 l1 o1, .bool d2, .slice D2 k2 u2, .bool false, .slice E2 l2 o2]) ?_
       intro v3 hv r1 zn hsz
       have y0' := r1 0 _ rfl
       have y1' := r1 1 _ rfl
       have y2' := r1 2 _ rfl
       have y3' := r1 3 _ rfl
       have y4' := r1 4 _ rfl
       have y5' := r1 5 _ rfl
       have y6' := r1 6 _ rfl
       have y7' := r1 7 _ rfl
       simp only [Nat.zero_add] at y0' y1' y2' y3' y4' y5' y6' y7'
       replace HB := bel_step HB hv
       have s0 := keep_cell hv s0
       have s1 := keep_cell hv s1
       have s2 := keep_cell hv s2
       have t0 := keep_cell hv t0
       have t1 := keep_cell hv t1
       have t2 := keep_cell hv t2
       replace hV := hV.below hv
       clear hv r1 zn hsz
       generalize w3.heap.size = g3 at *
       obtain ⟨xs, ys, us, vs, z1, z2, mm1, mm2, mm3, mm4⟩ := hV.ex
       have O1 := hid (ON1.out _ _ _ _ _ _ _ _ _ _ _ _ _ _ _ ⟨xs, ys, z1, mm1, mm2⟩ ⟨us, vs, z2, mm3, mm4⟩)
       have O2 := hid fun (W : World) (hb : Below v3.heap.size v3 W) => ON2.out _ _ _ _ _ _ _ _ _ _ _ _ _ _ _ ⟨xs, ys, z1, mm1.below hb, mm2.below hb⟩ ⟨us, vs, z2, mm3.below hb, mm4.below hb⟩
       clear ON1 ON2 z1 z2 mm1 mm2 mm3 mm4 hV
       go_wp2_with fail
       refine (O1.out).mono ?_
       rintro e w4 ⟨rfl, hv⟩
       replace HB := bel_step HB hv
       have t0 := keep_cell hv t0
       have t1 := keep_cell hv t1
       have t2 := keep_cell hv t2
       have y0' := keep_cell hv y0'
       have y1' := keep_cell hv y1'
       have y2' := keep_cell hv y2'
       have y3' := keep_cell hv y3'
       have y4' := keep_cell hv y4'
       have y5' := keep_cell hv y5'
       have y6' := keep_cell hv y6'
       have y7' := keep_cell hv y7'
       have hv4 := hv
       clear hv
       go_wp2_with fail
       refine (O2.out _ hv4).mono ?_
       rintro e w5 ⟨rfl, hv⟩
       replace HB := bel_step HB hv
       clear hv
       go_wp2_with fail
       refine (H0.out _).mono ?_
       rintro e w6 ⟨rfl, hv⟩
       replace HB := bel_step HB hv
       clear hv
       go_wp2
       go_ret
       exact ⟨rfl, HB⟩
  ·clear L1 L2
   have he2b : ¬ e2 = 0 := he2
   subst he1
   go_wp2_with fail
   refine (H0.out _).mono ?_
   rintro e w3 ⟨rfl, hv⟩
   replace HB := bel_step HB hv
   clear hv
   go_wp2
   go_ret
   exact ⟨rfl, HB⟩
 ·clear L1 L2
  have he1b : (e1 != 0) = true := by simpa using he1
  go_wp2_with fail
  refine (H0.out _).mono ?_
  rintro e w3 ⟨rfl, hv⟩
  replace HB := bel_step HB hv
  clear hv
  go_wp2
  go_ret
  exact ⟨rfl, HB⟩
end Go.Proofs.Ytglailcfgcdagaa
