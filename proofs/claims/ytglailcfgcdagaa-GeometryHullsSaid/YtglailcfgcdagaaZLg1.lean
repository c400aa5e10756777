/- Geometry: the laws Hulls and Points. Conditions: none. -/
import Derived.Test.YtglailcfgcdagaaZGa1
import Derived.Test.YtglailcfgcdagaaZGo2
import Derived.Test.YtglailcfgcdagaaZGC
set_option linter.unusedVariables false
set_option linter.unusedSimpArgs false
namespace Go.Proofs.Ytglailcfgcdagaa
open Go.RowKit Big
set_option maxRecDepth 100000 in
set_option maxHeartbeats 4000000 in
theorem Hulls_law (l : List (Int × Int)) (A : Option Addr) (c : Nat) {w : World} (hl : Pb w A c l) : Calls Try.prog 5 #[.slice A l.length c] w (RetB w true) := by
 obtain ⟨n, hn⟩ : ∃ n, l.length = n := ⟨_, rfl⟩
 obtain ⟨⟨L, e1⟩, hE⟩ : ∃ E, hullE l = E := ⟨_, rfl⟩
 obtain ⟨⟨s, e2⟩, hS⟩ : ∃ E, areaE l = E := ⟨_, rfl⟩
 have H0 := hid fun (W : World) => alive_ok W
 have H1 := hid fun (W : World) (hb : Below w.heap.size w W) => (show Calls Try.prog 20 #[.slice A n c] W (RetRE W (L, e1)) from by rw [← hn, ← hE]; exact GHull_g l A c (hl.below hb))
 have H2 := hid fun (W : World) (hb : Below w.heap.size w W) => (show Calls Try.prog 21 #[.slice A n c] W (RetRE W (L, e1)) from by rw [← hn, ← hE]; exact RHull_g l A c (hl.below hb))
 have H3 := hid fun (W : World) (hb : Below w.heap.size w W) => (show Calls Try.prog 22 #[.slice A n c] W (RetII W (s, e2)) from by rw [← hn, ← hS]; exact GArea2_g l A c (hl.below hb))
 have H4 := hid fun (W : World) (hb : Below w.heap.size w W) => (show Calls Try.prog 23 #[.slice A n c] W (RetII W (s, e2)) from by rw [← hn, ← hS]; exact RArea2_g l A c (hl.below hb))
 have hm := Nat.le_trans hl.cap hl.max
 rw [hn] at hm ⊢
 clear hl hn hE hS
 go_enter Try.func5, Try.ntmps5
 by_cases h80 : 80 < n
 ·have h80i : (80 : Int) < (n : Int) := by omega
  clear H1 H2 H3 H4
  go_wp2_with fail
  refine (H0.out _).mono ?_
  rintro e w1 ⟨rfl, hv⟩
  go_wp2
  go_ret
  exact ⟨rfl, hv⟩
 ·have h80i : ¬ (80 : Int) < (n : Int) := by omega
  go_wp2_with fail
  refine (H1.out _ (Below.refl _ _)).mono ?_
  rintro e w1 ⟨v1, rfl, hO1, HB⟩
  obtain ⟨A1, c1, rfl, P1, _⟩ := OwnP.form hO1
  dsimp only at P1 ⊢
  clear hO1 H1
  go_wp2_with fail
  refine (H2.out _ HB).mono ?_
  rintro e w2 ⟨v2, rfl, hO2, hv⟩
  obtain ⟨A2, c2, rfl, P2, _⟩ := OwnP.form hO2
  dsimp only at P2 ⊢
  replace P1 := P1.below hv
  replace HB := bel_step HB hv
  clear hO2 H2 hv
  go_wp2_with fail
  refine (H3.out _ HB).mono ?_
  rintro e w3 ⟨rfl, hv⟩
  dsimp only
  replace P1 := P1.below hv
  replace P2 := P2.below hv
  replace HB := bel_step HB hv
  clear H3 hv
  go_wp2_with fail
  refine (H4.out _ HB).mono ?_
  rintro e w4 ⟨rfl, hv⟩
  dsimp only
  replace P1 := P1.below hv
  replace P2 := P2.below hv
  replace HB := bel_step HB hv
  have H5 := hid (RPoints_g L L A1 A2 c1 c2 P1 P2)
  rw [decide_eq_true rfl] at H5
  clear H4 hv P1 P2
  generalize L.length = k at *
  go_wp2_with fail
  refine H5.out.mono ?_
  rintro e w5 ⟨rfl, hv⟩
  replace HB := bel_step HB hv
  clear H5 hv
  go_wp2_with fail
  refine (H0.out _).mono ?_
  rintro e w6 ⟨rfl, hv⟩
  replace HB := bel_step HB hv
  go_wp2
  go_ret
  exact ⟨rfl, HB⟩
set_option maxRecDepth 100000 in
set_option maxHeartbeats 4000000 in
theorem Points_law (a b c : Int × Int) (w : World) : Calls Try.prog 3 #[.agg #[.int .i64 a.1, .int .i64 a.2], .agg #[.int .i64 b.1, .int .i64 b.2], .agg #[.int .i64 c.1, .int .i64 c.2]] w (RetB w true) := by
 obtain ⟨⟨n, e1⟩, hC⟩ : ∃ E, crsE a b c = E := ⟨_, rfl⟩
 obtain ⟨⟨⟨t0, t1, t2⟩, e2⟩, hT⟩ : ∃ E, thrE a b = E := ⟨_, rfl⟩
 obtain ⟨⟨⟨⟨o0, o1⟩, ⟨o2, o3⟩, ⟨o4, o5⟩⟩, e3⟩, hO⟩ : ∃ E, ordE a b c = E := ⟨_, rfl⟩
 have H0 := hid fun (W : World) => alive_ok W
 have H1 := hid fun (W : World) => (show Calls Try.prog 10 #[.agg #[.int .i64 a.1, .int .i64 a.2], .agg #[.int .i64 b.1, .int .i64 b.2], .agg #[.int .i64 c.1, .int .i64 c.2]] W (RetII W (n, e1)) from by rw [← hC]; exact GCross_g a b c W)
 have H2 := hid fun (W : World) => (show Calls Try.prog 11 #[.agg #[.int .i64 a.1, .int .i64 a.2], .agg #[.int .i64 b.1, .int .i64 b.2], .agg #[.int .i64 c.1, .int .i64 c.2]] W (RetII W (n, e1)) from by rw [← hC]; exact RCross_g a b c W)
 have H3 := hid fun (W : World) => (show Calls Try.prog 12 #[.agg #[.int .i64 a.1, .int .i64 a.2], .agg #[.int .i64 b.1, .int .i64 b.2]] W (RetLE W ((t0, t1, t2), e2)) from by rw [← hT]; exact GThrough_g a b W)
 have H4 := hid fun (W : World) => (show Calls Try.prog 13 #[.agg #[.int .i64 a.1, .int .i64 a.2], .agg #[.int .i64 b.1, .int .i64 b.2]] W (RetLE W ((t0, t1, t2), e2)) from by rw [← hT]; exact RThrough_g a b W)
 have H5 := hid fun (W : World) => (show Calls Try.prog 14 #[.agg #[.int .i64 a.1, .int .i64 a.2], .agg #[.int .i64 b.1, .int .i64 b.2], .agg #[.int .i64 c.1, .int .i64 c.2]] W (RetOE W (((o0, o1), (o2, o3), (o4, o5)), e3)) from by rw [← hO]; exact GOrder_g a b c W)
 have H6 := hid fun (W : World) => (show Calls Try.prog 15 #[.agg #[.int .i64 a.1, .int .i64 a.2], .agg #[.int .i64 b.1, .int .i64 b.2], .agg #[.int .i64 c.1, .int .i64 c.2]] W (RetOE W (((o0, o1), (o2, o3), (o4, o5)), e3)) from by rw [← hO]; exact ROrder_g a b c W)
 have HEq := fun (W : World) => eqArr o0 o1 o2 o3 o4 o5 o0 o1 o2 o3 o4 o5 W
 simp only [decide_true, Bool.and_self] at HEq
 clear hC hT hO
 obtain ⟨a0, a1⟩ := a
 obtain ⟨b0, b1⟩ := b
 obtain ⟨c0, c1⟩ := c
 dsimp only at H1 H2 H3 H4 H5 H6 ⊢
 go_enter Try.func3, Try.ntmps3
 go_upto_region 1 with fail
 refine enterR3 (P := fun u => Code.wp _ _ _ _ u) (c0 := [.int .i64 a0, .int .i64 a1]) (c1 := [.int .i64 b0, .int .i64 b1]) (c2 := [.int .i64 c0, .int .i64 c1]) ?_
 intro u HB r0 r1 r2 zn0 zn1 zn2 hsz
 have p0 := r0 0 _ rfl
 have p1 := r0 1 _ rfl
 have p2 := r1 0 _ rfl
 have p3 := r1 1 _ rfl
 have p4 := r2 0 _ rfl
 have p5 := r2 1 _ rfl
 simp only [Nat.zero_add] at p0 p1 p2 p3 p4 p5
 clear r0 r1 r2 zn0 zn1 zn2 hsz
 go_wp2_with fail
 refine (H1.out _).mono ?_
 rintro e w1 ⟨rfl, hv⟩
 dsimp only
 have p0 := keep_cell hv p0
 have p1 := keep_cell hv p1
 have p2 := keep_cell hv p2
 have p3 := keep_cell hv p3
 have p4 := keep_cell hv p4
 have p5 := keep_cell hv p5
 replace HB := bel_step HB hv
 clear hv H1
 go_wp2_with fail
 refine (H2.out _).mono ?_
 rintro e w2 ⟨rfl, hv⟩
 dsimp only
 have p0 := keep_cell hv p0
 have p1 := keep_cell hv p1
 have p2 := keep_cell hv p2
 have p3 := keep_cell hv p3
 have p4 := keep_cell hv p4
 have p5 := keep_cell hv p5
 replace HB := bel_step HB hv
 clear hv H2
 go_wp2_with fail
 refine (H3.out _).mono ?_
 rintro e w3 ⟨rfl, hv⟩
 dsimp only
 have p0 := keep_cell hv p0
 have p1 := keep_cell hv p1
 have p2 := keep_cell hv p2
 have p3 := keep_cell hv p3
 have p4 := keep_cell hv p4
 have p5 := keep_cell hv p5
 replace HB := bel_step HB hv
 clear hv H3
 go_upto_region 4 with fail
 refine enterR (P := fun u => Code.wp _ _ _ _ u) (c := [.int .i64 t0, .int .i64 t1, .int .i64 t2]) ?_
 intro v3 hv r1 zn hsz
 have p0 := keep_cell hv p0
 have p1 := keep_cell hv p1
 have p2 := keep_cell hv p2
 have p3 := keep_cell hv p3
 have p4 := keep_cell hv p4
 have p5 := keep_cell hv p5
 replace HB := bel_step HB hv
 have q0 := r1 0 _ rfl
 have q1 := r1 1 _ rfl
 have q2 := r1 2 _ rfl
 simp only [Nat.zero_add] at q0 q1 q2
 clear hv r1 zn hsz
 go_wp2_with fail
 refine (H4.out _).mono ?_
 rintro e w4 ⟨rfl, hv⟩
 dsimp only
 have p0 := keep_cell hv p0
 have p1 := keep_cell hv p1
 have p2 := keep_cell hv p2
 have p3 := keep_cell hv p3
 have p4 := keep_cell hv p4
 have p5 := keep_cell hv p5
 replace HB := bel_step HB hv
 have q0 := keep_cell hv q0
 have q1 := keep_cell hv q1
 have q2 := keep_cell hv q2
 clear hv H4
 go_upto_region 5 with fail
 refine enterR (P := fun u => Code.wp _ _ _ _ u) (c := [.int .i64 t0, .int .i64 t1, .int .i64 t2]) ?_
 intro v4 hv r1 zn hsz
 have p0 := keep_cell hv p0
 have p1 := keep_cell hv p1
 have p2 := keep_cell hv p2
 have p3 := keep_cell hv p3
 have p4 := keep_cell hv p4
 have p5 := keep_cell hv p5
 replace HB := bel_step HB hv
 have y0 := r1 0 _ rfl
 have y1 := r1 1 _ rfl
 have y2 := r1 2 _ rfl
 simp only [Nat.zero_add] at y0 y1 y2
 have q0 := keep_cell hv q0
 have q1 := keep_cell hv q1
 have q2 := keep_cell hv q2
 clear hv r1 zn hsz
 go_wp2_with fail
 refine (H5.out _).mono ?_
 rintro e w5 ⟨rfl, hv⟩
 dsimp only
 have p0 := keep_cell hv p0
 have p1 := keep_cell hv p1
 have p2 := keep_cell hv p2
 have p3 := keep_cell hv p3
 have p4 := keep_cell hv p4
 have p5 := keep_cell hv p5
 replace HB := bel_step HB hv
 have q0 := keep_cell hv q0
 have q1 := keep_cell hv q1
 have q2 := keep_cell hv q2
 have y0 := keep_cell hv y0
 have y1 := keep_cell hv y1
 have y2 := keep_cell hv y2
 clear hv H5
 go_upto_region 6 with fail
 refine enterR (P := fun u => Code.wp _ _ _ _ u) (c := [.int .i64 o0, .int .i64 o1, .int .i64 o2, .int .i64 o3, .int .i64 o4, .int .i64 o5]) ?_
 intro v5 hv s' zn hsz
 have p0 := keep_cell hv p0
 have p1 := keep_cell hv p1
 have p2 := keep_cell hv p2
 have p3 := keep_cell hv p3
 have p4 := keep_cell hv p4
 have p5 := keep_cell hv p5
 replace HB := bel_step HB hv
 have q0 := keep_cell hv q0
 have q1 := keep_cell hv q1
 have q2 := keep_cell hv q2
 have y0 := keep_cell hv y0
 have y1 := keep_cell hv y1
 have y2 := keep_cell hv y2
 have s0 := s' 0 _ rfl
 have s1 := s' 1 _ rfl
 have s2 := s' 2 _ rfl
 have s3 := s' 3 _ rfl
 have s4 := s' 4 _ rfl
 have s5 := s' 5 _ rfl
 simp only [Nat.zero_add] at s0 s1 s2 s3 s4 s5
 clear hv s' zn hsz
 go_wp2_with fail
 refine (H6.out _).mono ?_
 rintro e w6 ⟨rfl, hv⟩
 dsimp only
 have p0 := keep_cell hv p0
 have p1 := keep_cell hv p1
 have p2 := keep_cell hv p2
 have p3 := keep_cell hv p3
 have p4 := keep_cell hv p4
 have p5 := keep_cell hv p5
 replace HB := bel_step HB hv
 have q0 := keep_cell hv q0
 have q1 := keep_cell hv q1
 have q2 := keep_cell hv q2
 have y0 := keep_cell hv y0
 have y1 := keep_cell hv y1
 have y2 := keep_cell hv y2
 have s0 := keep_cell hv s0
 have s1 := keep_cell hv s1
 have s2 := keep_cell hv s2
 have s3 := keep_cell hv s3
 have s4 := keep_cell hv s4
 have s5 := keep_cell hv s5
 clear hv H6 p0 p1 p2 p3 p4 p5
 go_upto_region 7 with fail
 refine enterR (P := fun u => Code.wp _ _ _ _ u) (c := [.int .i64 o0, .int .i64 o1, .int .i64 o2, .int .i64 o3, .int .i64 o4, .int .i64 o5]) ?_
 intro v6 hv s' zn hsz
 replace HB := bel_step HB hv
 have q0 := keep_cell hv q0
 have q1 := keep_cell hv q1
 have q2 := keep_cell hv q2
 have y0 := keep_cell hv y0
 have y1 := keep_cell hv y1
 have y2 := keep_cell hv y2
 have s0 := keep_cell hv s0
 have s1 := keep_cell hv s1
 have s2 := keep_cell hv s2
 have s3 := keep_cell hv s3
 have s4 := keep_cell hv s4
 have s5 := keep_cell hv s5
 have t0' := s' 0 _ rfl
 have t1' := s' 1 _ rfl
 have t2' := s' 2 _ rfl
 have t3' := s' 3 _ rfl
 have t4' := s' 4 _ rfl
 have t5' := s' 5 _ rfl
 simp only [Nat.zero_add] at t0' t1' t2' t3' t4' t5'
 clear hv s' zn hsz
 go_wp2_with fail
 refine (H0.out _).mono ?_
 rintro e w7 ⟨rfl, hv⟩
 replace HB := bel_step HB hv
 go_wp2
 go_ret
 exact ⟨rfl, HB⟩
end Go.Proofs.Ytglailcfgcdagaa
