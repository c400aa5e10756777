/- Geometry: the law Meets. Conditions: none. -/
import Derived.Test.YtglailcfgcdagaaZGa1
import Derived.Test.YtglailcfgcdagaaZGm4
set_option linter.unusedVariables false
set_option linter.unusedSimpArgs false
namespace Go.Proofs.Ytglailcfgcdagaa
open Go.RowKit Big
theorem meet_nat (a b : Int × Int × Int) : ∃ (n1 n2 e : Int) (d1 d2 : Nat), meetL a b = ([n1, (d1 : Int), n2, (d2 : Int)], e) := by
 unfold meetL
 split
 ·exact ⟨0, 0, 1, 0, 0, rfl⟩
 ·split
  ·exact ⟨0, 0, 24, 0, 0, rfl⟩
  ·exact ⟨_, _, _, _, _, rfl⟩
/-- a point of fractions that came back -/
structure FpV (w : World) (n1 : Int) (d1 : Nat) (n2 : Int) (d2 : Nat) (b1 : Bool) (k1 : Nat) (A1 : Option Addr) (c1 l1 : Nat) (B1 : Option Addr) (e1 : Nat) (b2 : Bool) (k2 : Nat) (A2 : Option Addr) (c2 l2 : Nat) (B2 : Option Addr) (e2 : Nat) : Prop where
 ex : ∃ xs ys us vs, Fz (n1, d1) b1 k1 xs l1 ys ∧ Fz (n2, d2) b2 k2 us l2 vs ∧ Mg w A1 c1 xs ∧ Mg w B1 e1 ys ∧ Mg w A2 c2 us ∧ Mg w B2 e2 vs
theorem FpV.below {w w' : World} {n1 n2 : Int} {d1 d2 : Nat} {b1 b2 : Bool} {k1 c1 l1 e1 k2 c2 l2 e2 : Nat} {A1 B1 A2 B2 : Option Addr} (h : FpV w n1 d1 n2 d2 b1 k1 A1 c1 l1 B1 e1 b2 k2 A2 c2 l2 B2 e2) (hb : Below w.heap.size w w') : FpV w' n1 d1 n2 d2 b1 k1 A1 c1 l1 B1 e1 b2 k2 A2 c2 l2 B2 e2 := by
 obtain ⟨xs, ys, us, vs, f, g, m1, m2, m3, m4⟩ := h.ex
 exact ⟨xs, ys, us, vs, f, g, m1.below hb, m2.below hb, m3.below hb, m4.below hb⟩
theorem RetME.fp {w : World} {n1 n2 err : Int} {d1 d2 : Nat} {e : Ending} {w' : World} (h : RetME w ([n1, (d1 : Int), n2, (d2 : Int)], err) e w') :
  ∃ b1 k1 A1 c1 l1 B1 e1 b2 k2 A2 c2 l2 B2 e2, e = .returned (.tuple #[.agg #[.bool b1, .slice A1 k1 c1, .bool false, .slice B1 l1 e1, .bool b2, .slice A2 k2 c2, .bool false, .slice B2 l2 e2], .int .i64 err]) ∧
   FpV w' n1 d1 n2 d2 b1 k1 A1 c1 l1 B1 e1 b2 k2 A2 c2 l2 B2 e2 ∧ Below w.heap.size w w' := by
 obtain ⟨l, hl4, rfl, hlz, hok, hv⟩ := h
 obtain ⟨e0, e1, e2, e3, rfl⟩ : ∃ a b c d, l = [a, b, c, d] := by
  match l, hl4 with
  | [a, b, c, d], _ => exact ⟨a, b, c, d, rfl⟩
 simp only [List.map_cons, List.map_nil, List.cons.injEq, and_true] at hlz
 obtain ⟨l0, l1, l2, l3⟩ := hlz
 have o0 := hok e0 (by simp)
 have o1 := hok e1 (by simp)
 have o2 := hok e2 (by simp)
 have o3 := hok e3 (by simp)
 have hb1 : e1.b = false := by rw [o1.i.1, l1]; simp
 have hb3 : e3.b = false := by rw [o3.i.1, l3]; simp
 obtain ⟨z0, bb0, nn0, xs0, A0, cc0⟩ := e0
 obtain ⟨z1, bb1, nn1, xs1, A1, cc1⟩ := e1
 obtain ⟨z2, bb2, nn2, xs2, A2, cc2⟩ := e2
 obtain ⟨z3, bb3, nn3, xs3, A3, cc3⟩ := e3
 dsimp only at l0 l1 l2 l3 hb1 hb3
 subst l0 l1 l2 l3 hb1 hb3
 exact ⟨_, _, _, _, _, _, _, _, _, _, _, _, _, _, rfl, ⟨xs0, xs1, xs2, xs3, fz_of o0.i o1.i, fz_of o2.i o3.i, o0.m, o1.m, o2.m, o3.m⟩, hv⟩
theorem same_x {w : World} {n1 n2 : Int} {d1 d2 : Nat} {b1 b2 : Bool} {k1 c1 l1 e1 k2 c2 l2 e2 : Nat} {A1 B1 A2 B2 : Option Addr} {b1' b2' : Bool} {k1' c1' l1' e1' k2' c2' l2' e2' : Nat} {A1' B1' A2' B2' : Option Addr}
  (h : FpV w n1 d1 n2 d2 b1 k1 A1 c1 l1 B1 e1 b2 k2 A2 c2 l2 B2 e2) (h' : FpV w n1 d1 n2 d2 b1' k1' A1' c1' l1' B1' e1' b2' k2' A2' c2' l2' B2' e2') :
  Calls Try.prog 19 #[.agg #[.bool b1, .slice A1 k1 c1, .bool false, .slice B1 l1 e1], .agg #[.bool b1', .slice A1' k1' c1', .bool false, .slice B1' l1' e1']] w (RetB w true) := by
 obtain ⟨xs, ys, us, vs, f, g, m1, m2, m3, m4⟩ := h.ex
 obtain ⟨xs', ys', us', vs', f', g', m1', m2', m3', m4'⟩ := h'.ex
 exact QSame_g f f' m1 m2 m1' m2' true (by simp)
theorem same_y {w : World} {n1 n2 : Int} {d1 d2 : Nat} {b1 b2 : Bool} {k1 c1 l1 e1 k2 c2 l2 e2 : Nat} {A1 B1 A2 B2 : Option Addr} {b1' b2' : Bool} {k1' c1' l1' e1' k2' c2' l2' e2' : Nat} {A1' B1' A2' B2' : Option Addr}
  (h : FpV w n1 d1 n2 d2 b1 k1 A1 c1 l1 B1 e1 b2 k2 A2 c2 l2 B2 e2) (h' : FpV w n1 d1 n2 d2 b1' k1' A1' c1' l1' B1' e1' b2' k2' A2' c2' l2' B2' e2') :
  Calls Try.prog 19 #[.agg #[.bool b2, .slice A2 k2 c2, .bool false, .slice B2 l2 e2], .agg #[.bool b2', .slice A2' k2' c2', .bool false, .slice B2' l2' e2']] w (RetB w true) := by
 obtain ⟨xs, ys, us, vs, f, g, m1, m2, m3, m4⟩ := h.ex
 obtain ⟨xs', ys', us', vs', f', g', m1', m2', m3', m4'⟩ := h'.ex
 exact QSame_g g g' m3 m4 m3' m4' true (by simp)
set_option maxRecDepth 100000 in
set_option maxHeartbeats 4000000 in
theorem Meets_law (a : Int × Int × Int) (ha : lineB a) (b : Int × Int × Int) (hb : lineB b) (w : World) : Calls Try.prog 4 #[.agg #[.int .i64 a.1, .int .i64 a.2.1, .int .i64 a.2.2], .agg #[.int .i64 b.1, .int .i64 b.2.1, .int .i64 b.2.2]] w (RetB w true) := by
 obtain ⟨n1, n2, err, d1, d2, hE⟩ := meet_nat a b
 have H0 := hid fun (W : World) => alive_ok W
 have H1 := hid fun (W : World) => (GMeet_g a b ha hb W).mono fun e w' h => by rw [hE] at h; exact h.fp
 have H2 := hid fun (W : World) => (RMeet_g a b ha hb W).mono fun e w' h => by rw [hE] at h; exact h.fp
 clear ha hb hE
 obtain ⟨a0, a1, a2⟩ := a
 obtain ⟨b0, b1, b2⟩ := b
 dsimp only at H1 H2 ⊢
 go_enter Try.func4, Try.ntmps4
 go_upto_region 1 with fail
 refine enterR2 (P := fun u => Code.wp _ _ _ _ u) (c0 := [.int .i64 a0, .int .i64 a1, .int .i64 a2]) (c1 := [.int .i64 b0, .int .i64 b1, .int .i64 b2]) ?_
 intro u HB r0 r1 zn0 zn1 hsz
 have s0 := r0 0 _ rfl
 have s1 := r0 1 _ rfl
 have s2 := r0 2 _ rfl
 have t0 := r1 0 _ rfl
 have t1 := r1 1 _ rfl
 have t2 := r1 2 _ rfl
 simp only [Nat.zero_add] at s0 s1 s2 t0 t1 t2
 clear r0 r1 zn0 zn1 hsz
 go_wp2_with fail
 refine (H1.out _).mono ?_
 rintro e w1 ⟨p1, k1, A1, c1, l1, B1, e1, p2, k2, A2, c2, l2, B2, e2, rfl, hV, hv⟩
 replace HB := bel_step HB hv
 have s0 := keep_cell hv s0
 have s1 := keep_cell hv s1
 have s2 := keep_cell hv s2
 have t0 := keep_cell hv t0
 have t1 := keep_cell hv t1
 have t2 := keep_cell hv t2
 clear hv H1
 go_upto_region 2 with fail
 refine enterR (P := fun u => Code.wp _ _ _ _ u) (c := [.bool p1, .slice A1 k1 c1, .bool false, .slice B1 l1 e1, .bool p2, .slice A2 k2 c2, .bool false, .slice B2 l2 e2]) ?_
 intro v1 hv r1 zn hsz
 have x0 := r1 0 _ rfl
 have x1 := r1 1 _ rfl
 have x2 := r1 2 _ rfl
 have x3 := r1 3 _ rfl
 have x4 := r1 4 _ rfl
 have x5 := r1 5 _ rfl
 have x6 := r1 6 _ rfl
 have x7 := r1 7 _ rfl
 simp only [Nat.zero_add] at x0 x1 x2 x3 x4 x5 x6 x7
 replace HB := bel_step HB hv
 clear r1 zn hsz
 have s0 := keep_cell hv s0
 have s1 := keep_cell hv s1
 have s2 := keep_cell hv s2
 have t0 := keep_cell hv t0
 have t1 := keep_cell hv t1
 have t2 := keep_cell hv t2
 replace hV := hV.below hv
 clear hv
 generalize w1.heap.size = g1 at *
 go_wp2_with fail
 refine (H2.out _).mono ?_
 rintro e w2 ⟨p3, k3, A3, c3, l3, B3, e3, p4, k4, A4, c4, l4, B4, e4, rfl, hV2, hv⟩
 replace HB := bel_step HB hv
 have x0 := keep_cell hv x0
 have x1 := keep_cell hv x1
 have x2 := keep_cell hv x2
 have x3 := keep_cell hv x3
 have x4 := keep_cell hv x4
 have x5 := keep_cell hv x5
 have x6 := keep_cell hv x6
 have x7 := keep_cell hv x7
 replace hV := hV.below hv
 clear hv H2 s0 s1 s2 t0 t1 t2
 go_upto_region 3 with fail
 refine enterR (P := fun u => Code.wp _ _ _ _ u) (c := [.bool p3, .slice A3 k3 c3, .bool false, .slice B3 l3 e3, .bool p4, .slice A4 k4 c4, .bool false, .slice B4 l4 e4]) ?_
 intro v2 hv r1 zn hsz
 have y0 := r1 0 _ rfl
 have y1 := r1 1 _ rfl
 have y2 := r1 2 _ rfl
 have y3 := r1 3 _ rfl
 have y4 := r1 4 _ rfl
 have y5 := r1 5 _ rfl
 have y6 := r1 6 _ rfl
 have y7 := r1 7 _ rfl
 simp only [Nat.zero_add] at y0 y1 y2 y3 y4 y5 y6 y7
 replace HB := bel_step HB hv
 clear r1 zn hsz
 have x0 := keep_cell hv x0
 have x1 := keep_cell hv x1
 have x2 := keep_cell hv x2
 have x3 := keep_cell hv x3
 have x4 := keep_cell hv x4
 have x5 := keep_cell hv x5
 have x6 := keep_cell hv x6
 have x7 := keep_cell hv x7
 replace hV := hid (hV.below hv)
 replace hV2 := hid (hV2.below hv)
 clear hv
 generalize w2.heap.size = g2 at *
 go_wp2_with fail
 refine (same_x hV.out hV2.out).mono ?_
 rintro e w3 ⟨rfl, hv⟩
 replace HB := bel_step HB hv
 have x4 := keep_cell hv x4
 have x5 := keep_cell hv x5
 have x6 := keep_cell hv x6
 have x7 := keep_cell hv x7
 have y4 := keep_cell hv y4
 have y5 := keep_cell hv y5
 have y6 := keep_cell hv y6
 have y7 := keep_cell hv y7
 replace hV := hid (hV.out.below hv)
 replace hV2 := hid (hV2.out.below hv)
 clear hv x0 x1 x2 x3 y0 y1 y2 y3
 go_wp2_with fail
 refine (same_y hV.out hV2.out).mono ?_
 rintro e w4 ⟨rfl, hv⟩
 replace HB := bel_step HB hv
 clear hv x4 x5 x6 x7 y4 y5 y6 y7
 go_wp2_with fail
 refine (H0.out _).mono ?_
 rintro e w5 ⟨rfl, hv⟩
 replace HB := bel_step HB hv
 clear hv
 go_wp2
 go_ret
 exact ⟨rfl, HB⟩
end Go.Proofs.Ytglailcfgcdagaa
