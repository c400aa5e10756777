/- Geometry: the law Meets. Conditions: none. -/
import Derived.Test.YtglailcfgcdagaaZGa1
import Derived.Test.YtglailcfgcdagaaZGm4
import Derived.Test.YtglailcfgcdagaaZGm3
import Derived.Test.YtglailcfgcdagaaZXP
import Derived.Test.YtglailcfgcdagaaZXH
import Derived.Test.YtglailcfgcdagaaZGh3
set_option linter.unusedVariables false
set_option linter.unusedSimpArgs false
namespace Go.Proofs.Ytglailcfgcdagaa
open Go.RowKit Big
/-- a point of fractions that came back -/
structure FpV (w : World) (n1 : Int) (d1 : Nat) (n2 : Int) (d2 : Nat) (b1 : Bool) (k1 : Nat) (A1 : Option Addr) (c1 l1 : Nat) (B1 : Option Addr) (e1 : Nat) (b2 : Bool) (k2 : Nat) (A2 : Option Addr) (c2 l2 : Nat) (B2 : Option Addr) (e2 : Nat) : Prop where
 ex : ∃ xs ys us vs, Fz (n1, d1) b1 k1 xs l1 ys ∧ Fz (n2, d2) b2 k2 us l2 vs ∧ Mg w A1 c1 xs ∧ Mg w B1 e1 ys ∧ Mg w A2 c2 us ∧ Mg w B2 e2 vs
theorem FpV.below {w w' : World} {n1 n2 : Int} {d1 d2 : Nat} {b1 b2 : Bool} {k1 c1 l1 e1 k2 c2 l2 e2 : Nat} {A1 B1 A2 B2 : Option Addr} (h : FpV w n1 d1 n2 d2 b1 k1 A1 c1 l1 B1 e1 b2 k2 A2 c2 l2 B2 e2) (hb : Below w.heap.size w w') : FpV w' n1 d1 n2 d2 b1 k1 A1 c1 l1 B1 e1 b2 k2 A2 c2 l2 B2 e2 := by
 obtain ⟨xs, ys, us, vs, f, g, m1, m2, m3, m4⟩ := h.ex
 exact ⟨xs, ys, us, vs, f, g, m1.below hb, m2.below hb, m3.below hb, m4.below hb⟩
theorem RetME.fp {w : World} {n1 n2 err : Int} {d1 d2 : Nat} {e : Ending} {w' : World} (h : RetME w ([n1, (d1 : Int), n2, (d2 : Int)], err) e w') :
  ∃ b1 k1 A1 c1 l1 B1 e1 b2 k2 A2 c2 l2 B2 e2, e = .returned (.tuple #[.agg #[.bool b1, .slice A1 k1 c1, .bool false, .slice B1 l1 e1, .bool b2, .slice A2 k2 c2, .bool false, .slice B2 l2 e2], .int .i64 err]) ∧
   FpV w' n1 d1 n2 d2 b1 k1 A1 c1 l1 B1 e1 b2 k2 A2 c2 l2 B2 e2 ∧ Below w.heap.size w w' := by
 obtain ⟨l, hl4, rfl, hlz, hok, hv⟩ := h
 obtain ⟨e0, e1, e2, e3, rfl⟩ : ∃ a b c d, l = [a, b, c, d] := by
  match l, hl4 with
  | [a, b, c, d], _ => exact ⟨a, b, c, d, rfl⟩
 simp only [List.map_cons, List.map_nil, List.cons.injEq, and_true] at hlz
 obtain ⟨l0, l1, l2, l3⟩ := hlz
 have o0 := hok e0 (by simp)
 have o1 := hok e1 (by simp)
 have o2 := hok e2 (by simp)
 have o3 := hok e3 (by simp)
 have hb1 : e1.b = false := by rw [o1.i.1, l1]; simp
 have hb3 : e3.b = false := by rw [o3.i.1, l3]; simp
 obtain ⟨z0, bb0, nn0, xs0, A0, cc0⟩ := e0
 obtain ⟨z1, bb1, nn1, xs1, A1, cc1⟩ := e1
 obtain ⟨z2, bb2, nn2, xs2, A2, cc2⟩ := e2
 obtain ⟨z3, bb3, nn3, xs3, A3, cc3⟩ := e3
 dsimp only at l0 l1 l2 l3 hb1 hb3
 subst l0 l1 l2 l3 hb1 hb3
 exact ⟨_, _, _, _, _, _, _, _, _, _, _, _, _, _, rfl, ⟨xs0, xs1, xs2, xs3, fz_of o0.i o1.i, fz_of o2.i o3.i, o0.m, o1.m, o2.m, o3.m⟩, hv⟩
end Go.Proofs.Ytglailcfgcdagaa
/- Geometry: the point of two lines lies on both, in fractions. Conditions: none. -/
namespace Go.Proofs.Ytglailcfgcdagaa
open Go.RowKit Big
theorem low_val {n : Int} {d : Nat} (hd : 0 < d) : (low n d).1 * (d : Int) = n * ((low n d).2 : Int) := by
 have h := low_cross (n := n) hd
 first | exact h | exact h.symm | (rw [Int.mul_comm]; exact h)
/-- what New answers, by its value -/
theorem new_val {k : Nat} {x y : Int} (hx : Bz k x) (hy : Bz k y) (h0 : y ≠ 0) (hk : k ≤ 16384) : (newE x y).1.1 * y = x * ((newE x y).1.2 : Int) := by
 rw [(newE_bz hx hy h0 hk).2.2]
 have h := low_val (n := if y < 0 then -x else x) (d := y.natAbs) (by omega)
 generalize low (if y < 0 then -x else x) y.natAbs = q at *
 by_cases hn : y < 0
 ·rw [if_pos hn, show ((y.natAbs : Nat) : Int) = -y by omega] at h
  have e1 : q.1 * -y = -(q.1 * y) := by grind
  have e2 : -x * (q.2 : Int) = -(x * (q.2 : Int)) := by grind
  omega
 ·rw [if_neg hn, show ((y.natAbs : Nat) : Int) = y by omega] at h
  exact h
theorem nf_one (n : Int) : Nf (n, 1) := ⟨by simp, by simp⟩
theorem on_frac {A B C D mx my : Int} {X Y : Int × Nat} (hD : D ≠ 0) (hX : X.1 * D = mx * (X.2 : Int)) (hY : Y.1 * D = my * (Y.2 : Int)) (nX : Nf X) (nY : Nf Y) (h : A * mx + B * my = C * D) :
  fadd (fmul (A, 1) X) (fmul (B, 1) Y) = (C, 1) := by
 have n1 := fmul_nf (nf_one A) nX
 have n2 := fmul_nf (nf_one B) nY
 have n3 := fadd_nf n1 n2
 rw [feq_iff n3 (nf_one C)]
 have v1 : (fmul (A, 1) X).1 * (X.2 : Int) = A * X.1 * ((fmul (A, 1) X).2 : Int) := by
  have := low_val (n := A * X.1) (d := 1 * X.2) (by have := nX.1; omega)
  rw [Nat.one_mul] at this
  unfold fmul; simpa using this
 have v2 : (fmul (B, 1) Y).1 * (Y.2 : Int) = B * Y.1 * ((fmul (B, 1) Y).2 : Int) := by
  have := low_val (n := B * Y.1) (d := 1 * Y.2) (by have := nY.1; omega)
  rw [Nat.one_mul] at this
  unfold fmul; simpa using this
 generalize fmul (A, 1) X = P at *
 generalize fmul (B, 1) Y = Q at *
 have v3 : (fadd P Q).1 * ((P.2 : Int) * (Q.2 : Int)) = (P.1 * (Q.2 : Int) + Q.1 * (P.2 : Int)) * ((fadd P Q).2 : Int) := by
  have := low_val (n := P.1 * Q.2 + Q.1 * P.2) (d := P.2 * Q.2) (Nat.mul_pos n1.1 n2.1)
  rw [Int.natCast_mul] at this
  exact this
 generalize fadd P Q = S at *
 have p1 := nX.1
 have p2 := nY.1
 have p3 := n1.1
 have p4 := n2.1
 obtain ⟨x, xd⟩ := X
 obtain ⟨y, yd⟩ := Y
 obtain ⟨p, pd⟩ := P
 obtain ⟨q, qd⟩ := Q
 obtain ⟨s, sd⟩ := S
 dsimp only at *
 have q1 : (xd : Int) ≠ 0 := by omega
 have q2 : (yd : Int) ≠ 0 := by omega
 have q3 : (pd : Int) ≠ 0 := by omega
 have q4 : (qd : Int) ≠ 0 := by omega
 generalize (xd : Int) = a at *
 generalize (yd : Int) = b at *
 generalize (pd : Int) = c at *
 generalize (qd : Int) = e at *
 generalize (sd : Int) = f at *
 have hne : (D * a * b) * (c * e) ≠ 0 := Int.mul_ne_zero (Int.mul_ne_zero (Int.mul_ne_zero hD q1) q2) (Int.mul_ne_zero q3 q4)
 have k1 : (p * e + q * c) * (D * a * b) = C * (c * e) * (D * a * b) := by
  have e1 : p * e * (D * a * b) = (p * a) * (e * D * b) := by grind
  have e2 : q * c * (D * a * b) = (q * b) * (c * D * a) := by grind
  have e3 : (A * x * c) * (e * D * b) = A * (x * D) * (c * e * b) := by grind
  have e4 : (B * y * e) * (c * D * a) = B * (y * D) * (e * c * a) := by grind
  have e5 : (p * e + q * c) * (D * a * b) = p * e * (D * a * b) + q * c * (D * a * b) := by grind
  rw [e5, e1, e2, v1, v2, e3, e4, hX, hY]
  have e6 : A * (mx * a) * (c * e * b) + B * (my * b) * (e * c * a) = (A * mx + B * my) * (a * b * c * e) := by grind
  rw [e6, h]
  grind
 have k2 : p * e + q * c = C * (c * e) := Int.eq_of_mul_eq_mul_right (Int.mul_ne_zero (Int.mul_ne_zero hD q1) q2) k1
 rw [k2] at v3
 have k3 : s * (c * e) = C * f * (c * e) := by rw [v3]; grind
 have := Int.eq_of_mul_eq_mul_right (Int.mul_ne_zero q3 q4) k3
 rw [this]; simp
end Go.Proofs.Ytglailcfgcdagaa
/- Geometry: on() of the law Lines. Conditions: the point lies on the line. -/
namespace Go.Proofs.Ytglailcfgcdagaa
open Go.RowKit Big
/-- a fraction's value -/
structure FvX (w : World) (f : Int × Nat) (b : Bool) (k : Nat) (A : Option Addr) (c l : Nat) (B : Option Addr) (e : Nat) : Prop where
 ex : ∃ xs ys, Fz f b k xs l ys ∧ Mg w A c xs ∧ Mg w B e ys
theorem FvX.below {w w' : World} {f : Int × Nat} {b : Bool} {k c l e : Nat} {A B : Option Addr} (h : FvX w f b k A c l B e) (hb : Below w.heap.size w w') : FvX w' f b k A c l B e := by
 obtain ⟨xs, ys, i, m1, m2⟩ := h.ex
 exact ⟨xs, ys, i, m1.below hb, m2.below hb⟩
def RetV (w : World) (f : Int × Nat) (e : Ending) (w' : World) : Prop := ∃ b k A c l B d, e = .returned (.tuple #[.agg #[.bool b, .slice A k c, .bool false, .slice B l d], .int .i64 0]) ∧ FvX w' f b k A c l B d ∧ Below w.heap.size w w'
theorem RetFE.v {w : World} {f : Int × Nat} {e : Ending} {w' : World} (h : RetFE w (f, 0) e w') : RetV w f e w' := by
 obtain ⟨A, c, B, d, rfl, m1, m2, hb⟩ := h
 exact ⟨_, _, _, _, _, _, _, rfl, ⟨_, _, ⟨rfl, rfl, rfl, rfl, rfl⟩, m1, m2⟩, hb⟩
theorem qnew_v {z : Int} (hz : i64B z) {w : World} {b b1 : Bool} {n n1 : Nat} {xs ys : List Nat} {A B : Option Addr} {c d : Nat} (i : Iz z b n xs) (i1 : Iz 1 b1 n1 ys) (ma : Mg w A c xs) (mb : Mg w B d ys) :
  Calls Try.prog 45 #[.agg #[.bool b, .slice A n c], .agg #[.bool b1, .slice B n1 d]] w (RetV w (z, 1)) := by
 have z1 := bz_i64 hz
 have f1 : fits z := z1.ft (by omega)
 have f2 : fits (1 : Int) := by have := (bz_i64 (show i64B 1 by unfold i64B; omega)).ft (show 64 ≤ 16384 by omega); exact this
 have hq : newE z 1 = ((z, 1), 0) := newE_nf (f := (z, 1)) (nf_one z) f1 f2
 obtain ⟨q1, q2, q3⟩ := i
 obtain ⟨q4, q5, q6⟩ := i1
 subst q1 q2 q3 q4 q5 q6
 have h := QNew_any (w := w) (na := decide (z < 0)) (nb := decide ((1 : Int) < 0)) ma mb
 rw [newR_int z 1 f1 f2, hq] at h
 exact h.mono fun e w' h => h.v
theorem qmul_v {f g p : Int × Nat} (vf : Vf f) (vg : Vf g) (hq : mulE f g = (p, 0)) {w : World} {b b' : Bool} {k c l e k' c' l' e' : Nat} {A B A' B' : Option Addr} (h : FvX w f b k A c l B e) (h' : FvX w g b' k' A' c' l' B' e') :
  Calls Try.prog 50 #[.agg #[.bool b, .slice A k c, .bool false, .slice B l e], .agg #[.bool b', .slice A' k' c', .bool false, .slice B' l' e']] w (RetV w p) := by
 obtain ⟨xs, ys, i, m1, m2⟩ := h.ex
 obtain ⟨us, vs, i', m3, m4⟩ := h'.ex
 have hm := QMul_any (w := w) (na := b) (nb := false) (nc := b') (nd := false) m1 m2 m3 m4
 rw [opR_f i i' vf vg, hq, ← i.hk, ← i.hl, ← i'.hk, ← i'.hl] at hm
 exact hm.mono fun e w' h => h.v
theorem qadd_v {f g p : Int × Nat} (vf : Vf f) (vg : Vf g) (hq : addE f g = (p, 0)) {w : World} {b b' : Bool} {k c l e k' c' l' e' : Nat} {A B A' B' : Option Addr} (h : FvX w f b k A c l B e) (h' : FvX w g b' k' A' c' l' B' e') :
  Calls Try.prog 51 #[.agg #[.bool b, .slice A k c, .bool false, .slice B l e], .agg #[.bool b', .slice A' k' c', .bool false, .slice B' l' e']] w (RetV w p) := by
 obtain ⟨xs, ys, i, m1, m2⟩ := h.ex
 obtain ⟨us, vs, i', m3, m4⟩ := h'.ex
 have hm := QAdd_any (w := w) (na := b) (nb := false) (nc := b') (nd := false) m1 m2 m3 m4
 rw [opR_f i i' vf vg, hq, ← i.hk, ← i.hl, ← i'.hk, ← i'.hl] at hm
 exact hm.mono fun e w' h => h.v
theorem qsame_v {f : Int × Nat} {w : World} {b b' : Bool} {k c l e k' c' l' e' : Nat} {A B A' B' : Option Addr} (h : FvX w f b k A c l B e) (h' : FvX w f b' k' A' c' l' B' e') :
  Calls Try.prog 19 #[.agg #[.bool b, .slice A k c, .bool false, .slice B l e], .agg #[.bool b', .slice A' k' c', .bool false, .slice B' l' e']] w (RetB w true) := by
 obtain ⟨xs, ys, i, m1, m2⟩ := h.ex
 obtain ⟨us, vs, i', m3, m4⟩ := h'.ex
 exact QSame_g i i' m1 m2 m3 m4 true (by simp)
/-- a fraction in its box -/
structure FbX (w : World) (g : Nat) (f : Int × Nat) (b : Bool) (k : Nat) (A : Option Addr) (c l : Nat) (B : Option Addr) (e : Nat) : Prop where
 c0 : w.cell? ⟨g, 0, none⟩ = some (.bool b)
 c1 : w.cell? ⟨g, 1, none⟩ = some (.slice A k c)
 c2 : w.cell? ⟨g, 2, none⟩ = some (.bool false)
 c3 : w.cell? ⟨g, 3, none⟩ = some (.slice B l e)
 v : FvX w f b k A c l B e
theorem FbX.below {w w' : World} {g : Nat} {f : Int × Nat} {b : Bool} {k c l e : Nat} {A B : Option Addr} (h : FbX w g f b k A c l B e) (hb : Below w.heap.size w w') : FbX w' g f b k A c l B e :=
 ⟨keep_cell hb h.c0, keep_cell hb h.c1, keep_cell hb h.c2, keep_cell hb h.c3, h.v.below hb⟩
theorem FbX.new {w u : World} {f : Int × Nat} {b : Bool} {k c l e : Nat} {A B : Option Addr} (hr : u.rangeAt w.heap.size 0 [.bool b, .slice A k c, .bool false, .slice B l e]) (h : FvX w f b k A c l B e) (hb : Below w.heap.size w u) : FbX u w.heap.size f b k A c l B e :=
 ⟨hr 0 _ rfl, hr 1 _ rfl, hr 2 _ rfl, hr 3 _ rfl, h.below hb⟩
theorem sz_i64 {z : Int} (h : i64B z) : Sz 64 (z, 1) := ⟨by have := bz_i64 h; unfold Bz at this; dsimp only; omega, Nat.one_lt_two_pow (by omega)⟩
set_option maxRecDepth 100000 in
set_option maxHeartbeats 8000000 in
theorem on_g {A B C : Int} (hA : i64B A) (hB : i64B B) (hC : i64B C) {X Y P Q : Int × Nat} (vX : Vf X) (vY : Vf Y) (vP : Vf P) (vQ : Vf Q) (hP : mulE (A, 1) X = (P, 0)) (hQ : mulE (B, 1) Y = (Q, 0)) (hS : addE P Q = ((C, 1), 0))
  {w : World} {b1 b2 : Bool} {k1 c1 l1 e1 k2 c2 l2 e2 : Nat} {A1 B1 A2 B2 : Option Addr} (hX : FvX w X b1 k1 A1 c1 l1 B1 e1) (hY : FvX w Y b2 k2 A2 c2 l2 B2 e2) :
  Calls Try.prog 25 #[.agg #[.int .i64 A, .int .i64 B, .int .i64 C], .agg #[.bool b1, .slice A1 k1 c1, .bool false, .slice B1 l1 e1, .bool b2, .slice A2 k2 c2, .bool false, .slice B2 l2 e2]] w (RetB w true) := by
 obtain ⟨ba, na, sa, IA⟩ := iz A
 obtain ⟨bb, nb, sb, IB⟩ := iz B
 obtain ⟨bc, nc, sc, IC⟩ := iz C
 obtain ⟨bi, ni, si, II⟩ := iz 1
 have vA : Vf (A, 1) := (sz_i64 hA).vf (by omega) (nf_one A)
 have vB : Vf (B, 1) := (sz_i64 hB).vf (by omega) (nf_one B)
 have HA := hid fun (W : World) => RFromInt_g (w := W) IA.out hA.1 hA.2
 have HB' := hid fun (W : World) => RFromInt_g (w := W) IB.out hB.1 hB.2
 have HC := hid fun (W : World) => RFromInt_g (w := W) IC.out hC.1 hC.2
 have HI := hid fun (W : World) => RFromInt_g (w := W) II.out (by omega) (by omega)
 have NHA := hid fun (W : World) (R Q : Option Addr) (c d : Nat) (m1 : Mg W R c sa) (m2 : Mg W Q d si) => qnew_v hA (w := W) IA.out II.out m1 m2
 have NHB' := hid fun (W : World) (R Q : Option Addr) (c d : Nat) (m1 : Mg W R c sb) (m2 : Mg W Q d si) => qnew_v hB (w := W) IB.out II.out m1 m2
 have NHC := hid fun (W : World) (R Q : Option Addr) (c d : Nat) (m1 : Mg W R c sc) (m2 : Mg W Q d si) => qnew_v hC (w := W) IC.out II.out m1 m2
 have HP := hid (And.intro vA (And.intro vX hP))
 have HQ := hid (And.intro vB (And.intro vY hQ))
 have HS := hid (And.intro vP (And.intro vQ hS))
 replace hX := hid hX
 replace hY := hid hY
 clear hA hB hC vX vY vP vQ vA vB hP hQ hS IA IB IC II
 go_enter Try.func25, Try.ntmps25
 go_upto_region 1 with fail
 refine enterR2 (P := fun u => Code.wp _ _ _ _ u) (c0 := [.int .i64 A, .int .i64 B, .int .i64 C]) (c1 := [.bool b1, .slice A1 k1 c1, .bool false, .slice B1 l1 e1, .bool b2, .slice A2 k2 c2, .bool false, .slice B2 l2 e2]) ?_
 intro u HB r0 r1 zn0 zn1 hsz
 have t0 := r0 0 _ rfl
 have t1 := r0 1 _ rfl
 have t2 := r0 2 _ rfl
 have x0 := r1 0 _ rfl
 have x1 := r1 1 _ rfl
 have x2 := r1 2 _ rfl
 have x3 := r1 3 _ rfl
 have x4 := r1 4 _ rfl
 have x5 := r1 5 _ rfl
 have x6 := r1 6 _ rfl
 have x7 := r1 7 _ rfl
 simp only [Nat.zero_add] at t0 t1 t2 x0 x1 x2 x3 x4 x5 x6 x7
 replace hX := hX.out.below HB
 replace hY := hY.out.below HB
 clear r0 r1 zn0 zn1 hsz
 go_wp2_with fail
 refine (HA.out _).mono ?_
 rintro e w1 ⟨R1, cR1, rfl, m1, hv⟩
 replace HB := bel_step HB hv
 have t0 := keep_cell hv t0
 have t1 := keep_cell hv t1
 have t2 := keep_cell hv t2
 have x0 := keep_cell hv x0
 have x1 := keep_cell hv x1
 have x2 := keep_cell hv x2
 have x3 := keep_cell hv x3
 have x4 := keep_cell hv x4
 have x5 := keep_cell hv x5
 have x6 := keep_cell hv x6
 have x7 := keep_cell hv x7
 replace hX := hX.below hv
 replace hY := hY.below hv
 clear hv
 go_wp2_with fail
 refine (HI.out _).mono ?_
 rintro e w2 ⟨R2, cR2, rfl, m2, hv⟩
 replace HB := bel_step HB hv
 have t0 := keep_cell hv t0
 have t1 := keep_cell hv t1
 have t2 := keep_cell hv t2
 have x0 := keep_cell hv x0
 have x1 := keep_cell hv x1
 have x2 := keep_cell hv x2
 have x3 := keep_cell hv x3
 have x4 := keep_cell hv x4
 have x5 := keep_cell hv x5
 have x6 := keep_cell hv x6
 have x7 := keep_cell hv x7
 replace hX := hX.below hv
 replace hY := hY.below hv
 replace m1 := m1.below hv
 clear hv
 go_wp2_with fail
 refine (NHA.out _ _ _ _ _ m1 m2).mono ?_
 rintro e w3 ⟨pb, pk, pA, pc, pl, pB, pd, rfl, hV, hv⟩
 replace HB := bel_step HB hv
 have t0 := keep_cell hv t0
 have t1 := keep_cell hv t1
 have t2 := keep_cell hv t2
 have x0 := keep_cell hv x0
 have x1 := keep_cell hv x1
 have x2 := keep_cell hv x2
 have x3 := keep_cell hv x3
 have x4 := keep_cell hv x4
 have x5 := keep_cell hv x5
 have x6 := keep_cell hv x6
 have x7 := keep_cell hv x7
 replace hX := hX.below hv
 replace hY := hY.below hv
 clear hv m1 m2
 go_upto_region 2 with fail
 refine enterR (P := fun u => Code.wp _ _ _ _ u) (c := [.bool pb, .slice pA pk pc, .bool false, .slice pB pl pd]) ?_
 intro v1 hv r1 zn hsz
 have F1 := FbX.new (w := w3) r1 hV hv
 replace HB := bel_step HB hv
 have t0 := keep_cell hv t0
 have t1 := keep_cell hv t1
 have t2 := keep_cell hv t2
 have x0 := keep_cell hv x0
 have x1 := keep_cell hv x1
 have x2 := keep_cell hv x2
 have x3 := keep_cell hv x3
 have x4 := keep_cell hv x4
 have x5 := keep_cell hv x5
 have x6 := keep_cell hv x6
 have x7 := keep_cell hv x7
 replace hX := hX.below hv
 replace hY := hY.below hv
 clear hv r1 zn hsz hV
 generalize w3.heap.size = g1 at *
 go_wp2_with fail
 refine (HB'.out _).mono ?_
 rintro e w4 ⟨R1, cR1, rfl, m1, hv⟩
 replace HB := bel_step HB hv
 have t0 := keep_cell hv t0
 have t1 := keep_cell hv t1
 have t2 := keep_cell hv t2
 have x0 := keep_cell hv x0
 have x1 := keep_cell hv x1
 have x2 := keep_cell hv x2
 have x3 := keep_cell hv x3
 have x4 := keep_cell hv x4
 have x5 := keep_cell hv x5
 have x6 := keep_cell hv x6
 have x7 := keep_cell hv x7
 replace hX := hX.below hv
 replace hY := hY.below hv
 replace F1 := F1.below hv
 clear hv
 go_wp2_with fail
 refine (HI.out _).mono ?_
 rintro e w5 ⟨R2, cR2, rfl, m2, hv⟩
 replace HB := bel_step HB hv
 have t0 := keep_cell hv t0
 have t1 := keep_cell hv t1
 have t2 := keep_cell hv t2
 have x0 := keep_cell hv x0
 have x1 := keep_cell hv x1
 have x2 := keep_cell hv x2
 have x3 := keep_cell hv x3
 have x4 := keep_cell hv x4
 have x5 := keep_cell hv x5
 have x6 := keep_cell hv x6
 have x7 := keep_cell hv x7
 replace hX := hX.below hv
 replace hY := hY.below hv
 replace F1 := F1.below hv
 replace m1 := m1.below hv
 clear hv
 go_wp2_with fail
 refine (NHB'.out _ _ _ _ _ m1 m2).mono ?_
 rintro e w6 ⟨qb, qk, qA, qc, ql, qB, qd, rfl, hV, hv⟩
 replace HB := bel_step HB hv
 have t0 := keep_cell hv t0
 have t1 := keep_cell hv t1
 have t2 := keep_cell hv t2
 have x0 := keep_cell hv x0
 have x1 := keep_cell hv x1
 have x2 := keep_cell hv x2
 have x3 := keep_cell hv x3
 have x4 := keep_cell hv x4
 have x5 := keep_cell hv x5
 have x6 := keep_cell hv x6
 have x7 := keep_cell hv x7
 replace hX := hX.below hv
 replace hY := hY.below hv
 replace F1 := F1.below hv
 clear hv m1 m2
 go_upto_region 3 with fail
 refine enterR (P := fun u => Code.wp _ _ _ _ u) (c := [.bool qb, .slice qA qk qc, .bool false, .slice qB ql qd]) ?_
 intro v2 hv r1 zn hsz
 have F2 := FbX.new (w := w6) r1 hV hv
 replace HB := bel_step HB hv
 have t0 := keep_cell hv t0
 have t1 := keep_cell hv t1
 have t2 := keep_cell hv t2
 have x0 := keep_cell hv x0
 have x1 := keep_cell hv x1
 have x2 := keep_cell hv x2
 have x3 := keep_cell hv x3
 have x4 := keep_cell hv x4
 have x5 := keep_cell hv x5
 have x6 := keep_cell hv x6
 have x7 := keep_cell hv x7
 replace hX := hX.below hv
 replace hY := hY.below hv
 replace F1 := F1.below hv
 clear hv r1 zn hsz hV
 generalize w6.heap.size = g2 at *
 go_wp2_with fail
 refine (HC.out _).mono ?_
 rintro e w7 ⟨R1, cR1, rfl, m1, hv⟩
 replace HB := bel_step HB hv
 have t0 := keep_cell hv t0
 have t1 := keep_cell hv t1
 have t2 := keep_cell hv t2
 have x0 := keep_cell hv x0
 have x1 := keep_cell hv x1
 have x2 := keep_cell hv x2
 have x3 := keep_cell hv x3
 have x4 := keep_cell hv x4
 have x5 := keep_cell hv x5
 have x6 := keep_cell hv x6
 have x7 := keep_cell hv x7
 replace hX := hX.below hv
 replace hY := hY.below hv
 replace F1 := F1.below hv
 replace F2 := F2.below hv
 clear hv
 go_wp2_with fail
 refine (HI.out _).mono ?_
 rintro e w8 ⟨R2, cR2, rfl, m2, hv⟩
 replace HB := bel_step HB hv
 have t0 := keep_cell hv t0
 have t1 := keep_cell hv t1
 have t2 := keep_cell hv t2
 have x0 := keep_cell hv x0
 have x1 := keep_cell hv x1
 have x2 := keep_cell hv x2
 have x3 := keep_cell hv x3
 have x4 := keep_cell hv x4
 have x5 := keep_cell hv x5
 have x6 := keep_cell hv x6
 have x7 := keep_cell hv x7
 replace hX := hX.below hv
 replace hY := hY.below hv
 replace F1 := F1.below hv
 replace F2 := F2.below hv
 replace m1 := m1.below hv
 clear hv
 go_wp2_with fail
 refine (NHC.out _ _ _ _ _ m1 m2).mono ?_
 rintro e w9 ⟨rb, rk, rA, rc, rl, rB, rd, rfl, hV, hv⟩
 replace HB := bel_step HB hv
 have t0 := keep_cell hv t0
 have t1 := keep_cell hv t1
 have t2 := keep_cell hv t2
 have x0 := keep_cell hv x0
 have x1 := keep_cell hv x1
 have x2 := keep_cell hv x2
 have x3 := keep_cell hv x3
 have x4 := keep_cell hv x4
 have x5 := keep_cell hv x5
 have x6 := keep_cell hv x6
 have x7 := keep_cell hv x7
 replace hX := hX.below hv
 replace hY := hY.below hv
 replace F1 := F1.below hv
 replace F2 := F2.below hv
 clear hv m1 m2
 go_upto_region 4 with fail
 refine enterR (P := fun u => Code.wp _ _ _ _ u) (c := [.bool rb, .slice rA rk rc, .bool false, .slice rB rl rd]) ?_
 intro v3 hv r1 zn hsz
 have F3 := FbX.new (w := w9) r1 hV hv
 replace HB := bel_step HB hv
 have t0 := keep_cell hv t0
 have t1 := keep_cell hv t1
 have t2 := keep_cell hv t2
 have x0 := keep_cell hv x0
 have x1 := keep_cell hv x1
 have x2 := keep_cell hv x2
 have x3 := keep_cell hv x3
 have x4 := keep_cell hv x4
 have x5 := keep_cell hv x5
 have x6 := keep_cell hv x6
 have x7 := keep_cell hv x7
 replace hX := hX.below hv
 replace hY := hY.below hv
 replace F1 := F1.below hv
 replace F2 := F2.below hv
 clear hv r1 zn hsz hV
 generalize w9.heap.size = g3 at *
 clear HA HB' HC NHA NHB' NHC HI
 have HM := hid fun (W : World) (h : FvX W (A, 1) pb pk pA pc pl pB pd) (h' : FvX W X b1 k1 A1 c1 l1 B1 e1) => qmul_v HP.out.1 HP.out.2.1 HP.out.2.2 h h'
 have HM2 := hid fun (W : World) (h : FvX W (B, 1) qb qk qA qc ql qB qd) (h' : FvX W Y b2 k2 A2 c2 l2 B2 e2) => qmul_v HQ.out.1 HQ.out.2.1 HQ.out.2.2 h h'
 have HSm := hid fun (W : World) {b b' : Bool} {k c l e k' c' l' e' : Nat} {A B A' B' : Option Addr} (h : FvX W P b k A c l B e) (h' : FvX W Q b' k' A' c' l' B' e') => qadd_v HS.out.1 HS.out.2.1 HS.out.2.2 h h'
 clear HP HQ HS
 have y0 := F1.c0
 have y1 := F1.c1
 have y2 := F1.c2
 have y3 := F1.c3
 go_wp2_with fail
 refine (HM.out _ F1.v hX).mono ?_
 rintro e w10 ⟨sb_, sk, sA, sc_, sl, sB, sd, rfl, hV, hv⟩
 replace HB := bel_step HB hv
 have t0 := keep_cell hv t0
 have t1 := keep_cell hv t1
 have t2 := keep_cell hv t2
 have x0 := keep_cell hv x0
 have x1 := keep_cell hv x1
 have x2 := keep_cell hv x2
 have x3 := keep_cell hv x3
 have x4 := keep_cell hv x4
 have x5 := keep_cell hv x5
 have x6 := keep_cell hv x6
 have x7 := keep_cell hv x7
 replace hX := hX.below hv
 replace hY := hY.below hv
 replace F1 := F1.below hv
 replace F2 := F2.below hv
 replace F3 := F3.below hv
 clear hv
 go_upto_region 5 with fail
 refine enterR (P := fun u => Code.wp _ _ _ _ u) (c := [.bool sb_, .slice sA sk sc_, .bool false, .slice sB sl sd]) ?_
 intro v4 hv r1 zn hsz
 have F4 := FbX.new (w := w10) r1 hV hv
 replace HB := bel_step HB hv
 have t0 := keep_cell hv t0
 have t1 := keep_cell hv t1
 have t2 := keep_cell hv t2
 have x0 := keep_cell hv x0
 have x1 := keep_cell hv x1
 have x2 := keep_cell hv x2
 have x3 := keep_cell hv x3
 have x4 := keep_cell hv x4
 have x5 := keep_cell hv x5
 have x6 := keep_cell hv x6
 have x7 := keep_cell hv x7
 replace hX := hX.below hv
 replace hY := hY.below hv
 replace F1 := F1.below hv
 replace F2 := F2.below hv
 replace F3 := F3.below hv
 clear hv r1 zn hsz hV
 generalize w10.heap.size = g4 at *
 clear HM y0 y1 y2 y3
 have y0 := F2.c0
 have y1 := F2.c1
 have y2 := F2.c2
 have y3 := F2.c3
 go_wp2_with fail
 refine (HM2.out _ F2.v hY).mono ?_
 rintro e w11 ⟨ub, uk, uA, uc, ul, uB, ud, rfl, hV, hv⟩
 replace HB := bel_step HB hv
 have t0 := keep_cell hv t0
 have t1 := keep_cell hv t1
 have t2 := keep_cell hv t2
 have x0 := keep_cell hv x0
 have x1 := keep_cell hv x1
 have x2 := keep_cell hv x2
 have x3 := keep_cell hv x3
 have x4 := keep_cell hv x4
 have x5 := keep_cell hv x5
 have x6 := keep_cell hv x6
 have x7 := keep_cell hv x7
 replace hX := hX.below hv
 replace hY := hY.below hv
 replace F1 := F1.below hv
 replace F2 := F2.below hv
 replace F3 := F3.below hv
 replace F4 := F4.below hv
 clear hv
 go_upto_region 6 with fail
 refine enterR (P := fun u => Code.wp _ _ _ _ u) (c := [.bool ub, .slice uA uk uc, .bool false, .slice uB ul ud]) ?_
 intro v5 hv r1 zn hsz
 have F5 := FbX.new (w := w11) r1 hV hv
 replace HB := bel_step HB hv
 have t0 := keep_cell hv t0
 have t1 := keep_cell hv t1
 have t2 := keep_cell hv t2
 have x0 := keep_cell hv x0
 have x1 := keep_cell hv x1
 have x2 := keep_cell hv x2
 have x3 := keep_cell hv x3
 have x4 := keep_cell hv x4
 have x5 := keep_cell hv x5
 have x6 := keep_cell hv x6
 have x7 := keep_cell hv x7
 replace hX := hX.below hv
 replace hY := hY.below hv
 replace F1 := F1.below hv
 replace F2 := F2.below hv
 replace F3 := F3.below hv
 replace F4 := F4.below hv
 clear hv r1 zn hsz hV
 generalize w11.heap.size = g5 at *
 clear HM2 y0 y1 y2 y3
 have y0 := F4.c0
 have y1 := F4.c1
 have y2 := F4.c2
 have y3 := F4.c3
 have z0 := F5.c0
 have z1 := F5.c1
 have z2 := F5.c2
 have z3 := F5.c3
 go_wp2_with fail
 refine (HSm.out _ F4.v F5.v).mono ?_
 rintro e w12 ⟨vb, vk, vA, vc, vl, vB, vd, rfl, hV, hv⟩
 replace HB := bel_step HB hv
 have t0 := keep_cell hv t0
 have t1 := keep_cell hv t1
 have t2 := keep_cell hv t2
 have x0 := keep_cell hv x0
 have x1 := keep_cell hv x1
 have x2 := keep_cell hv x2
 have x3 := keep_cell hv x3
 have x4 := keep_cell hv x4
 have x5 := keep_cell hv x5
 have x6 := keep_cell hv x6
 have x7 := keep_cell hv x7
 replace hX := hX.below hv
 replace hY := hY.below hv
 replace F1 := F1.below hv
 replace F2 := F2.below hv
 replace F3 := F3.below hv
 replace F4 := F4.below hv
 replace F5 := F5.below hv
 clear hv
 go_upto_region 7 with fail
 refine enterR (P := fun u => Code.wp _ _ _ _ u) (c := [.bool vb, .slice vA vk vc, .bool false, .slice vB vl vd]) ?_
 intro v6 hv r1 zn hsz
 have F6 := FbX.new (w := w12) r1 hV hv
 replace HB := bel_step HB hv
 have t0 := keep_cell hv t0
 have t1 := keep_cell hv t1
 have t2 := keep_cell hv t2
 have x0 := keep_cell hv x0
 have x1 := keep_cell hv x1
 have x2 := keep_cell hv x2
 have x3 := keep_cell hv x3
 have x4 := keep_cell hv x4
 have x5 := keep_cell hv x5
 have x6 := keep_cell hv x6
 have x7 := keep_cell hv x7
 replace hX := hX.below hv
 replace hY := hY.below hv
 replace F1 := F1.below hv
 replace F2 := F2.below hv
 replace F3 := F3.below hv
 replace F4 := F4.below hv
 replace F5 := F5.below hv
 clear hv r1 zn hsz hV
 generalize w12.heap.size = g6 at *
 clear HSm y0 y1 y2 y3 z0 z1 z2 z3 x0 x1 x2 x3 x4 x5 x6 x7 t0 t1 t2
 have HF := hid (qsame_v F6.v F3.v)
 have y0 := F6.c0
 have y1 := F6.c1
 have y2 := F6.c2
 have y3 := F6.c3
 have z0 := F3.c0
 have z1 := F3.c1
 have z2 := F3.c2
 have z3 := F3.c3
 clear F1 F2 F3 F4 F5 F6 hX hY
 go_wp2_with fail
 refine (HF.out).mono ?_
 rintro e w13 ⟨rfl, hv⟩
 replace HB := bel_step HB hv
 clear hv
 go_wp2
 go_ret
 exact ⟨rfl, HB⟩
end Go.Proofs.Ytglailcfgcdagaa
/- Geometry: the numbers of the law Lines. Conditions: none. -/
namespace Go.Proofs.Ytglailcfgcdagaa
open Go.RowKit Big
theorem sz_new {x y : Int} (hx : Bz 1024 x) (hy : Bz 1024 y) (h0 : y ≠ 0) : Sz 1024 (newE x y).1 ∧ Nf (newE x y).1 := by
 obtain ⟨_, h2, h3⟩ := newE_bz hx hy h0 (by omega)
 refine ⟨?_, h2⟩
 rw [h3]
 unfold Bz at hx hy
 exact low_sz (by split <;> omega) (by omega)
theorem on_facts {A B C D mx my : Int} (hA : i64B A) (hB : i64B B) (zD : Bz 1024 D) (zx : Bz 1024 mx) (zy : Bz 1024 my) (hD : D ≠ 0) (h : A * mx + B * my = C * D) :
  ∃ P Q, Vf (newE mx D).1 ∧ Vf (newE my D).1 ∧ Vf P ∧ Vf Q ∧ mulE (A, 1) (newE mx D).1 = (P, 0) ∧ mulE (B, 1) (newE my D).1 = (Q, 0) ∧ addE P Q = ((C, 1), 0) := by
 obtain ⟨sx, nx⟩ := sz_new zx zD hD
 obtain ⟨sy, ny⟩ := sz_new zy zD hD
 have s1 := fmul_sz (sz_i64 hA) sx
 have s2 := fmul_sz (sz_i64 hB) sy
 have n1 := fmul_nf (nf_one A) nx
 have n2 := fmul_nf (nf_one B) ny
 refine ⟨fmul (A, 1) (newE mx D).1, fmul (B, 1) (newE my D).1, sx.vf (by omega) nx, sy.vf (by omega) ny, s1.vf (by omega) n1, s2.vf (by omega) n2, mulE_sz (sz_i64 hA) sx (by omega), mulE_sz (sz_i64 hB) sy (by omega), ?_⟩
 rw [addE_sz s1 s2 (by omega), on_frac hD (new_val zx zD hD (by omega)) (new_val zy zD hD (by omega)) nx ny h]
/-- what a line through two points is -/
structure LnF (a b : Int × Int) (A B C : Int) : Prop where
 on1 : A * a.1 + B * a.2 = C
 on2 : A * b.1 + B * b.2 = C
 norm : 0 < A ∨ (A = 0 ∧ B = 1)
 bA : -33554432 ≤ A ∧ A ≤ 33554432
 bB : -33554432 ≤ B ∧ B ≤ 33554432
 ia : inP a = true
 ib : inP b = true
theorem tdiv_box {p d k : Int} (h : -k ≤ p ∧ p ≤ k) : -k ≤ p.tdiv d ∧ p.tdiv d ≤ k := by
 have h1 : (p.tdiv d).natAbs ≤ p.natAbs := by rw [Int.natAbs_tdiv]; exact Nat.div_le_self _ _
 omega
theorem thr_facts {a b : Int × Int} {A B C e : Int} (h : thrE a b = ((A, B, C), e)) (he : e = 0) : LnF a b A B C := by
 unfold thrE at h
 by_cases h0 : chkP [a, b] = 0
 ·rw [if_pos h0] at h
  by_cases h1 : a = b
  ·rw [if_pos h1] at h
   injection h with _ h
   omega
  ·rw [if_neg h1] at h
   injection h with h2 _
   injection h2 with h3 h4
   injection h4 with h5 h6
   obtain ⟨_, hin⟩ := chkP_zero h0
   have ia := hin a (by simp)
   have ib := hin b (by simp)
   have ja := inP_iff.1 ia
   have jb := inP_iff.1 ib
   subst h3 h5 h6
   exact ⟨rfl, on_line h1, line_norm h1, by unfold lnP; exact tdiv_box (by omega), by unfold lnQ; exact tdiv_box (by omega), ia, ib⟩
 ·rw [if_neg h0] at h
  injection h with _ h
  omega
end Go.Proofs.Ytglailcfgcdagaa
