/- Geometry: the law Covers. Conditions: none. -/
import Derived.Test.YtglailcfgcdagaaZLg2
set_option linter.unusedVariables false
set_option linter.unusedSimpArgs false
namespace Go.Proofs.Ytglailcfgcdagaa
open Go.RowKit Big
theorem wr64 {z : Int} (h : -9223372036854775808 ≤ z ∧ z ≤ 9223372036854775807) : IntKind.i64.wrap z = z := by rw [IntKind.wrap_i64]; omega
theorem hld_iff (b : Bx) (x y : Int) : hldZ b x y = true ↔ (b.x ≤ x ∧ x < b.x + b.w ∧ b.y ≤ y ∧ y < b.y + b.h) := by unfold hldZ; simp only [Bool.and_eq_true, decide_eq_true_eq]
/-- what the law says of two boxes that are not empty -/
structure CovF (a b o u : Bx) (is : Bool) (x y : Int) (s1 s2 t1 t2 m1 m2 n1 n2 : Int) : Prop where
 e : s1 = a.x + a.w ∧ s2 = a.y + a.h ∧ t1 = b.x + b.w ∧ t2 = b.y + b.h ∧ max s1 t1 = m1 ∧ max s2 t2 = m2 ∧ min a.x b.x = n1 ∧ min a.y b.y = n2
 w : IntKind.i64.wrap s1 = s1 ∧ IntKind.i64.wrap s2 = s2 ∧ IntKind.i64.wrap t1 = t1 ∧ IntKind.i64.wrap t2 = t2 ∧ IntKind.i64.wrap m1 = m1 ∧ IntKind.i64.wrap m2 = m2
 wo : IntKind.i64.wrap (o.x + o.w) = o.x + o.w ∧ IntKind.i64.wrap (o.y + o.h) = o.y + o.h
 uu : u.x = n1 ∧ u.y = n2 ∧ u.x + u.w = m1 ∧ u.y + u.h = m2
 yes : is = true → 0 < o.w ∧ 0 < o.h ∧ hldZ o x y = (hldZ a x y && hldZ b x y)
 no : is = false → o = noX ∧ (hldZ a x y && hldZ b x y) = false
 any : hldZ a x y = true ∨ hldZ b x y = true → hldZ u x y = true
theorem cov_facts {a b : Bx} (ha : empZ a = false) (hb : empZ b = false) (x y : Int) : ∃ s1 s2 t1 t2 m1 m2 n1 n2, CovF a b (ovlE a b).1 (uniE a b) (ovlE a b).2 x y s1 s2 t1 t2 m1 m2 n1 n2 := by
 have na := emp_no ha
 have nb := emp_no hb
 have hu : uniE a b = btwZ (min a.x b.x) (min a.y b.y) (max (a.x + a.w) (b.x + b.w)) (max (a.y + a.h) (b.y + b.h)) := by unfold uniE; rw [ha, hb]; rfl
 have ho : ovlE a b = if (min (a.x + a.w) (b.x + b.w) - max a.x b.x < 1) ∨ (min (a.y + a.h) (b.y + b.h) - max a.y b.y < 1) then (noX, false)
  else (btwZ (max a.x b.x) (max a.y b.y) (min (a.x + a.w) (b.x + b.w)) (min (a.y + a.h) (b.y + b.h)), true) := by unfold ovlE; rw [ha, hb]; rfl
 have key : ∀ p q : Bool, (p = true ↔ q = true) → p = q := fun p q h => by cases p <;> cases q <;> simp_all
 refine ⟨_, _, _, _, _, _, _, _, ⟨rfl, rfl, rfl, rfl, rfl, rfl, rfl, rfl⟩, ⟨wr64 (by omega), wr64 (by omega), wr64 (by omega), wr64 (by omega), wr64 (by omega), wr64 (by omega)⟩, ?_, ?_, ?_, ?_, ?_⟩
 ·rw [ho]
  split
  ·unfold noX; exact ⟨wr64 (by dsimp only; omega), wr64 (by dsimp only; omega)⟩
  ·unfold btwZ; exact ⟨wr64 (by dsimp only; omega), wr64 (by dsimp only; omega)⟩
 ·rw [hu]; unfold btwZ; dsimp only; omega
 ·rw [ho]
  split
  ·intro h; cases h
  ·intro _
   unfold btwZ
   refine ⟨by dsimp only; omega, by dsimp only; omega, key _ _ ?_⟩
   rw [Bool.and_eq_true, hld_iff, hld_iff, hld_iff]
   dsimp only
   constructor <;> intro _ <;> omega
 ·rw [ho]
  split
  ·intro _
   refine ⟨rfl, ?_⟩
   rename_i h
   cases hd : (hldZ a x y && hldZ b x y)
   ·rfl
   ·rw [Bool.and_eq_true, hld_iff, hld_iff] at hd
    omega
  ·intro h; cases h
 ·rw [hu, hld_iff, hld_iff, hld_iff]
  unfold btwZ; dsimp only
  omega
set_option maxRecDepth 100000 in
set_option maxHeartbeats 8000000 in
theorem Covers_law (a b : Bx) (p : Int × Int) (w : World) : Calls Try.prog 8 #[.agg #[.int .i64 a.x, .int .i64 a.y, .int .i64 a.w, .int .i64 a.h], .agg #[.int .i64 b.x, .int .i64 b.y, .int .i64 b.w, .int .i64 b.h], .agg #[.int .i64 p.1, .int .i64 p.2]] w (RetB w true) := by
 obtain ⟨ta, hta⟩ : ∃ t, empZ a = t := ⟨_, rfl⟩
 obtain ⟨tb, htb⟩ : ∃ t, empZ b = t := ⟨_, rfl⟩
 have H0 := hid fun (W : World) => alive_ok W
 have H1 := hid fun (W : World) => (show Calls Try.prog 30 #[.agg #[.int .i64 a.x, .int .i64 a.y, .int .i64 a.w, .int .i64 a.h]] W (RetB W ta) from by rw [← hta]; exact GEmpty_g a W)
 have H2 := hid fun (W : World) => (show Calls Try.prog 30 #[.agg #[.int .i64 b.x, .int .i64 b.y, .int .i64 b.w, .int .i64 b.h]] W (RetB W tb) from by rw [← htb]; exact GEmpty_g b W)
 have HF := hid fun (h1 : ta = false) (h2 : tb = false) => (show ∃ (o u : Bx) (is : Bool) (s1 s2 t1 t2 m1 m2 n1 n2 : Int), ovlE a b = (o, is) ∧ uniE a b = u ∧ CovF a b o u is p.1 p.2 s1 s2 t1 t2 m1 m2 n1 n2 from by
  obtain ⟨s1, s2, t1, t2, m1, m2, n1, n2, hc⟩ := cov_facts (hta.trans h1) (htb.trans h2) p.1 p.2
  exact ⟨_, _, _, s1, s2, t1, t2, m1, m2, n1, n2, rfl, rfl, hc⟩)
 have H3 := hid fun (W : World) => GOverlap_g a b W
 have H4 := hid fun (W : World) => GUnion_g a b W
 have H5 := hid fun (b : Bx) (x y : Int) (h1 : IntKind.i64.wrap (b.x + b.w) = b.x + b.w) (h2 : IntKind.i64.wrap (b.y + b.h) = b.y + b.h) (W : World) => holds_g b x y h1 h2 W
 clear hta htb
 generalize ovlE a b = O at *
 generalize uniE a b = U at *
 obtain ⟨ax, ay, aw, ah⟩ := a
 obtain ⟨bx, by_, bw, bh⟩ := b
 obtain ⟨px, py⟩ := p
 dsimp only at H1 H2 H3 H4 ⊢
 go_enter Try.func8, Try.ntmps8
 go_upto_region 1 with fail
 refine enterR3 (P := fun u => Code.wp _ _ _ _ u) (c0 := [.int .i64 ax, .int .i64 ay, .int .i64 aw, .int .i64 ah]) (c1 := [.int .i64 bx, .int .i64 by_, .int .i64 bw, .int .i64 bh]) (c2 := [.int .i64 px, .int .i64 py]) ?_
 intro u HB r0 r1 r2 zn0 zn1 zn2 hsz
 have ca0 : (u).cell? ⟨w.heap.size, 0, none⟩ = some (.int .i64 (⟨ax, ay, aw, ah⟩ : Bx).x) := r0 0 _ rfl
 have ca1 : (u).cell? ⟨w.heap.size, 1, none⟩ = some (.int .i64 (⟨ax, ay, aw, ah⟩ : Bx).y) := r0 1 _ rfl
 have ca2 : (u).cell? ⟨w.heap.size, 2, none⟩ = some (.int .i64 (⟨ax, ay, aw, ah⟩ : Bx).w) := r0 2 _ rfl
 have ca3 : (u).cell? ⟨w.heap.size, 3, none⟩ = some (.int .i64 (⟨ax, ay, aw, ah⟩ : Bx).h) := r0 3 _ rfl
 have cb0 : (u).cell? ⟨w.heap.size + 1, 0, none⟩ = some (.int .i64 (⟨bx, by_, bw, bh⟩ : Bx).x) := r1 0 _ rfl
 have cb1 : (u).cell? ⟨w.heap.size + 1, 1, none⟩ = some (.int .i64 (⟨bx, by_, bw, bh⟩ : Bx).y) := r1 1 _ rfl
 have cb2 : (u).cell? ⟨w.heap.size + 1, 2, none⟩ = some (.int .i64 (⟨bx, by_, bw, bh⟩ : Bx).w) := r1 2 _ rfl
 have cb3 : (u).cell? ⟨w.heap.size + 1, 3, none⟩ = some (.int .i64 (⟨bx, by_, bw, bh⟩ : Bx).h) := r1 3 _ rfl
 dsimp only at ca0 ca1 ca2 ca3 cb0 cb1 cb2 cb3
 have p0 := r2 0 _ rfl
 have p1 := r2 1 _ rfl
 simp only [Nat.zero_add] at p0 p1
 clear r0 r1 r2 zn0 zn1 zn2 hsz
 go_wp2_with fail
 refine (H1.out _).mono ?_
 rintro e w1 ⟨rfl, hv⟩
 replace HB := bel_step HB hv
 have ca0 := keep_cell hv ca0
 have ca1 := keep_cell hv ca1
 have ca2 := keep_cell hv ca2
 have ca3 := keep_cell hv ca3
 have cb0 := keep_cell hv cb0
 have cb1 := keep_cell hv cb1
 have cb2 := keep_cell hv cb2
 have cb3 := keep_cell hv cb3
 have p0 := keep_cell hv p0
 have p1 := keep_cell hv p1
 clear hv H1
 cases ta
 ·go_wp2_with fail
  refine (H2.out _).mono ?_
  rintro e w2 ⟨rfl, hv⟩
  replace HB := bel_step HB hv
  have ca0 := keep_cell hv ca0
  have ca1 := keep_cell hv ca1
  have ca2 := keep_cell hv ca2
  have ca3 := keep_cell hv ca3
  have cb0 := keep_cell hv cb0
  have cb1 := keep_cell hv cb1
  have cb2 := keep_cell hv cb2
  have cb3 := keep_cell hv cb3
  have p0 := keep_cell hv p0
  have p1 := keep_cell hv p1
  clear hv H2
  cases tb
  ·obtain ⟨o, u_, is, s1, s2, t1, t2, m1, m2, n1, n2, rfl, rfl, hC⟩ := HF.out (by first | rfl | trivial) (by first | rfl | trivial)
   clear HF
   obtain ⟨ox, oy, ow, oh⟩ := o
   obtain ⟨ux, uy, uw, uh⟩ := U
   obtain ⟨⟨e1, e2, e3, e4, e5, e6, e7, e8⟩, ⟨k1, k2, k3, k4, k5, k6⟩, ⟨k7, k8⟩, ⟨f1, f2, f3, f4⟩, hyes, hno, hany⟩ := hC
   have A5 := hid fun (W : World) => H5.out ⟨ax, ay, aw, ah⟩ px py (by rw [← e1]; exact k1) (by rw [← e2]; exact k2) W
   have B5 := hid fun (W : World) => H5.out ⟨bx, by_, bw, bh⟩ px py (by rw [← e3]; exact k3) (by rw [← e4]; exact k4) W
   have O5 := hid fun (W : World) => H5.out ⟨ox, oy, ow, oh⟩ px py k7 k8 W
   have U5 := hid fun (W : World) => H5.out ⟨ux, uy, uw, uh⟩ px py (by rw [f3]; exact k5) (by rw [f4]; exact k6) W
   generalize hldZ ⟨ax, ay, aw, ah⟩ px py = ha at *
   generalize hldZ ⟨bx, by_, bw, bh⟩ px py = hb at *
   generalize hldZ ⟨ox, oy, ow, oh⟩ px py = hoo at *
   generalize hldZ ⟨ux, uy, uw, uh⟩ px py = huu at *
   dsimp only at e1 e2 e3 e4 e7 e8 f1 f2 f3 f4 H3 H4 A5 B5 O5 U5 hyes hno
   replace e1 := e1.symm
   replace e2 := e2.symm
   replace e3 := e3.symm
   replace e4 := e4.symm
   subst f1 f2
   have HN := hid (And.intro hyes (And.intro hno hany))
   have EQ := hid (And.intro e1 (And.intro e2 (And.intro e3 (And.intro e4 (And.intro e5 (And.intro e6 (And.intro e7 (And.intro e8 (And.intro f3 f4)))))))))
   clear H5 hyes hno hany k7 k8 e1 e2 e3 e4 e5 e6 e7 e8 f3 f4
   go_wp2_with fail
   refine (H3.out _).mono ?_
   rintro e w3 ⟨rfl, hv⟩
   dsimp only
   replace HB := bel_step HB hv
   have ca0 := keep_cell hv ca0
   have ca1 := keep_cell hv ca1
   have ca2 := keep_cell hv ca2
   have ca3 := keep_cell hv ca3
   have cb0 := keep_cell hv cb0
   have cb1 := keep_cell hv cb1
   have cb2 := keep_cell hv cb2
   have cb3 := keep_cell hv cb3
   have p0 := keep_cell hv p0
   have p1 := keep_cell hv p1
   clear hv H3
   go_upto_region 4 with fail
   refine enterR (P := fun u => Code.wp _ _ _ _ u) (c := [.int .i64 ox, .int .i64 oy, .int .i64 ow, .int .i64 oh]) ?_
   intro v1 hv r1 zn hsz
   replace HB := bel_step HB hv
   have ca0 := keep_cell hv ca0
   have ca1 := keep_cell hv ca1
   have ca2 := keep_cell hv ca2
   have ca3 := keep_cell hv ca3
   have cb0 := keep_cell hv cb0
   have cb1 := keep_cell hv cb1
   have cb2 := keep_cell hv cb2
   have cb3 := keep_cell hv cb3
   have p0 := keep_cell hv p0
   have p1 := keep_cell hv p1
   have q0 := r1 0 _ rfl
   have q1 := r1 1 _ rfl
   have q2 := r1 2 _ rfl
   have q3 := r1 3 _ rfl
   simp only [Nat.zero_add] at q0 q1 q2 q3
   clear hv r1 zn hsz
   generalize w3.heap.size = g1 at *
   go_wp2_with fail
   refine (H4.out _).mono ?_
   rintro e w4 ⟨rfl, hv⟩
   dsimp only
   replace HB := bel_step HB hv
   have ca0 := keep_cell hv ca0
   have ca1 := keep_cell hv ca1
   have ca2 := keep_cell hv ca2
   have ca3 := keep_cell hv ca3
   have cb0 := keep_cell hv cb0
   have cb1 := keep_cell hv cb1
   have cb2 := keep_cell hv cb2
   have cb3 := keep_cell hv cb3
   have p0 := keep_cell hv p0
   have p1 := keep_cell hv p1
   have q0 := keep_cell hv q0
   have q1 := keep_cell hv q1
   have q2 := keep_cell hv q2
   have q3 := keep_cell hv q3
   clear hv H4
   go_upto_region 5 with fail
   refine enterR (P := fun u => Code.wp _ _ _ _ u) (c := [.int .i64 ux, .int .i64 uy, .int .i64 uw, .int .i64 uh]) ?_
   intro v2 hv r1 zn hsz
   replace HB := bel_step HB hv
   have ca0 := keep_cell hv ca0
   have ca1 := keep_cell hv ca1
   have ca2 := keep_cell hv ca2
   have ca3 := keep_cell hv ca3
   have cb0 := keep_cell hv cb0
   have cb1 := keep_cell hv cb1
   have cb2 := keep_cell hv cb2
   have cb3 := keep_cell hv cb3
   have p0 := keep_cell hv p0
   have p1 := keep_cell hv p1
   have q0 := keep_cell hv q0
   have q1 := keep_cell hv q1
   have q2 := keep_cell hv q2
   have q3 := keep_cell hv q3
   have z0 := r1 0 _ rfl
   have z1 := r1 1 _ rfl
   have z2 := r1 2 _ rfl
   have z3 := r1 3 _ rfl
   simp only [Nat.zero_add] at z0 z1 z2 z3
   clear hv r1 zn hsz
   generalize w4.heap.size = g2 at *
   cases is
   ·obtain ⟨ho, hab⟩ := HN.out.2.1 (by first | rfl | trivial)
    have hany := hid HN.out.2.2
    injection ho with ho1 ho2 ho3 ho4
    subst ho1 ho2 ho3 ho4
    clear HN
    cases ha
    ·cases hb
     ·skip
      go_wp2_with fail
      refine (A5.out _).mono ?_
      rintro e x1 ⟨rfl, hv⟩
      replace HB := bel_step HB hv
      have ca0 := keep_cell hv ca0
      have ca1 := keep_cell hv ca1
      have ca2 := keep_cell hv ca2
      have ca3 := keep_cell hv ca3
      have cb0 := keep_cell hv cb0
      have cb1 := keep_cell hv cb1
      have cb2 := keep_cell hv cb2
      have cb3 := keep_cell hv cb3
      have p0 := keep_cell hv p0
      have p1 := keep_cell hv p1
      have q0 := keep_cell hv q0
      have q1 := keep_cell hv q1
      have q2 := keep_cell hv q2
      have q3 := keep_cell hv q3
      have z0 := keep_cell hv z0
      have z1 := keep_cell hv z1
      have z2 := keep_cell hv z2
      have z3 := keep_cell hv z3
      clear hv
      go_wp2_with fail
      refine (A5.out _).mono ?_
      rintro e x4 ⟨rfl, hv⟩
      replace HB := bel_step HB hv
      have ca0 := keep_cell hv ca0
      have ca1 := keep_cell hv ca1
      have ca2 := keep_cell hv ca2
      have ca3 := keep_cell hv ca3
      have cb0 := keep_cell hv cb0
      have cb1 := keep_cell hv cb1
      have cb2 := keep_cell hv cb2
      have cb3 := keep_cell hv cb3
      have p0 := keep_cell hv p0
      have p1 := keep_cell hv p1
      have q0 := keep_cell hv q0
      have q1 := keep_cell hv q1
      have q2 := keep_cell hv q2
      have q3 := keep_cell hv q3
      have z0 := keep_cell hv z0
      have z1 := keep_cell hv z1
      have z2 := keep_cell hv z2
      have z3 := keep_cell hv z3
      clear hv
      go_wp2_with fail
      refine (B5.out _).mono ?_
      rintro e x5 ⟨rfl, hv⟩
      replace HB := bel_step HB hv
      have ca0 := keep_cell hv ca0
      have ca1 := keep_cell hv ca1
      have ca2 := keep_cell hv ca2
      have ca3 := keep_cell hv ca3
      have cb0 := keep_cell hv cb0
      have cb1 := keep_cell hv cb1
      have cb2 := keep_cell hv cb2
      have cb3 := keep_cell hv cb3
      have p0 := keep_cell hv p0
      have p1 := keep_cell hv p1
      have q0 := keep_cell hv q0
      have q1 := keep_cell hv q1
      have q2 := keep_cell hv q2
      have q3 := keep_cell hv q3
      have z0 := keep_cell hv z0
      have z1 := keep_cell hv z1
      have z2 := keep_cell hv z2
      have z3 := keep_cell hv z3
      clear hv
      obtain ⟨e1, e2, e3, e4, e5, e6, e7, e8, f3, f4⟩ := EQ.out
      clear A5 B5 O5 U5 hany EQ
      go_wp2_with fail
      refine (H0.out _).mono ?_
      rintro e w9 ⟨rfl, hv⟩
      replace HB := bel_step HB hv
      clear hv
      go_wp2
      go_ret
      exact ⟨rfl, HB⟩
     ·skip
      go_wp2_with fail
      refine (A5.out _).mono ?_
      rintro e x1 ⟨rfl, hv⟩
      replace HB := bel_step HB hv
      have ca0 := keep_cell hv ca0
      have ca1 := keep_cell hv ca1
      have ca2 := keep_cell hv ca2
      have ca3 := keep_cell hv ca3
      have cb0 := keep_cell hv cb0
      have cb1 := keep_cell hv cb1
      have cb2 := keep_cell hv cb2
      have cb3 := keep_cell hv cb3
      have p0 := keep_cell hv p0
      have p1 := keep_cell hv p1
      have q0 := keep_cell hv q0
      have q1 := keep_cell hv q1
      have q2 := keep_cell hv q2
      have q3 := keep_cell hv q3
      have z0 := keep_cell hv z0
      have z1 := keep_cell hv z1
      have z2 := keep_cell hv z2
      have z3 := keep_cell hv z3
      clear hv
      go_wp2_with fail
      refine (A5.out _).mono ?_
      rintro e x4 ⟨rfl, hv⟩
      replace HB := bel_step HB hv
      have ca0 := keep_cell hv ca0
      have ca1 := keep_cell hv ca1
      have ca2 := keep_cell hv ca2
      have ca3 := keep_cell hv ca3
      have cb0 := keep_cell hv cb0
      have cb1 := keep_cell hv cb1
      have cb2 := keep_cell hv cb2
      have cb3 := keep_cell hv cb3
      have p0 := keep_cell hv p0
      have p1 := keep_cell hv p1
      have q0 := keep_cell hv q0
      have q1 := keep_cell hv q1
      have q2 := keep_cell hv q2
      have q3 := keep_cell hv q3
      have z0 := keep_cell hv z0
      have z1 := keep_cell hv z1
      have z2 := keep_cell hv z2
      have z3 := keep_cell hv z3
      clear hv
      go_wp2_with fail
      refine (B5.out _).mono ?_
      rintro e x5 ⟨rfl, hv⟩
      replace HB := bel_step HB hv
      have ca0 := keep_cell hv ca0
      have ca1 := keep_cell hv ca1
      have ca2 := keep_cell hv ca2
      have ca3 := keep_cell hv ca3
      have cb0 := keep_cell hv cb0
      have cb1 := keep_cell hv cb1
      have cb2 := keep_cell hv cb2
      have cb3 := keep_cell hv cb3
      have p0 := keep_cell hv p0
      have p1 := keep_cell hv p1
      have q0 := keep_cell hv q0
      have q1 := keep_cell hv q1
      have q2 := keep_cell hv q2
      have q3 := keep_cell hv q3
      have z0 := keep_cell hv z0
      have z1 := keep_cell hv z1
      have z2 := keep_cell hv z2
      have z3 := keep_cell hv z3
      clear hv
      obtain rfl := hany.out (by first | exact Or.inl rfl | exact Or.inr rfl | trivial)
      obtain ⟨e1, e2, e3, e4, e5, e6, e7, e8, f3, f4⟩ := EQ.out
      clear A5 B5 O5 hany EQ
      go_wp2_with fail
      refine (U5.out _).mono ?_
      rintro e x6 ⟨rfl, hv⟩
      replace HB := bel_step HB hv
      have ca0 := keep_cell hv ca0
      have ca1 := keep_cell hv ca1
      have ca2 := keep_cell hv ca2
      have ca3 := keep_cell hv ca3
      have cb0 := keep_cell hv cb0
      have cb1 := keep_cell hv cb1
      have cb2 := keep_cell hv cb2
      have cb3 := keep_cell hv cb3
      have p0 := keep_cell hv p0
      have p1 := keep_cell hv p1
      have q0 := keep_cell hv q0
      have q1 := keep_cell hv q1
      have q2 := keep_cell hv q2
      have q3 := keep_cell hv q3
      have z0 := keep_cell hv z0
      have z1 := keep_cell hv z1
      have z2 := keep_cell hv z2
      have z3 := keep_cell hv z3
      clear hv
      clear U5
      go_wp2_with fail
      refine (H0.out _).mono ?_
      rintro e w9 ⟨rfl, hv⟩
      replace HB := bel_step HB hv
      clear hv
      go_wp2
      go_ret
      exact ⟨rfl, HB⟩
    ·cases hb
     ·skip
      go_wp2_with fail
      refine (A5.out _).mono ?_
      rintro e x1 ⟨rfl, hv⟩
      replace HB := bel_step HB hv
      have ca0 := keep_cell hv ca0
      have ca1 := keep_cell hv ca1
      have ca2 := keep_cell hv ca2
      have ca3 := keep_cell hv ca3
      have cb0 := keep_cell hv cb0
      have cb1 := keep_cell hv cb1
      have cb2 := keep_cell hv cb2
      have cb3 := keep_cell hv cb3
      have p0 := keep_cell hv p0
      have p1 := keep_cell hv p1
      have q0 := keep_cell hv q0
      have q1 := keep_cell hv q1
      have q2 := keep_cell hv q2
      have q3 := keep_cell hv q3
      have z0 := keep_cell hv z0
      have z1 := keep_cell hv z1
      have z2 := keep_cell hv z2
      have z3 := keep_cell hv z3
      clear hv
      go_wp2_with fail
      refine (B5.out _).mono ?_
      rintro e x2 ⟨rfl, hv⟩
      replace HB := bel_step HB hv
      have ca0 := keep_cell hv ca0
      have ca1 := keep_cell hv ca1
      have ca2 := keep_cell hv ca2
      have ca3 := keep_cell hv ca3
      have cb0 := keep_cell hv cb0
      have cb1 := keep_cell hv cb1
      have cb2 := keep_cell hv cb2
      have cb3 := keep_cell hv cb3
      have p0 := keep_cell hv p0
      have p1 := keep_cell hv p1
      have q0 := keep_cell hv q0
      have q1 := keep_cell hv q1
      have q2 := keep_cell hv q2
      have q3 := keep_cell hv q3
      have z0 := keep_cell hv z0
      have z1 := keep_cell hv z1
      have z2 := keep_cell hv z2
      have z3 := keep_cell hv z3
      clear hv
      go_wp2_with fail
      refine (A5.out _).mono ?_
      rintro e x4 ⟨rfl, hv⟩
      replace HB := bel_step HB hv
      have ca0 := keep_cell hv ca0
      have ca1 := keep_cell hv ca1
      have ca2 := keep_cell hv ca2
      have ca3 := keep_cell hv ca3
      have cb0 := keep_cell hv cb0
      have cb1 := keep_cell hv cb1
      have cb2 := keep_cell hv cb2
      have cb3 := keep_cell hv cb3
      have p0 := keep_cell hv p0
      have p1 := keep_cell hv p1
      have q0 := keep_cell hv q0
      have q1 := keep_cell hv q1
      have q2 := keep_cell hv q2
      have q3 := keep_cell hv q3
      have z0 := keep_cell hv z0
      have z1 := keep_cell hv z1
      have z2 := keep_cell hv z2
      have z3 := keep_cell hv z3
      clear hv
      obtain rfl := hany.out (by first | exact Or.inl rfl | exact Or.inr rfl | trivial)
      obtain ⟨e1, e2, e3, e4, e5, e6, e7, e8, f3, f4⟩ := EQ.out
      clear A5 B5 O5 hany EQ
      go_wp2_with fail
      refine (U5.out _).mono ?_
      rintro e x6 ⟨rfl, hv⟩
      replace HB := bel_step HB hv
      have ca0 := keep_cell hv ca0
      have ca1 := keep_cell hv ca1
      have ca2 := keep_cell hv ca2
      have ca3 := keep_cell hv ca3
      have cb0 := keep_cell hv cb0
      have cb1 := keep_cell hv cb1
      have cb2 := keep_cell hv cb2
      have cb3 := keep_cell hv cb3
      have p0 := keep_cell hv p0
      have p1 := keep_cell hv p1
      have q0 := keep_cell hv q0
      have q1 := keep_cell hv q1
      have q2 := keep_cell hv q2
      have q3 := keep_cell hv q3
      have z0 := keep_cell hv z0
      have z1 := keep_cell hv z1
      have z2 := keep_cell hv z2
      have z3 := keep_cell hv z3
      clear hv
      clear U5
      go_wp2_with fail
      refine (H0.out _).mono ?_
      rintro e w9 ⟨rfl, hv⟩
      replace HB := bel_step HB hv
      clear hv
      go_wp2
      go_ret
      exact ⟨rfl, HB⟩
     ·cases hab
   ·obtain ⟨hw, hh, hoe⟩ := HN.out.1 (by first | rfl | trivial)
    have hany := hid HN.out.2.2
    clear HN
    subst hoe
    cases ha
    ·cases hb
     ·skip
      go_wp2_with fail
      refine (A5.out _).mono ?_
      rintro e x1 ⟨rfl, hv⟩
      replace HB := bel_step HB hv
      have ca0 := keep_cell hv ca0
      have ca1 := keep_cell hv ca1
      have ca2 := keep_cell hv ca2
      have ca3 := keep_cell hv ca3
      have cb0 := keep_cell hv cb0
      have cb1 := keep_cell hv cb1
      have cb2 := keep_cell hv cb2
      have cb3 := keep_cell hv cb3
      have p0 := keep_cell hv p0
      have p1 := keep_cell hv p1
      have q0 := keep_cell hv q0
      have q1 := keep_cell hv q1
      have q2 := keep_cell hv q2
      have q3 := keep_cell hv q3
      have z0 := keep_cell hv z0
      have z1 := keep_cell hv z1
      have z2 := keep_cell hv z2
      have z3 := keep_cell hv z3
      clear hv
      go_wp2_with fail
      refine (O5.out _).mono ?_
      rintro e x3 ⟨rfl, hv⟩
      replace HB := bel_step HB hv
      have ca0 := keep_cell hv ca0
      have ca1 := keep_cell hv ca1
      have ca2 := keep_cell hv ca2
      have ca3 := keep_cell hv ca3
      have cb0 := keep_cell hv cb0
      have cb1 := keep_cell hv cb1
      have cb2 := keep_cell hv cb2
      have cb3 := keep_cell hv cb3
      have p0 := keep_cell hv p0
      have p1 := keep_cell hv p1
      have q0 := keep_cell hv q0
      have q1 := keep_cell hv q1
      have q2 := keep_cell hv q2
      have q3 := keep_cell hv q3
      have z0 := keep_cell hv z0
      have z1 := keep_cell hv z1
      have z2 := keep_cell hv z2
      have z3 := keep_cell hv z3
      clear hv
      go_wp2_with fail
      refine (A5.out _).mono ?_
      rintro e x4 ⟨rfl, hv⟩
      replace HB := bel_step HB hv
      have ca0 := keep_cell hv ca0
      have ca1 := keep_cell hv ca1
      have ca2 := keep_cell hv ca2
      have ca3 := keep_cell hv ca3
      have cb0 := keep_cell hv cb0
      have cb1 := keep_cell hv cb1
      have cb2 := keep_cell hv cb2
      have cb3 := keep_cell hv cb3
      have p0 := keep_cell hv p0
      have p1 := keep_cell hv p1
      have q0 := keep_cell hv q0
      have q1 := keep_cell hv q1
      have q2 := keep_cell hv q2
      have q3 := keep_cell hv q3
      have z0 := keep_cell hv z0
      have z1 := keep_cell hv z1
      have z2 := keep_cell hv z2
      have z3 := keep_cell hv z3
      clear hv
      go_wp2_with fail
      refine (B5.out _).mono ?_
      rintro e x5 ⟨rfl, hv⟩
      replace HB := bel_step HB hv
      have ca0 := keep_cell hv ca0
      have ca1 := keep_cell hv ca1
      have ca2 := keep_cell hv ca2
      have ca3 := keep_cell hv ca3
      have cb0 := keep_cell hv cb0
      have cb1 := keep_cell hv cb1
      have cb2 := keep_cell hv cb2
      have cb3 := keep_cell hv cb3
      have p0 := keep_cell hv p0
      have p1 := keep_cell hv p1
      have q0 := keep_cell hv q0
      have q1 := keep_cell hv q1
      have q2 := keep_cell hv q2
      have q3 := keep_cell hv q3
      have z0 := keep_cell hv z0
      have z1 := keep_cell hv z1
      have z2 := keep_cell hv z2
      have z3 := keep_cell hv z3
      clear hv
      obtain ⟨e1, e2, e3, e4, e5, e6, e7, e8, f3, f4⟩ := EQ.out
      clear A5 B5 O5 U5 hany EQ
      go_wp2_with fail
      refine (H0.out _).mono ?_
      rintro e w9 ⟨rfl, hv⟩
      replace HB := bel_step HB hv
      clear hv
      go_wp2
      go_ret
      exact ⟨rfl, HB⟩
     ·skip
      go_wp2_with fail
      refine (A5.out _).mono ?_
      rintro e x1 ⟨rfl, hv⟩
      replace HB := bel_step HB hv
      have ca0 := keep_cell hv ca0
      have ca1 := keep_cell hv ca1
      have ca2 := keep_cell hv ca2
      have ca3 := keep_cell hv ca3
      have cb0 := keep_cell hv cb0
      have cb1 := keep_cell hv cb1
      have cb2 := keep_cell hv cb2
      have cb3 := keep_cell hv cb3
      have p0 := keep_cell hv p0
      have p1 := keep_cell hv p1
      have q0 := keep_cell hv q0
      have q1 := keep_cell hv q1
      have q2 := keep_cell hv q2
      have q3 := keep_cell hv q3
      have z0 := keep_cell hv z0
      have z1 := keep_cell hv z1
      have z2 := keep_cell hv z2
      have z3 := keep_cell hv z3
      clear hv
      go_wp2_with fail
      refine (O5.out _).mono ?_
      rintro e x3 ⟨rfl, hv⟩
      replace HB := bel_step HB hv
      have ca0 := keep_cell hv ca0
      have ca1 := keep_cell hv ca1
      have ca2 := keep_cell hv ca2
      have ca3 := keep_cell hv ca3
      have cb0 := keep_cell hv cb0
      have cb1 := keep_cell hv cb1
      have cb2 := keep_cell hv cb2
      have cb3 := keep_cell hv cb3
      have p0 := keep_cell hv p0
      have p1 := keep_cell hv p1
      have q0 := keep_cell hv q0
      have q1 := keep_cell hv q1
      have q2 := keep_cell hv q2
      have q3 := keep_cell hv q3
      have z0 := keep_cell hv z0
      have z1 := keep_cell hv z1
      have z2 := keep_cell hv z2
      have z3 := keep_cell hv z3
      clear hv
      go_wp2_with fail
      refine (A5.out _).mono ?_
      rintro e x4 ⟨rfl, hv⟩
      replace HB := bel_step HB hv
      have ca0 := keep_cell hv ca0
      have ca1 := keep_cell hv ca1
      have ca2 := keep_cell hv ca2
      have ca3 := keep_cell hv ca3
      have cb0 := keep_cell hv cb0
      have cb1 := keep_cell hv cb1
      have cb2 := keep_cell hv cb2
      have cb3 := keep_cell hv cb3
      have p0 := keep_cell hv p0
      have p1 := keep_cell hv p1
      have q0 := keep_cell hv q0
      have q1 := keep_cell hv q1
      have q2 := keep_cell hv q2
      have q3 := keep_cell hv q3
      have z0 := keep_cell hv z0
      have z1 := keep_cell hv z1
      have z2 := keep_cell hv z2
      have z3 := keep_cell hv z3
      clear hv
      go_wp2_with fail
      refine (B5.out _).mono ?_
      rintro e x5 ⟨rfl, hv⟩
      replace HB := bel_step HB hv
      have ca0 := keep_cell hv ca0
      have ca1 := keep_cell hv ca1
      have ca2 := keep_cell hv ca2
      have ca3 := keep_cell hv ca3
      have cb0 := keep_cell hv cb0
      have cb1 := keep_cell hv cb1
      have cb2 := keep_cell hv cb2
      have cb3 := keep_cell hv cb3
      have p0 := keep_cell hv p0
      have p1 := keep_cell hv p1
      have q0 := keep_cell hv q0
      have q1 := keep_cell hv q1
      have q2 := keep_cell hv q2
      have q3 := keep_cell hv q3
      have z0 := keep_cell hv z0
      have z1 := keep_cell hv z1
      have z2 := keep_cell hv z2
      have z3 := keep_cell hv z3
      clear hv
      obtain rfl := hany.out (by first | exact Or.inl rfl | exact Or.inr rfl | trivial)
      obtain ⟨e1, e2, e3, e4, e5, e6, e7, e8, f3, f4⟩ := EQ.out
      clear A5 B5 O5 hany EQ
      go_wp2_with fail
      refine (U5.out _).mono ?_
      rintro e x6 ⟨rfl, hv⟩
      replace HB := bel_step HB hv
      have ca0 := keep_cell hv ca0
      have ca1 := keep_cell hv ca1
      have ca2 := keep_cell hv ca2
      have ca3 := keep_cell hv ca3
      have cb0 := keep_cell hv cb0
      have cb1 := keep_cell hv cb1
      have cb2 := keep_cell hv cb2
      have cb3 := keep_cell hv cb3
      have p0 := keep_cell hv p0
      have p1 := keep_cell hv p1
      have q0 := keep_cell hv q0
      have q1 := keep_cell hv q1
      have q2 := keep_cell hv q2
      have q3 := keep_cell hv q3
      have z0 := keep_cell hv z0
      have z1 := keep_cell hv z1
      have z2 := keep_cell hv z2
      have z3 := keep_cell hv z3
      clear hv
      clear U5
      go_wp2_with fail
      refine (H0.out _).mono ?_
      rintro e w9 ⟨rfl, hv⟩
      replace HB := bel_step HB hv
      clear hv
      go_wp2
      go_ret
      exact ⟨rfl, HB⟩
    ·cases hb
     ·skip
      go_wp2_with fail
      refine (A5.out _).mono ?_
      rintro e x1 ⟨rfl, hv⟩
      replace HB := bel_step HB hv
      have ca0 := keep_cell hv ca0
      have ca1 := keep_cell hv ca1
      have ca2 := keep_cell hv ca2
      have ca3 := keep_cell hv ca3
      have cb0 := keep_cell hv cb0
      have cb1 := keep_cell hv cb1
      have cb2 := keep_cell hv cb2
      have cb3 := keep_cell hv cb3
      have p0 := keep_cell hv p0
      have p1 := keep_cell hv p1
      have q0 := keep_cell hv q0
      have q1 := keep_cell hv q1
      have q2 := keep_cell hv q2
      have q3 := keep_cell hv q3
      have z0 := keep_cell hv z0
      have z1 := keep_cell hv z1
      have z2 := keep_cell hv z2
      have z3 := keep_cell hv z3
      clear hv
      go_wp2_with fail
      refine (B5.out _).mono ?_
      rintro e x2 ⟨rfl, hv⟩
      replace HB := bel_step HB hv
      have ca0 := keep_cell hv ca0
      have ca1 := keep_cell hv ca1
      have ca2 := keep_cell hv ca2
      have ca3 := keep_cell hv ca3
      have cb0 := keep_cell hv cb0
      have cb1 := keep_cell hv cb1
      have cb2 := keep_cell hv cb2
      have cb3 := keep_cell hv cb3
      have p0 := keep_cell hv p0
      have p1 := keep_cell hv p1
      have q0 := keep_cell hv q0
      have q1 := keep_cell hv q1
      have q2 := keep_cell hv q2
      have q3 := keep_cell hv q3
      have z0 := keep_cell hv z0
      have z1 := keep_cell hv z1
      have z2 := keep_cell hv z2
      have z3 := keep_cell hv z3
      clear hv
      go_wp2_with fail
      refine (O5.out _).mono ?_
      rintro e x3 ⟨rfl, hv⟩
      replace HB := bel_step HB hv
      have ca0 := keep_cell hv ca0
      have ca1 := keep_cell hv ca1
      have ca2 := keep_cell hv ca2
      have ca3 := keep_cell hv ca3
      have cb0 := keep_cell hv cb0
      have cb1 := keep_cell hv cb1
      have cb2 := keep_cell hv cb2
      have cb3 := keep_cell hv cb3
      have p0 := keep_cell hv p0
      have p1 := keep_cell hv p1
      have q0 := keep_cell hv q0
      have q1 := keep_cell hv q1
      have q2 := keep_cell hv q2
      have q3 := keep_cell hv q3
      have z0 := keep_cell hv z0
      have z1 := keep_cell hv z1
      have z2 := keep_cell hv z2
      have z3 := keep_cell hv z3
      clear hv
      go_wp2_with fail
      refine (A5.out _).mono ?_
      rintro e x4 ⟨rfl, hv⟩
      replace HB := bel_step HB hv
      have ca0 := keep_cell hv ca0
      have ca1 := keep_cell hv ca1
      have ca2 := keep_cell hv ca2
      have ca3 := keep_cell hv ca3
      have cb0 := keep_cell hv cb0
      have cb1 := keep_cell hv cb1
      have cb2 := keep_cell hv cb2
      have cb3 := keep_cell hv cb3
      have p0 := keep_cell hv p0
      have p1 := keep_cell hv p1
      have q0 := keep_cell hv q0
      have q1 := keep_cell hv q1
      have q2 := keep_cell hv q2
      have q3 := keep_cell hv q3
      have z0 := keep_cell hv z0
      have z1 := keep_cell hv z1
      have z2 := keep_cell hv z2
      have z3 := keep_cell hv z3
      clear hv
      obtain rfl := hany.out (by first | exact Or.inl rfl | exact Or.inr rfl | trivial)
      obtain ⟨e1, e2, e3, e4, e5, e6, e7, e8, f3, f4⟩ := EQ.out
      clear A5 B5 O5 hany EQ
      go_wp2_with fail
      refine (U5.out _).mono ?_
      rintro e x6 ⟨rfl, hv⟩
      replace HB := bel_step HB hv
      have ca0 := keep_cell hv ca0
      have ca1 := keep_cell hv ca1
      have ca2 := keep_cell hv ca2
      have ca3 := keep_cell hv ca3
      have cb0 := keep_cell hv cb0
      have cb1 := keep_cell hv cb1
      have cb2 := keep_cell hv cb2
      have cb3 := keep_cell hv cb3
      have p0 := keep_cell hv p0
      have p1 := keep_cell hv p1
      have q0 := keep_cell hv q0
      have q1 := keep_cell hv q1
      have q2 := keep_cell hv q2
      have q3 := keep_cell hv q3
      have z0 := keep_cell hv z0
      have z1 := keep_cell hv z1
      have z2 := keep_cell hv z2
      have z3 := keep_cell hv z3
      clear hv
      clear U5
      go_wp2_with fail
      refine (H0.out _).mono ?_
      rintro e w9 ⟨rfl, hv⟩
      replace HB := bel_step HB hv
      clear hv
      go_wp2
      go_ret
      exact ⟨rfl, HB⟩
     ·skip
      go_wp2_with fail
      refine (A5.out _).mono ?_
      rintro e x1 ⟨rfl, hv⟩
      replace HB := bel_step HB hv
      have ca0 := keep_cell hv ca0
      have ca1 := keep_cell hv ca1
      have ca2 := keep_cell hv ca2
      have ca3 := keep_cell hv ca3
      have cb0 := keep_cell hv cb0
      have cb1 := keep_cell hv cb1
      have cb2 := keep_cell hv cb2
      have cb3 := keep_cell hv cb3
      have p0 := keep_cell hv p0
      have p1 := keep_cell hv p1
      have q0 := keep_cell hv q0
      have q1 := keep_cell hv q1
      have q2 := keep_cell hv q2
      have q3 := keep_cell hv q3
      have z0 := keep_cell hv z0
      have z1 := keep_cell hv z1
      have z2 := keep_cell hv z2
      have z3 := keep_cell hv z3
      clear hv
      go_wp2_with fail
      refine (B5.out _).mono ?_
      rintro e x2 ⟨rfl, hv⟩
      replace HB := bel_step HB hv
      have ca0 := keep_cell hv ca0
      have ca1 := keep_cell hv ca1
      have ca2 := keep_cell hv ca2
      have ca3 := keep_cell hv ca3
      have cb0 := keep_cell hv cb0
      have cb1 := keep_cell hv cb1
      have cb2 := keep_cell hv cb2
      have cb3 := keep_cell hv cb3
      have p0 := keep_cell hv p0
      have p1 := keep_cell hv p1
      have q0 := keep_cell hv q0
      have q1 := keep_cell hv q1
      have q2 := keep_cell hv q2
      have q3 := keep_cell hv q3
      have z0 := keep_cell hv z0
      have z1 := keep_cell hv z1
      have z2 := keep_cell hv z2
      have z3 := keep_cell hv z3
      clear hv
      go_wp2_with fail
      refine (O5.out _).mono ?_
      rintro e x3 ⟨rfl, hv⟩
      replace HB := bel_step HB hv
      have ca0 := keep_cell hv ca0
      have ca1 := keep_cell hv ca1
      have ca2 := keep_cell hv ca2
      have ca3 := keep_cell hv ca3
      have cb0 := keep_cell hv cb0
      have cb1 := keep_cell hv cb1
      have cb2 := keep_cell hv cb2
      have cb3 := keep_cell hv cb3
      have p0 := keep_cell hv p0
      have p1 := keep_cell hv p1
      have q0 := keep_cell hv q0
      have q1 := keep_cell hv q1
      have q2 := keep_cell hv q2
      have q3 := keep_cell hv q3
      have z0 := keep_cell hv z0
      have z1 := keep_cell hv z1
      have z2 := keep_cell hv z2
      have z3 := keep_cell hv z3
      clear hv
      go_wp2_with fail
      refine (A5.out _).mono ?_
      rintro e x4 ⟨rfl, hv⟩
      replace HB := bel_step HB hv
      have ca0 := keep_cell hv ca0
      have ca1 := keep_cell hv ca1
      have ca2 := keep_cell hv ca2
      have ca3 := keep_cell hv ca3
      have cb0 := keep_cell hv cb0
      have cb1 := keep_cell hv cb1
      have cb2 := keep_cell hv cb2
      have cb3 := keep_cell hv cb3
      have p0 := keep_cell hv p0
      have p1 := keep_cell hv p1
      have q0 := keep_cell hv q0
      have q1 := keep_cell hv q1
      have q2 := keep_cell hv q2
      have q3 := keep_cell hv q3
      have z0 := keep_cell hv z0
      have z1 := keep_cell hv z1
      have z2 := keep_cell hv z2
      have z3 := keep_cell hv z3
      clear hv
      obtain rfl := hany.out (by first | exact Or.inl rfl | exact Or.inr rfl | trivial)
      obtain ⟨e1, e2, e3, e4, e5, e6, e7, e8, f3, f4⟩ := EQ.out
      clear A5 B5 O5 hany EQ
      go_wp2_with fail
      refine (U5.out _).mono ?_
      rintro e x6 ⟨rfl, hv⟩
      replace HB := bel_step HB hv
      have ca0 := keep_cell hv ca0
      have ca1 := keep_cell hv ca1
      have ca2 := keep_cell hv ca2
      have ca3 := keep_cell hv ca3
      have cb0 := keep_cell hv cb0
      have cb1 := keep_cell hv cb1
      have cb2 := keep_cell hv cb2
      have cb3 := keep_cell hv cb3
      have p0 := keep_cell hv p0
      have p1 := keep_cell hv p1
      have q0 := keep_cell hv q0
      have q1 := keep_cell hv q1
      have q2 := keep_cell hv q2
      have q3 := keep_cell hv q3
      have z0 := keep_cell hv z0
      have z1 := keep_cell hv z1
      have z2 := keep_cell hv z2
      have z3 := keep_cell hv z3
      clear hv
      clear U5
      go_wp2_with fail
      refine (H0.out _).mono ?_
      rintro e w9 ⟨rfl, hv⟩
      replace HB := bel_step HB hv
      clear hv
      go_wp2
      go_ret
      exact ⟨rfl, HB⟩
  ·clear HF H3 H4 H5
   go_wp2_with fail
   refine (H0.out _).mono ?_
   rintro e w9 ⟨rfl, hv⟩
   replace HB := bel_step HB hv
   clear hv
   go_wp2
   go_ret
   exact ⟨rfl, HB⟩
 ·clear HF H2 H3 H4 H5
  go_wp2_with fail
  refine (H0.out _).mono ?_
  rintro e w9 ⟨rfl, hv⟩
  replace HB := bel_step HB hv
  clear hv
  go_wp2
  go_ret
  exact ⟨rfl, HB⟩
end Go.Proofs.Ytglailcfgcdagaa
