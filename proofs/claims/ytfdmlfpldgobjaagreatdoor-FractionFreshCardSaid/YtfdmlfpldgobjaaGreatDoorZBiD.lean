/- Integers: the walk of DivMod. Conditions: none. -/
import Derived.Test.YtfdmlfpldgobjaaGreatDoorZYC
import Derived.Deep.RegionLaw
set_option linter.unusedVariables false
set_option linter.unusedSimpArgs false
namespace Go.Proofs.YtfdmlfpldgobjaaGreatDoor
open Go.RowKit Big
theorem box4_keep {w w1 : World} {X Y Z V : Array Value} {t u v s : TypeId} (hb : Below ((((w.alloc (.cells X t)).alloc (.cells Y u)).alloc (.cells Z v)).alloc (.cells V s)).heap.size ((((w.alloc (.cells X t)).alloc (.cells Y u)).alloc (.cells Z v)).alloc (.cells V s)) w1) :
  (∀ i, w1.cell? ⟨w.heap.size, i, none⟩ = X[i]?) ∧ (∀ i, w1.frozen? ⟨w.heap.size, i, none⟩ = false) ∧ (∀ i, w1.cell? ⟨w.heap.size + 1, i, none⟩ = Y[i]?) ∧ (∀ i, w1.frozen? ⟨w.heap.size + 1, i, none⟩ = false) ∧ (∀ i, w1.cell? ⟨w.heap.size + 1 + 1, i, none⟩ = Z[i]?) ∧ (∀ i, w1.frozen? ⟨w.heap.size + 1 + 1, i, none⟩ = false) ∧ (∀ i, w1.cell? ⟨w.heap.size + 1 + 1 + 1, i, none⟩ = V[i]?) ∧ (∀ i, w1.frozen? ⟨w.heap.size + 1 + 1 + 1, i, none⟩ = false) ∧ w.heap.size + 1 + 1 + 1 < w1.heap.size := by
 obtain ⟨a1, a2, a3⟩ := box_keep hb
 simp only [World.size_alloc] at a1 a2 a3
 obtain ⟨b1, b2, b3, b4, b5, b6, _⟩ := box3_keep (((Below.refl _ _).alloc (Nat.le_refl _) _).trans (hb.mono (by simp)))
 exact ⟨b1, b2, b3, b4, b5, b6, a1, a2, a3⟩
/-- does the quotient go one down -/
def dmP (x y : Int) : Prop := decide (x < 0) ≠ decide (y < 0) ∧ x.natAbs % y.natAbs ≠ 0
instance (x y : Int) : Decidable (dmP x y) := inferInstanceAs (Decidable (_ ∧ _))
def dmQ (x y : Int) : Int := if dmP x y then sg true (x.natAbs / y.natAbs + 1) else sg (decide (x < 0) != decide (y < 0)) (x.natAbs / y.natAbs)
def dmR (x y : Int) : Int := if dmP x y then sg (decide (y < 0)) (y.natAbs - x.natAbs % y.natAbs) else sg (decide (y < 0)) (x.natAbs % y.natAbs)
def RetDM (w : World) (q r err : Int) (e : Ending) (w' : World) : Prop :=
 ∃ A c B d, e = .returned (.tuple #[.agg #[.bool (decide ((q) < 0)), .slice A (limbs (Int.natAbs (q))).length c], .agg #[.bool (decide ((r) < 0)), .slice B (limbs (Int.natAbs (r))).length d], .int .i64 err]) ∧ Mg w' A c (limbs q.natAbs) ∧ Mg w' B d (limbs r.natAbs) ∧ Below w.heap.size w w'
/-- the same, the quotient in new memory -/
def RetDMn (w : World) (q r err : Int) (e : Ending) (w' : World) : Prop :=
 ∃ A c B d, e = .returned (.tuple #[.agg #[.bool (decide ((q) < 0)), .slice A (limbs (Int.natAbs (q))).length c], .agg #[.bool (decide ((r) < 0)), .slice B (limbs (Int.natAbs (r))).length d], .int .i64 err]) ∧ Mg w' A c (limbs q.natAbs) ∧ Mg w' B d (limbs r.natAbs) ∧ Below w.heap.size w w' ∧ Hid (Nw w.heap.size w' A)
theorem RetDMn.any {w w' : World} {q r err : Int} {e : Ending} (h : RetDMn w q r err e w') : RetDM w q r err e w' := by
 obtain ⟨A, c, B, d, h1, h2, h3, h4, _⟩ := h; exact ⟨A, c, B, d, h1, h2, h3, h4⟩
theorem limbs_mono {a b : Nat} (h : a ≤ b) : (limbs a).length ≤ (limbs b).length := by
 rw [limbs_len_iff]
 exact Nat.lt_of_le_of_lt h ((limbs_len_iff b _).1 (Nat.le_refl _))
theorem limbs_one : limbs 1 = [1] := by rw [limbs_pos (by omega)]; simp [limbs_zero]
theorem mg_one (w : World) : Mg (w.alloc (.cells #[.int .u32 1] 61)) (some ⟨w.heap.size, 0, none⟩) 1 [1] :=
 ⟨Nat.le_refl _, by omega, by intro x hx; simp at hx; omega, Rd.of_blk (heap_alloc_new _ _) (fun j hj => by match j, hj with | 0, _ => rfl)⟩
theorem keep2 {w : World} {a b g i : Nat} {x y u : Value} (h : w.cell? ⟨a, 0, none⟩ = some x ∧ w.cell? ⟨b, 0, none⟩ = some y) (h1 : g ≠ a) (h2 : g ≠ b) : (w.setCell ⟨g, i, none⟩ u).cell? ⟨a, 0, none⟩ = some x ∧ (w.setCell ⟨g, i, none⟩ u).cell? ⟨b, 0, none⟩ = some y :=
 ⟨(cell_far h1).trans h.1, (cell_far h2).trans h.2⟩
theorem fin_dmn {w w1 : World} {g g' : Nat} {q r err : Int} {A B : Option Addr} {c d : Nat} {b0 b1 : Bool} {A1 B1 : Option Addr} {n1 c1 m1 d1 : Nat} (hq : Mg w1 A c (limbs q.natAbs)) (hr : Mg w1 B d (limbs r.natAbs)) (hb : Below w.heap.size w w1) (hg : w.heap.size ≤ g) (hg' : w.heap.size ≤ g') (hne : g ≠ g')
  (h0 : w1.cell? ⟨g, 0, none⟩ = some (.bool b0)) (h1 : w1.cell? ⟨g, 1, none⟩ = some (.slice A1 n1 c1)) (h2 : w1.cell? ⟨g', 0, none⟩ = some (.bool b1)) (h3 : w1.cell? ⟨g', 1, none⟩ = some (.slice B1 m1 d1)) (u0 u1 u2 u3 : Value) (hp : Nw w.heap.size w1 A) :
  RetDMn w q r err (.returned (.tuple #[.agg #[.bool (decide ((q) < 0)), .slice A (limbs (Int.natAbs (q))).length c], .agg #[.bool (decide ((r) < 0)), .slice B (limbs (Int.natAbs (r))).length d], .int .i64 err])) ((((w1.setCell ⟨g, 0, none⟩ u0).setCell ⟨g, 1, none⟩ u1).setCell ⟨g', 0, none⟩ u2).setCell ⟨g', 1, none⟩ u3) := by
 have e2 : ((w1.setCell ⟨g, 0, none⟩ u0).setCell ⟨g, 1, none⟩ u1).cell? ⟨g', 0, none⟩ = some (.bool b1) := by rw [cell_far hne, cell_far hne, h2]
 have e3 : (((w1.setCell ⟨g, 0, none⟩ u0).setCell ⟨g, 1, none⟩ u1).setCell ⟨g', 0, none⟩ u2).cell? ⟨g', 1, none⟩ = some (.slice B1 m1 d1) := by rw [cell_set_ne (by omega), cell_far hne, cell_far hne, h3]
 have m : ∀ {A' c' xs}, Mg w1 A' c' xs → Mg ((((w1.setCell ⟨g, 0, none⟩ u0).setCell ⟨g, 1, none⟩ u1).setCell ⟨g', 0, none⟩ u2).setCell ⟨g', 1, none⟩ u3) A' c' xs := fun h =>
  (((h.set_ g 0 _ u0 h0 (by simp)).set_ g 1 _ u1 ((cell_set_ne (by omega)).trans h1) (by simp)).set_ g' 0 _ u2 e2 (by simp)).set_ g' 1 _ u3 e3 (by simp)
 exact ⟨A, c, B, d, rfl, m hq, m hr, below_set (below_set (below_set (below_set hb hg _ _) hg _ _) hg' _ _) hg' _ _, (((hp.set _ _).set _ _).set _ _).set _ _⟩
set_option maxRecDepth 100000 in
set_option maxHeartbeats 800000 in
theorem DivMod_nw (x y : Int) (A B : Option Addr) (c d : Nat) (w : World) (ha : Mg w A c (limbs x.natAbs)) (hb : Mg w B d (limbs y.natAbs)) (fx : fits x) (fy : fits y) (hy : y ≠ 0) :
  Calls Tryz.prog 39 #[.agg #[.bool (decide ((x) < 0)), .slice A (limbs (Int.natAbs (x))).length c], .agg #[.bool (decide ((y) < 0)), .slice B (limbs (Int.natAbs (y))).length d]] w (RetDMn w (dmQ x y) (dmR x y) 0) := by
 have hm : y.natAbs ≠ 0 := by omega
 have HX := hid fun (w1 : World) (h : Below w.heap.size w w1) => Valid_t (ha.below h) fx
 have HY := hid fun (w1 : World) (h : Below w.heap.size w w1) => Valid_t (hb.below h) fy
 have HM := hid fun (w1 : World) (h : Below w.heap.size w w1) => div_nw' A B c d x.natAbs y.natAbs w1 (ha.below h) (hb.below h) (Nat.le_trans fx (by omega)) (Nat.le_trans fy (by omega)) hm
 have hly0 : 0 < (limbs y.natAbs).length := by rw [limbs_pos hm]; simp
 have hlt := Nat.mod_lt x.natAbs (Nat.pos_of_ne_zero hm)
 have hql : (limbs (x.natAbs / y.natAbs)).length ≤ 1048576 := Nat.le_trans (limbs_mono (Nat.div_le_self _ _)) (Nat.le_trans fx (by omega))
 by_cases hP : dmP x y
 ·have eq : dmQ x y = sg true (x.natAbs / y.natAbs + 1) := by unfold dmQ; rw [if_pos hP]
  have er : dmR x y = sg (decide (y < 0)) (y.natAbs - x.natAbs % y.natAbs) := by unfold dmR; rw [if_pos hP]
  rw [eq, er]
  obtain ⟨hs, hr0⟩ := hP
  have hyn : (limbs y.natAbs).length ≤ 1048576 := Nat.le_trans fy (by omega)
  have hrl : (limbs (x.natAbs % y.natAbs)).length ≤ 1048576 := Nat.le_trans (limbs_mod_len (ok_limbs y.natAbs) (by rw [val_limbs]; exact hlt)) hyn
  have hr1 : 0 < (limbs (x.natAbs % y.natAbs)).length := by rw [limbs_pos hr0]; simp
  have HSu := hid fun (w1 : World) (h : Below w.heap.size w w1) (A1 : Option Addr) (c1 : Nat) (h1 : Mg w1 A1 c1 (limbs (x.natAbs % y.natAbs))) => sub_n B A1 d c1 y.natAbs (x.natAbs % y.natAbs) w1 (hb.below h) h1 hyn hrl (by omega)
  have HAd := hid fun (w1 : World) (A1 A2 : Option Addr) (c1 c2 : Nat) (h1 : Mg w1 A1 c1 (limbs (x.natAbs / y.natAbs))) (h2 : Mg w1 A2 c2 [1]) => by
   have h3 := add_nw' A1 A2 c1 c2 (x.natAbs / y.natAbs) 1 w1 h1 (by rw [limbs_one]; exact h2) hql (by rw [limbs_one]; decide)
   rw [limbs_one] at h3
   exact h3
  generalize x.natAbs / y.natAbs = Qn at *
  generalize x.natAbs % y.natAbs = Rn at *
  have H1 := hid fun (w1 : World) (A1 : Option Addr) (c1 : Nat) (h : Mg w1 A1 c1 (limbs (Qn + 1))) => integer_nw true A1 c1 (Qn + 1) w1 h
  have H2 := hid fun (w1 : World) (A1 : Option Addr) (c1 : Nat) (h : Mg w1 A1 c1 (limbs (y.natAbs - Rn))) => integer_nw (decide (y < 0)) A1 c1 (y.natAbs - Rn) w1 h
  generalize y.natAbs - Rn = Sn at *
  have hsb : (decide (x < 0) != decide (y < 0)) = true := by simp [hs]
  have hse : (decide (x < 0) == decide (y < 0)) = false := by simp [hs]
  clear eq er hlt hql ha hb fx fy hm hy hs hr0 hyn hrl
  generalize hbx : decide (x < 0) = bx at *
  generalize hby : decide (y < 0) = by_ at *
  generalize hlx : (limbs x.natAbs).length = lx at *
  generalize hly : (limbs y.natAbs).length = ly at *
  clear hlx hbx hby hly
  go_enter Tryz.func39, Tryz.ntmps39
  go_wp2_with fail
  refine (HX.out _ (by repeat (first | assumption | exact Below.refl _ _ | refine Below.alloc ?_ (by simp; try omega) _ | refine Below.drew ?_ | refine below_drewN ?_ _))).mono ?_
  rintro e w1 ⟨rfl, h1⟩
  obtain ⟨p1, p2, p3, p4, p5, p6, p7, p8, p9⟩ := box4_keep h1
  have b1 : Below w.heap.size w w1 := Below.trans (b := _) (by repeat (first | assumption | exact Below.refl _ _ | refine Below.alloc ?_ (by simp; try omega) _ | refine Below.drew ?_ | refine below_drewN ?_ _)) (h1.mono (by simp; omega))
  go_wp2_with fail
  refine (HY.out _ b1).mono ?_
  rintro e w2 ⟨rfl, h2⟩
  have h12 := h1.trans (h2.mono h1.size)
  obtain ⟨q1, q2, q3, q4, q5, q6, q7, q8, q9⟩ := box4_keep h12
  have b2 := b1.trans (h2.mono b1.size)
  clear p1 p2 p3 p4 p5 p6 p7 p8 p9
  go_wp2_with fail
  refine (HM.out _ b2).mono ?_
  rintro e w3 ⟨Aq, cq, Ar, cr, rfl, hq, hr, h3, hn3⟩
  have h13 := h12.trans (h3.mono h12.size)
  obtain ⟨v1, v2, v3, v4, v5, v6, v7, v8, v9⟩ := box4_keep h13
  have b3 := b2.trans (h3.mono b2.size)
  clear q1 q2 q3 q4 q5 q6 q7 q8 q9
  go_wp2_with fail
  refine (HAd.out _ _ _ _ _ (hq.below ((Below.refl _ _).alloc (Nat.le_refl _) _)) (mg_one w3)).mono ?_
  rintro e w4 ⟨R4, c4, rfl, hr4, h4, hn4⟩
  have h34 : Below w3.heap.size w3 w4 := ((Below.refl _ _).alloc (Nat.le_refl _) _).trans (h4.mono (by simp))
  have h14 := h13.trans (h34.mono h13.size)
  have b4 := b3.trans (h34.mono b3.size)
  have hr' := hr.below h34
  obtain ⟨s1, s2, s3, s4, s5, s6, s7, s8, s9⟩ := box4_keep h14
  clear v1 v2 v3 v4 v5 v6 v7 v8 v9
  go_wp2_with fail
  refine (HSu.out _ b4 _ _ hr').mono ?_
  rintro e w4s ⟨R4s, c4s, rfl, hr4s, h4s⟩
  have h14s := h14.trans (h4s.mono h14.size)
  have b4s := b4.trans (h4s.mono b4.size)
  have hq4 := hr4.below h4s
  obtain ⟨t1, t2, t3, t4, t5, t6, t7, t8, t9⟩ := box4_keep h14s
  clear s1 s2 s3 s4 s5 s6 s7 s8 s9
  go_wp2_with fail
  have bzd := b4s.drew
  have hzd := h14s.drew
  have S3 : w4s.drew.cell? ⟨w.heap.size, 0, none⟩ = some (.bool bx) ∧ w4s.drew.cell? ⟨w.heap.size + 1, 0, none⟩ = some (.bool by_) := ⟨(t1 0).trans rfl, (t3 0).trans rfl⟩
  go_region_held3 (fun w' => w'.cell? ⟨w.heap.size, 0, none⟩ = some (.bool bx) ∧ w'.cell? ⟨w.heap.size + 1, 0, none⟩ = some (.bool by_)) (first | with_reducible assumption | (refine keep2 (keep2 ?_ (by omega) (by omega)) (by omega) (by omega) <;> with_reducible assumption)) (first | (go_at_call 63; (with_reducible refine (H2.out _ _ _ ((hr4s.below ((Below.refl _ _).drew)).below h5)).mono ?_); rintro e w6 ⟨R6, c6, rfl, hr6, h6, hn6⟩; have z6 := hz5.trans (h6.mono hz5.size); obtain ⟨r1, r2, r3, r4, r5, r6, r7, r8, r9⟩ := box4_keep z6; have S6 : w6.cell? ⟨w.heap.size, 0, none⟩ = some (.bool bx) ∧ w6.cell? ⟨w.heap.size + 1, 0, none⟩ = some (.bool by_) := ⟨(r1 0).trans rfl, (r3 0).trans rfl⟩) | (go_at_call 63; (with_reducible refine (H1.out _ _ _ (hq4.below ((Below.refl _ _).drew))).mono ?_); rintro e w5 ⟨R5, c5, rfl, hr5, h5, hn5⟩; have hz5 := hzd.trans (h5.mono hzd.size); obtain ⟨u1, u2, u3, u4, u5, u6, u7, u8, u9⟩ := box4_keep hz5; have S5 : w5.cell? ⟨w.heap.size, 0, none⟩ = some (.bool bx) ∧ w5.cell? ⟨w.heap.size + 1, 0, none⟩ = some (.bool by_) := ⟨(u1 0).trans rfl, (u3 0).trans rfl⟩))
  have b5 := bzd.trans (h5.mono bzd.size)
  have b6 := b5.trans (h6.mono b5.size)
  have k0 := r5 0
  have k1 := r5 1
  have k2 := r7 0
  have k3 := r7 1
  simp at k0 k1 k2 k3
  go_wp2
  refine bodyPost_ret (v := .tuple #[.agg #[.bool (decide ((sg true (Qn + 1)) < 0)), .slice R5 (limbs (Int.natAbs (sg true (Qn + 1)))).length c5], .agg #[.bool (decide ((sg by_ Sn) < 0)), .slice R6 (limbs (Int.natAbs (sg by_ Sn))).length c6], .int .i64 0]) ?_ rfl ?_
  ·simp [results, Tryz.results39, go_sem, k0, k1, k2, k3]
  ·exact fin_dmn (hr5.below h6) hr6 b6 (by omega) (by omega) (by omega) k0 k1 k2 k3 _ _ _ _ ((hn5.out _ ((hn4.out.mono (by have := b3.size; simp; omega)).below h4s |>.below (Below.refl _ _).drew)).below h6)
 ·have eq : dmQ x y = sg (decide (x < 0) != decide (y < 0)) (x.natAbs / y.natAbs) := by unfold dmQ; rw [if_neg hP]
  have er : dmR x y = sg (decide (y < 0)) (x.natAbs % y.natAbs) := by unfold dmR; rw [if_neg hP]
  rw [eq, er]
  have hPP : decide (x < 0) = decide (y < 0) ∨ (decide (x < 0) ≠ decide (y < 0) ∧ x.natAbs % y.natAbs = 0) := by
   unfold dmP at hP
   by_cases h1 : decide (x < 0) = decide (y < 0)
   ·exact .inl h1
   ·exact .inr ⟨h1, by
     rcases Nat.eq_zero_or_pos (x.natAbs % y.natAbs) with h | h
     ·exact h
     ·exact absurd ⟨h1, by omega⟩ hP⟩
  generalize x.natAbs / y.natAbs = Qn at *
  generalize x.natAbs % y.natAbs = Rn at *
  have H1 := hid fun (w1 : World) (A1 : Option Addr) (c1 : Nat) (h : Mg w1 A1 c1 (limbs Qn)) => integer_nw (decide (x < 0) != decide (y < 0)) A1 c1 Qn w1 h
  have H2 := hid fun (w1 : World) (A1 : Option Addr) (c1 : Nat) (h : Mg w1 A1 c1 (limbs Rn)) => integer_nw (decide (y < 0)) A1 c1 Rn w1 h
  clear eq er hP hlt hql ha hb fx fy hm hy
  rcases hPP with hs | ⟨hs, hr0⟩
  ·have hsb : (decide (x < 0) != decide (y < 0)) = false := by rw [hs]; simp
   have hse : (decide (x < 0) == decide (y < 0)) = true := by rw [hs]; simp
   rw [hsb] at H1 ⊢
   clear hs
   generalize hbx : decide (x < 0) = bx at *
   generalize hby : decide (y < 0) = by_ at *
   generalize hlx : (limbs x.natAbs).length = lx at *
   generalize hly : (limbs y.natAbs).length = ly at *
   clear hlx hbx hby hly
   go_enter Tryz.func39, Tryz.ntmps39
   go_wp2_with fail
   refine (HX.out _ (by repeat (first | assumption | exact Below.refl _ _ | refine Below.alloc ?_ (by simp; try omega) _ | refine Below.drew ?_ | refine below_drewN ?_ _))).mono ?_
   rintro e w1 ⟨rfl, h1⟩
   obtain ⟨p1, p2, p3, p4, p5, p6, p7, p8, p9⟩ := box4_keep h1
   have b1 : Below w.heap.size w w1 := Below.trans (b := _) (by repeat (first | assumption | exact Below.refl _ _ | refine Below.alloc ?_ (by simp; try omega) _ | refine Below.drew ?_ | refine below_drewN ?_ _)) (h1.mono (by simp; omega))
   go_wp2_with fail
   refine (HY.out _ b1).mono ?_
   rintro e w2 ⟨rfl, h2⟩
   have h12 := h1.trans (h2.mono h1.size)
   obtain ⟨q1, q2, q3, q4, q5, q6, q7, q8, q9⟩ := box4_keep h12
   have b2 := b1.trans (h2.mono b1.size)
   clear p1 p2 p3 p4 p5 p6 p7 p8 p9
   go_wp2_with fail
   refine (HM.out _ b2).mono ?_
   rintro e w3 ⟨Aq, cq, Ar, cr, rfl, hq, hr, h3, hn3⟩
   have h13 := h12.trans (h3.mono h12.size)
   obtain ⟨v1, v2, v3, v4, v5, v6, v7, v8, v9⟩ := box4_keep h13
   have b3 := b2.trans (h3.mono b2.size)
   clear q1 q2 q3 q4 q5 q6 q7 q8 q9
   go_wp2_with fail
   have bzd := b3.drew
   have hzd := h13.drew
   have S3 : w3.drew.cell? ⟨w.heap.size, 0, none⟩ = some (.bool bx) ∧ w3.drew.cell? ⟨w.heap.size + 1, 0, none⟩ = some (.bool by_) := ⟨(v1 0).trans rfl, (v3 0).trans rfl⟩
   go_region_held3 (fun w' => w'.cell? ⟨w.heap.size, 0, none⟩ = some (.bool bx) ∧ w'.cell? ⟨w.heap.size + 1, 0, none⟩ = some (.bool by_)) (first | with_reducible assumption | (refine keep2 (keep2 ?_ (by omega) (by omega)) (by omega) (by omega) <;> with_reducible assumption)) (first | (go_at_call 63; (with_reducible refine (H2.out _ _ _ ((hr.below ((Below.refl _ _).drew)).below h5)).mono ?_); rintro e w6 ⟨R6, c6, rfl, hr6, h6, hn6⟩; have z6 := hz5.trans (h6.mono hz5.size); obtain ⟨r1, r2, r3, r4, r5, r6, r7, r8, r9⟩ := box4_keep z6; have S6 : w6.cell? ⟨w.heap.size, 0, none⟩ = some (.bool bx) ∧ w6.cell? ⟨w.heap.size + 1, 0, none⟩ = some (.bool by_) := ⟨(r1 0).trans rfl, (r3 0).trans rfl⟩) | (go_at_call 63; (with_reducible refine (H1.out _ _ _ (hq.below ((Below.refl _ _).drew))).mono ?_); rintro e w5 ⟨R5, c5, rfl, hr5, h5, hn5⟩; have hz5 := hzd.trans (h5.mono hzd.size); obtain ⟨u1, u2, u3, u4, u5, u6, u7, u8, u9⟩ := box4_keep hz5; have S5 : w5.cell? ⟨w.heap.size, 0, none⟩ = some (.bool bx) ∧ w5.cell? ⟨w.heap.size + 1, 0, none⟩ = some (.bool by_) := ⟨(u1 0).trans rfl, (u3 0).trans rfl⟩))
   have b5 := bzd.trans (h5.mono bzd.size)
   have b6 := b5.trans (h6.mono b5.size)
   have k0 := r5 0
   have k1 := r5 1
   have k2 := r7 0
   have k3 := r7 1
   simp at k0 k1 k2 k3
   go_wp2
   refine bodyPost_ret (v := .tuple #[.agg #[.bool (decide ((sg false Qn) < 0)), .slice R5 (limbs (Int.natAbs (sg false Qn))).length c5], .agg #[.bool (decide ((sg by_ Rn) < 0)), .slice R6 (limbs (Int.natAbs (sg by_ Rn))).length c6], .int .i64 0]) ?_ rfl ?_
   ·simp [results, Tryz.results39, go_sem, k0, k1, k2, k3]
   ·exact fin_dmn (hr5.below h6) hr6 b6 (by omega) (by omega) (by omega) k0 k1 k2 k3 _ _ _ _ ((hn5.out _ ((hn3.out.mono b2.size).below (Below.refl _ _).drew)).below h6)
  ·have hsb : (decide (x < 0) != decide (y < 0)) = true := by simp [hs]
   have hse : (decide (x < 0) == decide (y < 0)) = false := by simp [hs]
   rw [hsb] at H1 ⊢
   have hr1 : (limbs Rn).length = 0 := by rw [hr0]; simp [limbs_zero]
   have h2 := H2.out
   simp only [hr1] at h2
   clear H2
   have H2 := hid h2
   clear hs hr0 h2
   generalize hbx : decide (x < 0) = bx at *
   generalize hby : decide (y < 0) = by_ at *
   generalize hlx : (limbs x.natAbs).length = lx at *
   generalize hly : (limbs y.natAbs).length = ly at *
   clear hlx hbx hby hly
   go_enter Tryz.func39, Tryz.ntmps39
   go_wp2_with fail
   refine (HX.out _ (by repeat (first | assumption | exact Below.refl _ _ | refine Below.alloc ?_ (by simp; try omega) _ | refine Below.drew ?_ | refine below_drewN ?_ _))).mono ?_
   rintro e w1 ⟨rfl, h1⟩
   obtain ⟨p1, p2, p3, p4, p5, p6, p7, p8, p9⟩ := box4_keep h1
   have b1 : Below w.heap.size w w1 := Below.trans (b := _) (by repeat (first | assumption | exact Below.refl _ _ | refine Below.alloc ?_ (by simp; try omega) _ | refine Below.drew ?_ | refine below_drewN ?_ _)) (h1.mono (by simp; omega))
   go_wp2_with fail
   refine (HY.out _ b1).mono ?_
   rintro e w2 ⟨rfl, h2⟩
   have h12 := h1.trans (h2.mono h1.size)
   obtain ⟨q1, q2, q3, q4, q5, q6, q7, q8, q9⟩ := box4_keep h12
   have b2 := b1.trans (h2.mono b1.size)
   clear p1 p2 p3 p4 p5 p6 p7 p8 p9
   go_wp2_with fail
   refine (HM.out _ b2).mono ?_
   rintro e w3 ⟨Aq, cq, Ar, cr, rfl, hq, hr, h3, hn3⟩
   have h13 := h12.trans (h3.mono h12.size)
   obtain ⟨v1, v2, v3, v4, v5, v6, v7, v8, v9⟩ := box4_keep h13
   have b3 := b2.trans (h3.mono b2.size)
   clear q1 q2 q3 q4 q5 q6 q7 q8 q9
   go_wp2_with fail
   have bzd := b3.drew
   have hzd := h13.drew
   have S3 : w3.drew.cell? ⟨w.heap.size, 0, none⟩ = some (.bool bx) ∧ w3.drew.cell? ⟨w.heap.size + 1, 0, none⟩ = some (.bool by_) := ⟨(v1 0).trans rfl, (v3 0).trans rfl⟩
   go_region_held3 (fun w' => w'.cell? ⟨w.heap.size, 0, none⟩ = some (.bool bx) ∧ w'.cell? ⟨w.heap.size + 1, 0, none⟩ = some (.bool by_)) (first | with_reducible assumption | (refine keep2 (keep2 ?_ (by omega) (by omega)) (by omega) (by omega) <;> with_reducible assumption)) (first | (go_at_call 63; (with_reducible refine (H2.out _ _ _ ((hr.below ((Below.refl _ _).drew)).below h5)).mono ?_); rintro e w6 ⟨R6, c6, rfl, hr6, h6, hn6⟩; have z6 := hz5.trans (h6.mono hz5.size); obtain ⟨r1, r2, r3, r4, r5, r6, r7, r8, r9⟩ := box4_keep z6; have S6 : w6.cell? ⟨w.heap.size, 0, none⟩ = some (.bool bx) ∧ w6.cell? ⟨w.heap.size + 1, 0, none⟩ = some (.bool by_) := ⟨(r1 0).trans rfl, (r3 0).trans rfl⟩) | (go_at_call 63; (with_reducible refine (H1.out _ _ _ (hq.below ((Below.refl _ _).drew))).mono ?_); rintro e w5 ⟨R5, c5, rfl, hr5, h5, hn5⟩; have hz5 := hzd.trans (h5.mono hzd.size); obtain ⟨u1, u2, u3, u4, u5, u6, u7, u8, u9⟩ := box4_keep hz5; have S5 : w5.cell? ⟨w.heap.size, 0, none⟩ = some (.bool bx) ∧ w5.cell? ⟨w.heap.size + 1, 0, none⟩ = some (.bool by_) := ⟨(u1 0).trans rfl, (u3 0).trans rfl⟩))
   have b5 := bzd.trans (h5.mono bzd.size)
   have b6 := b5.trans (h6.mono b5.size)
   have k0 := r5 0
   have k1 := r5 1
   have k2 := r7 0
   have k3 := r7 1
   simp at k0 k1 k2 k3
   go_wp2
   refine bodyPost_ret (v := .tuple #[.agg #[.bool (decide ((sg true Qn) < 0)), .slice R5 (limbs (Int.natAbs (sg true Qn))).length c5], .agg #[.bool (decide ((sg by_ Rn) < 0)), .slice R6 (limbs (Int.natAbs (sg by_ Rn))).length c6], .int .i64 0]) ?_ rfl ?_
   ·simp [results, Tryz.results39, go_sem, k0, k1, k2, k3]
   ·exact fin_dmn (hr5.below h6) hr6 b6 (by omega) (by omega) (by omega) k0 k1 k2 k3 _ _ _ _ ((hn5.out _ ((hn3.out.mono b2.size).below (Below.refl _ _).drew)).below h6)
theorem DivMod_ok (x y : Int) (A B : Option Addr) (c d : Nat) (w : World) (ha : Mg w A c (limbs x.natAbs)) (hb : Mg w B d (limbs y.natAbs)) (fx : fits x) (fy : fits y) (hy : y ≠ 0) :
  Calls Tryz.prog 39 #[.agg #[.bool (decide ((x) < 0)), .slice A (limbs (Int.natAbs (x))).length c], .agg #[.bool (decide ((y) < 0)), .slice B (limbs (Int.natAbs (y))).length d]] w (RetDM w (dmQ x y) (dmR x y) 0) := (DivMod_nw x y A B c d w ha hb fx fy hy).mono fun _ _ h => h.any
end Go.Proofs.YtfdmlfpldgobjaaGreatDoor
/- Integers: the walk of FromInt. Conditions: none. -/
namespace Go.Proofs.YtfdmlfpldgobjaaGreatDoor
open Go.RowKit Big
set_option maxHeartbeats 400000 in
theorem FromInt_nw (k : Nat) (w : World) (hk : k ≤ 9223372036854775807) : Calls Tryz.prog 38 #[.int .i64 k] w (RetZp (Nw w.heap.size) w k) := by
 have H1 := hid fun (w1 : World) => fromWord_nw k w1 (by omega)
 have H2 := hid fun (w1 : World) (A1 : Option Addr) (c1 : Nat) (h : Mg w1 A1 c1 (limbs k)) => integer_nw false A1 c1 k w1 h
 have e : sg false k = (k : Int) := by simp [sg]
 rw [e] at H2
 clear e
 go_enter Tryz.func38, Tryz.ntmps38
 go_wp2_with (first | (go_at_call 64; refine (H1.out _).mono ?_; rintro e w1 ⟨R, cc, rfl, hr, h1, hn1⟩) | (go_at_call 63; refine (H2.out _ _ _ hr).mono ?_; rintro e w2 ⟨R2, cc2, rfl, hr2, h2, hn2⟩; have h12 := h1.trans (h2.mono h1.size); obtain ⟨kc, kf, kz⟩ := box_keep h12))
 have k0 := kc 0
 have k1 := kc 1
 simp at k0 k1
 refine bodyPost_ret (v := .agg #[.bool (decide (((k : Int)) < 0)), .slice R2 (limbs (Int.natAbs ((k : Int)))).length cc2]) ?_ rfl ?_
 ·simp [results, Tryz.results38, go_sem, k0, k1]
 ·exact fin_zp hr2 (((Below.refl _ _).alloc (Nat.le_refl _) _).trans (h12.mono (by simp))) (Nat.le_refl _) k0 k1 _ _ (((hn2.out _ (hn1.out.mono (by simp))).set _ _).set _ _)
theorem FromInt_pos (k : Nat) (w : World) (hk : k ≤ 9223372036854775807) : Calls Tryz.prog 38 #[.int .i64 k] w (RetZ w k) := (FromInt_nw k w hk).mono fun _ _ h => h.any
set_option maxHeartbeats 400000 in
theorem FromInt_neg (k : Nat) (w : World) (h0 : 1 ≤ k) (hk : k ≤ 9223372036854775808) : Calls Tryz.prog 38 #[.int .i64 (-(k : Int))] w (RetZ w (-(k : Int))) := by
 have H1 := hid fun (w1 : World) => fromWord_any k w1 (by omega)
 have H2 := hid fun (w1 : World) (A1 : Option Addr) (c1 : Nat) (h : Mg w1 A1 c1 (limbs k)) => integer_any true A1 c1 k w1 h
 have e : sg true k = -(k : Int) := by simp [sg]
 rw [e] at H2
 clear e
 have hw : IntKind.u64.wrap (-IntKind.u64.wrap (-(k : Int))) = (k : Int) := by simp only [IntKind.wrap_u64]; omega
 have hd : decide (0 < k) = true := by simp; omega
 go_enter Tryz.func38, Tryz.ntmps38
 go_wp2_with (first | (go_at_call 64; refine (H1.out _).mono ?_; rintro e w1 ⟨R, cc, rfl, hr, h1⟩) | (go_at_call 63; refine (H2.out _ _ _ hr).mono ?_; rintro e w2 ⟨R2, cc2, rfl, hr2, h2⟩; have h12 := h1.trans (h2.mono h1.size); obtain ⟨kc, kf, kz⟩ := box_keep h12))
 have k0 := kc 0
 have k1 := kc 1
 simp at k0 k1
 refine bodyPost_ret (v := .agg #[.bool (decide ((-(k : Int)) < 0)), .slice R2 (limbs (Int.natAbs (-(k : Int)))).length cc2]) ?_ rfl ?_
 ·simp [results, Tryz.results38, go_sem, k0, k1]; omega
 ·exact fin_z hr2 (((Below.refl _ _).alloc (Nat.le_refl _) _).trans (h12.mono (by simp))) (Nat.le_refl _) k0 k1 _ _
theorem FromInt_ok (n : Int) (w : World) (h1 : -9223372036854775808 ≤ n) (h2 : n ≤ 9223372036854775807) : Calls Tryz.prog 38 #[.int .i64 n] w (RetZ w n) := by
 by_cases hn : n < 0
 ·have h1 := FromInt_neg n.natAbs w (by omega) (by omega)
  have e : -((n.natAbs : Nat) : Int) = n := by omega
  rw [e] at h1
  exact h1
 ·have h1 := FromInt_pos n.natAbs w (by omega)
  have e : ((n.natAbs : Nat) : Int) = n := by omega
  rw [e] at h1
  exact h1
end Go.Proofs.YtfdmlfpldgobjaaGreatDoor
/- Integers: DivMod at bad arguments. Conditions: none. -/
namespace Go.Proofs.YtfdmlfpldgobjaaGreatDoor
open Go.RowKit Big
end Go.Proofs.YtfdmlfpldgobjaaGreatDoor
/- Integers: the walk of ToInt. Conditions: none. -/
namespace Go.Proofs.YtfdmlfpldgobjaaGreatDoor
open Go.RowKit Big
def RetIE (w : World) (n err : Int) (e : Ending) (w' : World) : Prop := e = .returned (.tuple #[.int .i64 n, .int .i64 err]) ∧ Below w.heap.size w w'
end Go.Proofs.YtfdmlfpldgobjaaGreatDoor
/- Integers: the walk of Neg. Conditions: none. -/
namespace Go.Proofs.YtfdmlfpldgobjaaGreatDoor
open Go.RowKit Big
/-- append, as one step of a region that draws its order -/
theorem step_app {α : Type} {P : Program} {w : World} {ops : Array Oper} {o : Oper} {a : Act} {K : Act → World → Prop} {Q : Exit → Act → World → Prop} {E : Prop} (hgd : o.guard = none) (s x : Operand) (t : TypeId)
  (ho : o.op = .call { callee := .builtin .append, args := #[s, x], argTypes := #[t, t] }) (e : TypeId) (z : Value) (bytes : Nat) (ht : P.underlying t = some (.slice e)) (hinfo : (P.info? e).map (fun i => (i.zero, i.size, i.bytes)) = some (some z, 1, bytes)) (hz1 : z.cells.size = 1)
  (base : Nat) (f : α → Value) (h1 : ∀ x, (f x).oneCell' = true) (v : Value) (xs : List α) (hs : a.eval s = v) (hown : w.ownsRow base e 1 v xs.length (xs.map f)) (A : Option Addr) (c : Nat) (ys : List α) (hx : a.eval x = .slice A ys.length c) (hr : Rd f w A ys)
  (h63 : xs.length + ys.length ≤ 9223372036854775807) (hbytes : (xs.length + ys.length) * bytes ≤ 140737488355328) (hbase : base ≤ w.heap.size)
  (h : ∀ v' w', w'.ownsRow base e 1 v' (xs ++ ys).length ((xs ++ ys).map f) → w.grownBy w' v.ownBlock → (v'.ownBlock = v.ownBlock ∨ v'.ownBlock = some w.heap.size) → K (a.put o.dst v') w') :
  if Region.wanted o (yielded ops a.tmps) = true then Oper.wp P o a w K Q else E := by
 have hw : Region.wanted o (yielded ops a.tmps) = true := by simp [Region.wanted, hgd]
 rw [if_pos hw]
 obtain ⟨v', w', hrun, h2, h3, h4⟩ := run_app (P := P) t o.type e z bytes ht hinfo hz1 base f h1 v xs hown A c ys hr h63 hbytes hbase
 unfold Oper.wp execOp
 simp only [ho, resolve, invoke, builtin, Sem.run_bind, Sem.run_pure, Result.andThen_ok, List.map_toArray, List.map_cons, List.map_nil, hs, hx, hrun]
 exact h v' w' h2 h3 h4
set_option maxRecDepth 100000 in
theorem Neg_nw (x : Int) (A : Option Addr) (c : Nat) (w : World) (ha : Mg w A c (limbs x.natAbs)) (fx : fits x) :
  Calls Tryz.prog 61 #[.agg #[.bool (decide ((x) < 0)), .slice A (limbs (Int.natAbs (x))).length c]] w (RetZp (Nw w.heap.size) w (-x)) := by
 have HX := hid fun (w1 : World) (h1 : Below w.heap.size w w1) => Valid_t (ha.below h1) fx
 have HI := hid fun (w1 : World) (A1 : Option Addr) (c1 : Nat) (h1 : Mg w1 A1 c1 (limbs x.natAbs)) => by
  have h2 := integer_nw (!decide (x < 0)) A1 c1 x.natAbs w1 h1
  rw [sg_not] at h2
  exact h2
 unfold fits at fx
 generalize decide (x < 0) = bx at *
 generalize hxs : limbs x.natAbs = xs at *
 have HH := hid hxs
 clear hxs
 go_enter Tryz.func61, Tryz.ntmps61
 go_wp2_with fail
 refine (HX.out _ (by repeat (first | assumption | exact Below.refl _ _ | refine Below.alloc ?_ (by simp; try omega) _ | refine Below.drew ?_ | refine below_drewN ?_ _))).mono ?_
 rintro e w1 ⟨rfl, h1⟩
 obtain ⟨p1, p2, p3, p4, p5⟩ := box2_keep h1
 have b1 : Below w.heap.size w w1 := Below.trans (b := _) (by repeat (first | assumption | exact Below.refl _ _ | refine Below.alloc ?_ (by simp; try omega) _ | refine Below.drew ?_ | refine below_drewN ?_ _)) (h1.mono (by simp; omega))
 go_wp2_with fail
 clear HX
 go_region_law (first | (refine step_app rfl (.const (.slice none 0 0)) (.tmp 11) 22 rfl 61 (.int .u32 0) 4 Tryz.underlying22 info32 rfl w.heap.size lim (fun _ => rfl) _ [] rfl (World.ownsRow_nil _ _ _ _) A c xs rfl (ha.below b1.drew).rd (by simp; omega) (by simp; omega) b1.drew.size ?_; intro v' w2 hown hgr hwh; obtain ⟨R, cc, rfl, hm⟩ := own_mg hown (ha.below b1.drew).ok; have hnw := hid (own_nw hown); have h2 := h1.drew.trans (below_app (World.ownsRow_nil w1.drew _ 61 1) hgr h1.drew.size); obtain ⟨q1, q2, q3, q4, q5⟩ := box2_keep h2) | (go_simp; go_at_call 63; refine (HI.out _ _ _ hm).mono ?_; rintro e w3 ⟨R3, c3, rfl, hr3, h3, hn3⟩; have h23 := h2.trans (h3.mono h2.size); obtain ⟨r1, r2, r3, r4, r5⟩ := box2_keep h23))
 all_goals
  have k0 := r3 0
  have k1 := r3 1
  simp at k0 k1
  go_wp2
  refine bodyPost_ret (v := .agg #[.bool (decide (-x < 0)), .slice R3 (limbs (-x).natAbs).length c3]) ?_ rfl ?_
  ·simp [results, Tryz.results61, go_sem, k0, k1]
  ·exact fin_zp hr3 (((Below.refl _ _).alloc (Nat.le_refl _) _ |>.alloc (by simp) _).trans (h23.mono (by simp; omega))) (by omega) k0 k1 _ _ (((hn3.out _ hnw.out).set _ _).set _ _)
end Go.Proofs.YtfdmlfpldgobjaaGreatDoor
