/- Integers: walks of Add, Sub, Mul. Conditions: none. -/
import Derived.Test.YtglailcfgcdagaaGreatZBiC
import Derived.Deep.RegionHeld3
import Derived.Deep.RegionLaw
set_option linter.unusedVariables false
set_option linter.unusedSimpArgs false
namespace Go.Proofs.YtglailcfgcdagaaGreat
open Go.RowKit Big
theorem cell_far {w : World} {g i g' j : Nat} {u : Value} (h : g ≠ g') : (w.setCell ⟨g, i, none⟩ u).cell? ⟨g', j, none⟩ = w.cell? ⟨g', j, none⟩ := World.cell?_of_block (Below.heap_setCell w ⟨g, i, none⟩ u g' (by simp; omega))
theorem box2_keep {w w1 : World} {X Y : Array Value} {t u : TypeId} (hb : Below ((w.alloc (.cells X t)).alloc (.cells Y u)).heap.size ((w.alloc (.cells X t)).alloc (.cells Y u)) w1) :
  (∀ i, w1.cell? ⟨w.heap.size, i, none⟩ = X[i]?) ∧ (∀ i, w1.frozen? ⟨w.heap.size, i, none⟩ = false) ∧ (∀ i, w1.cell? ⟨w.heap.size + 1, i, none⟩ = Y[i]?) ∧ (∀ i, w1.frozen? ⟨w.heap.size + 1, i, none⟩ = false) ∧ w.heap.size + 1 < w1.heap.size := by
 obtain ⟨a1, a2, a3⟩ := box_keep hb
 simp only [World.size_alloc] at a1 a2 a3
 obtain ⟨b1, b2, _⟩ := box_keep (((Below.refl _ _).alloc (Nat.le_refl _) _).trans (hb.mono (by simp)))
 exact ⟨b1, b2, a1, a2, a3⟩
theorem box3_keep {w w1 : World} {X Y Z : Array Value} {t u v : TypeId} (hb : Below (((w.alloc (.cells X t)).alloc (.cells Y u)).alloc (.cells Z v)).heap.size (((w.alloc (.cells X t)).alloc (.cells Y u)).alloc (.cells Z v)) w1) :
  (∀ i, w1.cell? ⟨w.heap.size, i, none⟩ = X[i]?) ∧ (∀ i, w1.frozen? ⟨w.heap.size, i, none⟩ = false) ∧ (∀ i, w1.cell? ⟨w.heap.size + 1, i, none⟩ = Y[i]?) ∧ (∀ i, w1.frozen? ⟨w.heap.size + 1, i, none⟩ = false) ∧ (∀ i, w1.cell? ⟨w.heap.size + 1 + 1, i, none⟩ = Z[i]?) ∧ (∀ i, w1.frozen? ⟨w.heap.size + 1 + 1, i, none⟩ = false) ∧ w.heap.size + 1 + 1 < w1.heap.size := by
 obtain ⟨a1, a2, a3⟩ := box_keep hb
 simp only [World.size_alloc] at a1 a2 a3
 obtain ⟨b1, b2, b3, b4, _⟩ := box2_keep (((Below.refl _ _).alloc (Nat.le_refl _) _).trans (hb.mono (by simp)))
 exact ⟨b1, b2, b3, b4, a1, a2, a3⟩
theorem sg_not' (x y : Int) : sg (decide (x < 0)) x.natAbs + sg (!decide (y < 0)) y.natAbs = x - y := by rw [sg_self, sg_not]; omega
set_option maxHeartbeats 1000000 in
theorem Sub_ok (x y : Int) (A B : Option Addr) (c d : Nat) (w : World) (ha : Mg w A c (limbs x.natAbs)) (hb : Mg w B d (limbs y.natAbs)) (fx : fits x) (fy : fits y) :
  Calls Tryz.prog 44 #[.agg #[.bool (decide ((x) < 0)), .slice A (limbs (Int.natAbs (x))).length c], .agg #[.bool (decide ((y) < 0)), .slice B (limbs (Int.natAbs (y))).length d]] w (RetF w (x - y)) := by
 have HX := hid fun (w1 : World) (h : Below w.heap.size w w1) => Valid_t (ha.below h) fx
 have HY := hid fun (w1 : World) (h : Below w.heap.size w w1) => Valid_t (hb.below h) fy
 have HS := hid fun (w1 : World) (h : Below w.heap.size w w1) => sum_any (decide (x < 0)) (!decide (y < 0)) A B c d x.natAbs y.natAbs w1 (ha.below h) (hb.below h) fx fy
 rw [sg_not'] at HS
 clear ha hb fx fy
 generalize hbx : decide (x < 0) = bx at *
 generalize hby : decide (y < 0) = by_ at *
 generalize hlx : (limbs x.natAbs).length = lx at *
 generalize hly : (limbs y.natAbs).length = ly at *
 have HH := hid (And.intro hbx (And.intro hby (And.intro hlx hly)))
 clear hbx hby hlx hly
 go_enter Tryz.func44, Tryz.ntmps44
 go_wp2_with fail
 refine (HX.out _ (by repeat (first | assumption | exact Bv _ _ | refine Ba ?_ (by simp; try omega) _ | refine Bd ?_ | refine Bn ?_ _))).mono ?_
 rintro e w1 ⟨rfl, h1⟩
 obtain ⟨p1, p2, p3, p4, p5, p6, p7⟩ := box3_keep h1
 have b1 : Below w.heap.size w w1 := Below.trans (b := _) (by repeat (first | assumption | exact Bv _ _ | refine Ba ?_ (by simp; try omega) _ | refine Bd ?_ | refine Bn ?_ _)) (h1.mono (by simp; omega))
 go_wp2_with fail
 refine (HY.out _ b1).mono ?_
 rintro e w2 ⟨rfl, h2⟩
 have h12 := h1.trans (h2.mono h1.size)
 obtain ⟨q1, q2, q3, q4, q5, q6, q7⟩ := box3_keep h12
 have b2 := b1.trans (h2.mono b1.size)
 go_wp2_with fail
 refine (HS.out _ b2).mono ?_
 rintro e w3 ⟨R, cc, rfl, hr, h3⟩
 have h13 := h12.trans (h3.mono h12.size)
 obtain ⟨r1, r2, r3, r4, r5, r6, r7⟩ := box3_keep h13
 have b3 := b2.trans (h3.mono b2.size)
 have k0 := r5 0
 have k1 := r5 1
 simp at k0 k1
 go_wp2
 refine bodyPost_ret (v := .tuple #[.agg #[.bool (decide (((fitE (x - y)).1) < 0)), .slice R (limbs (Int.natAbs ((fitE (x - y)).1))).length cc], .int .i64 (fitE (x - y)).2]) ?_ rfl ?_
 ·simp [results, Tryz.results44, go_sem, k0, k1]
 ·exact fin_ze hr b3 (by omega) k0 k1 _ _
set_option maxHeartbeats 1000000 in
theorem Mul_ok (x y : Int) (A B : Option Addr) (c d : Nat) (w : World) (ha : Mg w A c (limbs x.natAbs)) (hb : Mg w B d (limbs y.natAbs)) (fx : fits x) (fy : fits y) :
  Calls Tryz.prog 42 #[.agg #[.bool (decide ((x) < 0)), .slice A (limbs (Int.natAbs (x))).length c], .agg #[.bool (decide ((y) < 0)), .slice B (limbs (Int.natAbs (y))).length d]] w (RetF w (x * y)) := by
 have HX := hid fun (w1 : World) (h : Below w.heap.size w w1) => Valid_t (ha.below h) fx
 have HY := hid fun (w1 : World) (h : Below w.heap.size w w1) => Valid_t (hb.below h) fy
 have HM := hid fun (w1 : World) (h : Below w.heap.size w w1) => mul_n A B c d x.natAbs y.natAbs w1 (ha.below h) (hb.below h) (Nat.le_trans fx (by omega)) (Nat.le_trans fy (by omega))
 have HS := hid fun (w1 : World) (A1 : Option Addr) (c1 : Nat) (h : Mg w1 A1 c1 (limbs (x.natAbs * y.natAbs))) => bounded_any (decide (x < 0) != decide (y < 0)) A1 c1 _ w1 h
 rw [sg_mul] at HS
 clear ha hb fx fy
 generalize hbx : decide (x < 0) = bx at *
 generalize hby : decide (y < 0) = by_ at *
 generalize hlx : (limbs x.natAbs).length = lx at *
 generalize hly : (limbs y.natAbs).length = ly at *
 have HH := hid (And.intro hbx (And.intro hby (And.intro hlx hly)))
 clear hbx hby hlx hly
 go_enter Tryz.func42, Tryz.ntmps42
 go_wp2_with fail
 refine (HX.out _ (by repeat (first | assumption | exact Bv _ _ | refine Ba ?_ (by simp; try omega) _ | refine Bd ?_ | refine Bn ?_ _))).mono ?_
 rintro e w1 ⟨rfl, h1⟩
 obtain ⟨p1, p2, p3, p4, p5, p6, p7⟩ := box3_keep h1
 have b1 : Below w.heap.size w w1 := Below.trans (b := _) (by repeat (first | assumption | exact Bv _ _ | refine Ba ?_ (by simp; try omega) _ | refine Bd ?_ | refine Bn ?_ _)) (h1.mono (by simp; omega))
 go_wp2_with fail
 refine (HY.out _ b1).mono ?_
 rintro e w2 ⟨rfl, h2⟩
 have h12 := h1.trans (h2.mono h1.size)
 obtain ⟨q1, q2, q3, q4, q5, q6, q7⟩ := box3_keep h12
 have b2 := b1.trans (h2.mono b1.size)
 go_wp2_with fail
 have b2d := b2.drew
 have h12d := h12.drew
 go_region_held3 (fun w' => w'.cell? ⟨w.heap.size, 0, none⟩ = some (.bool bx) ∧ w'.cell? ⟨w.heap.size, 1, none⟩ = some (.slice A lx c) ∧ w'.cell? ⟨w.heap.size + 1, 0, none⟩ = some (.bool by_) ∧ w'.cell? ⟨w.heap.size + 1, 1, none⟩ = some (.slice B ly d)) (first | exact ⟨(q1 0).trans rfl, (q1 1).trans rfl, (q3 0).trans rfl, (q3 1).trans rfl⟩ | exact ⟨(u1 0).trans rfl, (u1 1).trans rfl, (u3 0).trans rfl, (u3 1).trans rfl⟩ | exact ⟨(r1 0).trans rfl, (r1 1).trans rfl, (r3 0).trans rfl, (r3 1).trans rfl⟩ | (refine ⟨?_, ?_, ?_, ?_⟩ <;> (repeat rw [cell_far (by omega)]) <;> first | exact (r1 0).trans rfl | exact (r1 1).trans rfl | exact (r3 0).trans rfl | exact (r3 1).trans rfl)) (first | (go_at_call 55; refine (HM.out _ b2d).mono ?_; rintro e w3' ⟨R', cc', rfl, hr', h3'⟩; have h13' := h12d.trans (h3'.mono h12d.size); obtain ⟨u1, u2, u3, u4, u5, u6, u7⟩ := box3_keep h13') | (go_at_call 54; refine (HS.out _ _ _ hr').mono ?_; rintro e w3 ⟨R, cc, rfl, hr, h3''⟩; have h3 := h3'.trans (h3''.mono h3'.size); have h13 := h12d.trans (h3.mono h12d.size); obtain ⟨r1, r2, r3, r4, r5, r6, r7⟩ := box3_keep h13))
 have b3 := b2d.trans (h3.mono b2d.size)
 have k0 := r5 0
 have k1 := r5 1
 simp at k0 k1
 go_wp2
 refine bodyPost_ret (v := .tuple #[.agg #[.bool (decide (((fitE (x * y)).1) < 0)), .slice R (limbs (Int.natAbs ((fitE (x * y)).1))).length cc], .int .i64 (fitE (x * y)).2]) ?_ rfl ?_
 ·simp [results, Tryz.results42, go_sem, k0, k1]
 ·exact fin_ze hr b3 (by omega) k0 k1 _ _
end Go.Proofs.YtglailcfgcdagaaGreat
/- Integers: walks of GCD, Cmp. Conditions: none. -/
namespace Go.Proofs.YtglailcfgcdagaaGreat
open Go.RowKit Big
end Go.Proofs.YtglailcfgcdagaaGreat
/- Integers: the walk of DivMod. Conditions: none. -/
namespace Go.Proofs.YtglailcfgcdagaaGreat
open Go.RowKit Big
/-- does the quotient go one down -/
def dmP (x y : Int) : Prop := decide (x < 0) ≠ decide (y < 0) ∧ x.natAbs % y.natAbs ≠ 0
instance (x y : Int) : Decidable (dmP x y) := inferInstanceAs (Decidable (_ ∧ _))
def RetDM (w : World) (q r err : Int) (e : Ending) (w' : World) : Prop :=
 ∃ A c B d, e = .returned (.tuple #[.agg #[.bool (decide ((q) < 0)), .slice A (limbs (Int.natAbs (q))).length c], .agg #[.bool (decide ((r) < 0)), .slice B (limbs (Int.natAbs (r))).length d], .int .i64 err]) ∧ Mg w' A c (limbs q.natAbs) ∧ Mg w' B d (limbs r.natAbs) ∧ Below w.heap.size w w'
theorem limbs_mono {a b : Nat} (h : a ≤ b) : (limbs a).length ≤ (limbs b).length := by
 rw [limbs_len_iff]
 exact Nat.lt_of_le_of_lt h ((limbs_len_iff b _).1 (Nat.le_refl _))
end Go.Proofs.YtglailcfgcdagaaGreat
/- Integers: the walk of FromInt. Conditions: none. -/
namespace Go.Proofs.YtglailcfgcdagaaGreat
open Go.RowKit Big
set_option maxHeartbeats 400000 in
theorem FromInt_pos (k : Nat) (w : World) (hk : k ≤ 9223372036854775807) : Calls Tryz.prog 43 #[.int .i64 k] w (RetZ w k) := by
 have H1 := hid fun (w1 : World) => fromWord_any k w1 (by omega)
 have H2 := hid fun (w1 : World) (A1 : Option Addr) (c1 : Nat) (h : Mg w1 A1 c1 (limbs k)) => integer_any false A1 c1 k w1 h
 have e : sg false k = (k : Int) := by simp [sg]
 rw [e] at H2
 clear e
 go_enter Tryz.func43, Tryz.ntmps43
 go_wp2_with (first | (go_at_call 57; refine (H1.out _).mono ?_; rintro e w1 ⟨R, cc, rfl, hr, h1⟩) | (go_at_call 56; refine (H2.out _ _ _ hr).mono ?_; rintro e w2 ⟨R2, cc2, rfl, hr2, h2⟩; have h12 := h1.trans (h2.mono h1.size); obtain ⟨kc, kf, kz⟩ := box_keep h12))
 have k0 := kc 0
 have k1 := kc 1
 simp at k0 k1
 refine bodyPost_ret (v := .agg #[.bool (decide (((k : Int)) < 0)), .slice R2 (limbs (Int.natAbs ((k : Int)))).length cc2]) ?_ rfl ?_
 ·simp [results, Tryz.results43, go_sem, k0, k1]
 ·exact fin_z hr2 (((Below.refl _ _).alloc (Nat.le_refl _) _).trans (h12.mono (by simp))) (Nat.le_refl _) k0 k1 _ _
set_option maxHeartbeats 400000 in
theorem FromInt_neg (k : Nat) (w : World) (h0 : 1 ≤ k) (hk : k ≤ 9223372036854775808) : Calls Tryz.prog 43 #[.int .i64 (-(k : Int))] w (RetZ w (-(k : Int))) := by
 have H1 := hid fun (w1 : World) => fromWord_any k w1 (by omega)
 have H2 := hid fun (w1 : World) (A1 : Option Addr) (c1 : Nat) (h : Mg w1 A1 c1 (limbs k)) => integer_any true A1 c1 k w1 h
 have e : sg true k = -(k : Int) := by simp [sg]
 rw [e] at H2
 clear e
 have hw : IntKind.u64.wrap (-IntKind.u64.wrap (-(k : Int))) = (k : Int) := by simp only [IntKind.wrap_u64]; omega
 have hd : decide (0 < k) = true := by simp; omega
 go_enter Tryz.func43, Tryz.ntmps43
 go_wp2_with (first | (go_at_call 57; refine (H1.out _).mono ?_; rintro e w1 ⟨R, cc, rfl, hr, h1⟩) | (go_at_call 56; refine (H2.out _ _ _ hr).mono ?_; rintro e w2 ⟨R2, cc2, rfl, hr2, h2⟩; have h12 := h1.trans (h2.mono h1.size); obtain ⟨kc, kf, kz⟩ := box_keep h12))
 have k0 := kc 0
 have k1 := kc 1
 simp at k0 k1
 refine bodyPost_ret (v := .agg #[.bool (decide ((-(k : Int)) < 0)), .slice R2 (limbs (Int.natAbs (-(k : Int)))).length cc2]) ?_ rfl ?_
 ·simp [results, Tryz.results43, go_sem, k0, k1]; omega
 ·exact fin_z hr2 (((Below.refl _ _).alloc (Nat.le_refl _) _).trans (h12.mono (by simp))) (Nat.le_refl _) k0 k1 _ _
theorem FromInt_ok (n : Int) (w : World) (h1 : -9223372036854775808 ≤ n) (h2 : n ≤ 9223372036854775807) : Calls Tryz.prog 43 #[.int .i64 n] w (RetZ w n) := by
 by_cases hn : n < 0
 ·have h1 := FromInt_neg n.natAbs w (by omega) (by omega)
  have e : -((n.natAbs : Nat) : Int) = n := by omega
  rw [e] at h1
  exact h1
 ·have h1 := FromInt_pos n.natAbs w (by omega)
  have e : ((n.natAbs : Nat) : Int) = n := by omega
  rw [e] at h1
  exact h1
end Go.Proofs.YtglailcfgcdagaaGreat
/- Integers: DivMod at bad arguments. Conditions: none. -/
namespace Go.Proofs.YtglailcfgcdagaaGreat
open Go.RowKit Big
end Go.Proofs.YtglailcfgcdagaaGreat
/- Integers: the walk of ToInt. Conditions: none. -/
namespace Go.Proofs.YtglailcfgcdagaaGreat
open Go.RowKit Big
def RetIE (w : World) (n err : Int) (e : Ending) (w' : World) : Prop := e = .returned (.tuple #[.int .i64 n, .int .i64 err]) ∧ Below w.heap.size w w'
end Go.Proofs.YtglailcfgcdagaaGreat
/- Integers: the walk of Neg. Conditions: none. -/
namespace Go.Proofs.YtglailcfgcdagaaGreat
open Go.RowKit Big
end Go.Proofs.YtglailcfgcdagaaGreat
