/- Package fraction: its natural numbers at canonical limbs; walks of plus, times, lowest. Conditions: none. -/
import Derived.Test.YtfdmlfpldgobjaaGreatDoorZYG
import Derived.Test.YtfdmlfpldgobjaaGreatDoorZYB
import Derived.Test.YtfdmlfpldgobjaaGreatDoorZYI
import Derived.Test.YtfdmlfpldgobjaaGreatDoorZBiD
import Derived.Test.YtfdmlfpldgobjaaGreatDoorZYH
set_option linter.unusedVariables false
set_option linter.unusedSimpArgs false
namespace Go.Proofs.YtfdmlfpldgobjaaGreatDoor
open Go.RowKit Big
section
variable (A B : Option Addr) (c d n m : Nat) (w : World) (ha : Mg w A c (limbs n)) (hb : Mg w B d (limbs m)) (hs : (limbs n).length ≤ 1048576) (ht : (limbs m).length ≤ 1048576)
include ha hb
theorem Frcmp_n : Calls Tryz.prog 54 #[.slice A (limbs n).length c, .slice B (limbs m).length d] w (RetI w (ord n m)) := by
 have := Frcompare_any A B c d _ _ w ha hb (nrm_limbs _) (nrm_limbs _); rwa [val_limbs, val_limbs] at this
include hs ht
theorem Fradd_n : Calls Tryz.prog 93 #[.slice A (limbs n).length c, .slice B (limbs m).length d] w (RetN w (n + m)) := by
 have _h1 := hs
 have _h2 := ht
 have := Fradd_any A B c d _ _ w ha hb (by omega) (by omega); rwa [val_limbs, val_limbs] at this
theorem Frmul_n : Calls Tryz.prog 59 #[.slice A (limbs n).length c, .slice B (limbs m).length d] w (RetN w (n * m)) := by
 have _h1 := hs
 have _h2 := ht
 have := Frmultiply_any A B c d _ _ w ha hb (by omega) (by omega); rwa [val_limbs, val_limbs] at this
theorem Frgcd_n : Calls Tryz.prog 56 #[.slice A (limbs n).length c, .slice B (limbs m).length d] w (RetN w (Nat.gcd n m)) := by
 have _h1 := hs
 have _h2 := ht
 have := Frdivisor_any A B c d _ _ w ha hb (nrm_limbs _) (nrm_limbs _) (by omega) (by omega); rwa [val_limbs, val_limbs] at this
theorem Frdiv_nw (hm : m ≠ 0) : Calls Tryz.prog 57 #[.slice A (limbs n).length c, .slice B (limbs m).length d] w (RetQRn w (n / m) (n % m)) := by
 have _h1 := hs
 have _h2 := ht
 have := Frdivide_nw A B c d _ _ w ha hb (nrm_limbs _) (nrm_limbs _) (fun h => hm (limbs_eq_nil.1 h)) (by omega); rwa [val_limbs, val_limbs] at this
theorem Frsub_n (hle : m ≤ n) : Calls Tryz.prog 94 #[.slice A (limbs n).length c, .slice B (limbs m).length d] w (RetN w (n - m)) := by
 have _h1 := hs
 have _h2 := ht
 have hl : (limbs m).length ≤ (limbs n).length := by
  rw [limbs_len_iff]; have := val_lt_pow (ok_limbs n); rw [val_limbs] at this; omega
 have := Frsubtract_any A B c d _ _ w ha hb hl (by rw [val_limbs, val_limbs]; exact hle) (by omega); rwa [val_limbs, val_limbs] at this
end
section
variable {A B : Option Addr} {c d n m k k2 : Nat} {L L2 : List Nat} {w : World} (hx : Lz n k L) (hy : Lz m k2 L2) (ha : Mg w A c L) (hb : Mg w B d L2) (hs : k ≤ 50000) (ht : k2 ≤ 50000)
theorem Frcmp_g (hx : Lz n k L) (hy : Lz m k2 L2) (ha : Mg w A c L) (hb : Mg w B d L2) (z : Int) (hz : ord n m = z) : Calls Tryz.prog 54 #[.slice A k c, .slice B k2 d] w (RetI w z) := by
 obtain ⟨rfl, rfl⟩ := hx; obtain ⟨rfl, rfl⟩ := hy; subst hz
 exact Frcmp_n _ _ _ _ _ _ _ ha hb
include hx hy ha hb hs ht
theorem Fradd_g {k3 : Nat} {L3 : List Nat} (hz : Lz (n + m) k3 L3) : Calls Tryz.prog 93 #[.slice A k c, .slice B k2 d] w (GN w k3 L3) := by
 obtain ⟨rfl, rfl⟩ := hx; obtain ⟨rfl, rfl⟩ := hy; obtain ⟨rfl, rfl⟩ := hz
 exact Fradd_n _ _ _ _ _ _ _ ha hb (by omega) (by omega)
theorem Frsub_g {k3 : Nat} {L3 : List Nat} (hz : Lz (n - m) k3 L3) (hle : m ≤ n) : Calls Tryz.prog 94 #[.slice A k c, .slice B k2 d] w (GN w k3 L3) := by
 obtain ⟨rfl, rfl⟩ := hx; obtain ⟨rfl, rfl⟩ := hy; obtain ⟨rfl, rfl⟩ := hz
 exact Frsub_n _ _ _ _ _ _ _ ha hb (by omega) (by omega) hle
theorem Frmul_g {k3 : Nat} {L3 : List Nat} (hz : Lz (n * m) k3 L3) : Calls Tryz.prog 59 #[.slice A k c, .slice B k2 d] w (GN w k3 L3) := by
 obtain ⟨rfl, rfl⟩ := hx; obtain ⟨rfl, rfl⟩ := hy; obtain ⟨rfl, rfl⟩ := hz
 exact Frmul_n _ _ _ _ _ _ _ ha hb (by omega) (by omega)
theorem Frgcd_g {k3 : Nat} {L3 : List Nat} (hz : Lz (Nat.gcd n m) k3 L3) : Calls Tryz.prog 56 #[.slice A k c, .slice B k2 d] w (GN w k3 L3) := by
 obtain ⟨rfl, rfl⟩ := hx; obtain ⟨rfl, rfl⟩ := hy; obtain ⟨rfl, rfl⟩ := hz
 exact Frgcd_n _ _ _ _ _ _ _ ha hb (by omega) (by omega)
theorem Frdiv_gn {k3 k4 : Nat} {L3 L4 : List Nat} (hz : Lz (n / m) k3 L3) (hr : Lz (n % m) k4 L4) (h0 : m ≠ 0) : Calls Tryz.prog 57 #[.slice A k c, .slice B k2 d] w (GNNn w.heap.size w k3 L3 k4 L4) := by
 obtain ⟨rfl, rfl⟩ := hx; obtain ⟨rfl, rfl⟩ := hy; obtain ⟨rfl, rfl⟩ := hz; obtain ⟨rfl, rfl⟩ := hr
 exact (Frdiv_nw _ _ _ _ _ _ _ ha hb (by omega) (by omega) h0).mono fun _ _ ⟨A, c, B, d, e, m, m2, h, n⟩ => ⟨A, c, B, d, e, ⟨m, n⟩, m2, h⟩
end
set_option maxRecDepth 100000 in
set_option maxHeartbeats 4000000 in
theorem Frplus_g {an bn r : Bool} {n m q : Nat} {A B : Option Addr} {c d k k2 k3 : Nat} {L L2 L3 : List Nat} {w : World} (hx : Lz n k L) (hy : Lz m k2 L2) (ha : Mg w A c L) (hb : Mg w B d L2) (hs : k ≤ 50000) (ht : k2 ≤ 50000) (hr : sumS an n bn m = (r, q)) (hz : Lz q k3 L3) :
  Calls Tryz.prog 60 #[.agg #[.bool an, .slice A k c], .agg #[.bool bn, .slice B k2 d]] w (GZ w r k3 L3) := by
 by_cases hab : an = bn
 ·have he : (an == bn) = true := by simp [hab]
  have hr2 : (an, n + m) = (r, q) := by rw [← hr, ← hab, sumS_eq]
  rw [Prod.mk.injEq] at hr2
  obtain ⟨rfl, rfl⟩ := hr2
  have H := hid fun (w1 : World) (h : Below w.heap.size w w1) => Fradd_g (w := w1) hx hy (ha.below h) (hb.below h) hs ht hz
  clear hx hy ha hb hz hr hab
  go_enter Tryz.func60, Tryz.ntmps60
  go_wp2_with fail
  refine enterIII (P := fun u => Code.wp _ _ _ _ u) ?_
  intro u HB q0 q1 r0 r1 s0 s1 z1 z2 z3 hsz
  clear hsz
  have f_z1 := z1.fr
  have f_z2 := z2.fr
  have f_z3 := z3.fr
  have lt_q0 := cell_lt q0
  have lt_r0 := cell_lt r0
  have lt_s0 := cell_lt s0
  go_region_held3 (fun w' => ((w'.cell? ⟨w.heap.size, 0, none⟩ = some (.bool an) ∧ w'.cell? ⟨w.heap.size, 1, none⟩ = some (.slice A k c)) ∧ (w'.cell? ⟨w.heap.size + 1, 0, none⟩ = some (.bool bn) ∧ w'.cell? ⟨w.heap.size + 1, 1, none⟩ = some (.slice B k2 d)))) (first | ((try dsimp only); repeat' (first | with_reducible assumption | apply And.intro | (with_reducible refine keep_alloc ?_) | (with_reducible refine keep_drew ?_) | (with_reducible refine keep_set (by first | omega | (simp only [World.size_alloc, World.size_setCell, World.size_drew]; done) | (simp only [World.size_alloc, World.size_setCell, World.size_drew]; omega)) ?_) | (with_reducible refine keep_cell (W := u) ?_ ?_) | fail))) ((go_at_call 93; (with_reducible refine (H.out _ (bel_step HB BG)).mono ?_); rintro e y1 ⟨R1, c1, rfl, m1, hq_⟩; have qy1 : Below u.heap.size u y1 := bel_step BG hq_; have s0 := keep_cell qy1 s0; have s1 := keep_cell qy1 s1; have z3 := z3.below qy1; have f_z3 := z3.fr))
  replace HB := bel_step HB qy1
  go_wp2
  refine bodyPost_ret (v := .agg #[.bool an, .slice R1 k3 c1]) ?_ rfl ?_
  ·simp [results, Tryz.results60, go_sem, s0, s1]
  ·obtain ⟨j1_, j2_⟩ := fin_i m1 HB (by omega) s0 s1 (.bool an) (.slice R1 k3 c1)
   exact GZ.of j1_ j2_
 ·have he : (an == bn) = false := by simp [hab]
  have HC := hid fun (w1 : World) (h : Below w.heap.size w w1) => Frcmp_g (w := w1) hx hy (ha.below h) (hb.below h) _ rfl
  by_cases hl : m ≤ n
  ·rw [sumS_ge hab hl, Prod.mk.injEq] at hr
   obtain ⟨rfl, rfl⟩ := hr
   have ho : 0 ≤ ord n m := by unfold ord; rw [if_neg (by omega)]; split <;> omega
   have H := hid fun (w1 : World) (h : Below w.heap.size w w1) => Frsub_g (w := w1) hx hy (ha.below h) (hb.below h) hs ht hz hl
   clear hx hy ha hb hz hab
   generalize ord n m = o at *
   go_enter Tryz.func60, Tryz.ntmps60
   go_wp2_with fail
   refine enterIII (P := fun u => Calls _ _ _ u _) ?_
   intro u HB q0 q1 r0 r1 s0 s1 z1 z2 z3 hsz
   clear hsz
   have f_z1 := z1.fr
   have f_z2 := z2.fr
   have f_z3 := z3.fr
   have lt_q0 := cell_lt q0
   have lt_r0 := cell_lt r0
   have lt_s0 := cell_lt s0
   refine (HC.out _ HB).mono ?_
   rintro e w1 ⟨rfl, h1⟩
   have hv_ : Below u.heap.size u w1 := Below.trans (b := _) (by repeat (first | assumption | exact Bv _ _ | refine Ba ?_ (by simp; try omega) _ | refine Bd ?_ | refine Bn ?_ _)) (h1.mono (by simp; try omega))
   replace q0 := keep_cell hv_ q0
   replace q1 := keep_cell hv_ q1
   replace r0 := keep_cell hv_ r0
   replace r1 := keep_cell hv_ r1
   replace s0 := keep_cell hv_ s0
   replace s1 := keep_cell hv_ s1
   have lt_q0 := cell_lt q0
   have lt_q1 := cell_lt q1
   have lt_r0 := cell_lt r0
   have lt_r1 := cell_lt r1
   have lt_s0 := cell_lt s0
   have lt_s1 := cell_lt s1
   replace z1 := z1.below hv_
   replace z2 := z2.below hv_
   replace z3 := z3.below hv_
   replace f_z1 := z1.fr
   replace f_z2 := z2.fr
   replace f_z3 := z3.fr
   replace HB := HB.trans (hv_.mono HB.size)
   clear hv_
   go_wp2_with fail
   go_region_held3 (fun w' => ((w'.cell? ⟨w.heap.size, 0, none⟩ = some (.bool an) ∧ w'.cell? ⟨w.heap.size, 1, none⟩ = some (.slice A k c)) ∧ (w'.cell? ⟨w.heap.size + 1, 0, none⟩ = some (.bool bn) ∧ w'.cell? ⟨w.heap.size + 1, 1, none⟩ = some (.slice B k2 d)))) (first | ((try dsimp only); repeat' (first | with_reducible assumption | apply And.intro | (with_reducible refine keep_alloc ?_) | (with_reducible refine keep_drew ?_) | (with_reducible refine keep_set (by first | omega | (simp only [World.size_alloc, World.size_setCell, World.size_drew]; done) | (simp only [World.size_alloc, World.size_setCell, World.size_drew]; omega)) ?_) | (with_reducible refine keep_cell (W := w1) ?_ ?_) | fail))) ((go_at_call 94; (with_reducible refine (H.out _ (bel_step HB BG)).mono ?_); rintro e y1 ⟨R1, c1, rfl, m1, hq_⟩; have qy1 : Below w1.heap.size w1 y1 := bel_step BG hq_; have s0 := keep_cell qy1 s0; have s1 := keep_cell qy1 s1; have z3 := z3.below qy1; have f_z3 := z3.fr))
   replace HB := bel_step HB qy1
   go_wp2
   refine bodyPost_ret (v := .agg #[.bool an, .slice R1 k3 c1]) ?_ rfl ?_
   ·simp [results, Tryz.results60, go_sem, s0, s1]
   ·obtain ⟨j1_, j2_⟩ := fin_i m1 HB (by omega) s0 s1 (.bool an) (.slice R1 k3 c1)
    exact GZ.of j1_ j2_
  ·rw [sumS_lt hab (by omega), Prod.mk.injEq] at hr
   obtain ⟨rfl, rfl⟩ := hr
   have ho := ord_lt (show n < m by omega)
   rw [ho] at HC
   have H := hid fun (w1 : World) (h : Below w.heap.size w w1) => Frsub_g (w := w1) hy hx (hb.below h) (ha.below h) ht hs hz (by omega)
   clear hx hy ha hb hz hab ho
   go_enter Tryz.func60, Tryz.ntmps60
   go_wp2_with fail
   refine enterIII (P := fun u => Calls _ _ _ u _) ?_
   intro u HB q0 q1 r0 r1 s0 s1 z1 z2 z3 hsz
   clear hsz
   have f_z1 := z1.fr
   have f_z2 := z2.fr
   have f_z3 := z3.fr
   have lt_q0 := cell_lt q0
   have lt_r0 := cell_lt r0
   have lt_s0 := cell_lt s0
   refine (HC.out _ HB).mono ?_
   rintro e w1 ⟨rfl, h1⟩
   have hv_ : Below u.heap.size u w1 := Below.trans (b := _) (by repeat (first | assumption | exact Bv _ _ | refine Ba ?_ (by simp; try omega) _ | refine Bd ?_ | refine Bn ?_ _)) (h1.mono (by simp; try omega))
   replace q0 := keep_cell hv_ q0
   replace q1 := keep_cell hv_ q1
   replace r0 := keep_cell hv_ r0
   replace r1 := keep_cell hv_ r1
   replace s0 := keep_cell hv_ s0
   replace s1 := keep_cell hv_ s1
   have lt_q0 := cell_lt q0
   have lt_q1 := cell_lt q1
   have lt_r0 := cell_lt r0
   have lt_r1 := cell_lt r1
   have lt_s0 := cell_lt s0
   have lt_s1 := cell_lt s1
   replace z1 := z1.below hv_
   replace z2 := z2.below hv_
   replace z3 := z3.below hv_
   replace f_z1 := z1.fr
   replace f_z2 := z2.fr
   replace f_z3 := z3.fr
   replace HB := HB.trans (hv_.mono HB.size)
   clear hv_
   go_wp2_with fail
   go_region_held3 (fun w' => ((w'.cell? ⟨w.heap.size, 0, none⟩ = some (.bool an) ∧ w'.cell? ⟨w.heap.size, 1, none⟩ = some (.slice A k c)) ∧ (w'.cell? ⟨w.heap.size + 1, 0, none⟩ = some (.bool bn) ∧ w'.cell? ⟨w.heap.size + 1, 1, none⟩ = some (.slice B k2 d)))) (first | ((try dsimp only); repeat' (first | with_reducible assumption | apply And.intro | (with_reducible refine keep_alloc ?_) | (with_reducible refine keep_drew ?_) | (with_reducible refine keep_set (by first | omega | (simp only [World.size_alloc, World.size_setCell, World.size_drew]; done) | (simp only [World.size_alloc, World.size_setCell, World.size_drew]; omega)) ?_) | (with_reducible refine keep_cell (W := w1) ?_ ?_) | fail))) ((go_at_call 94; (with_reducible refine (H.out _ (bel_step HB BG)).mono ?_); rintro e y1 ⟨R1, c1, rfl, m1, hq_⟩; have qy1 : Below w1.heap.size w1 y1 := bel_step BG hq_; have s0 := keep_cell qy1 s0; have s1 := keep_cell qy1 s1; have z3 := z3.below qy1; have f_z3 := z3.fr))
   replace HB := bel_step HB qy1
   go_wp2
   refine bodyPost_ret (v := .agg #[.bool bn, .slice R1 k3 c1]) ?_ rfl ?_
   ·simp [results, Tryz.results60, go_sem, s0, s1]
   ·obtain ⟨j1_, j2_⟩ := fin_i m1 HB (by omega) s0 s1 (.bool bn) (.slice R1 k3 c1)
    exact GZ.of j1_ j2_
set_option maxRecDepth 100000 in
set_option maxHeartbeats 4000000 in
theorem Frtimes_g {an : Bool} {n m : Nat} {A B : Option Addr} {c d k k2 k3 : Nat} {L L2 L3 : List Nat} {w : World} (hx : Lz n k L) (hy : Lz m k2 L2) (ha : Mg w A c L) (hb : Mg w B d L2) (hs : k ≤ 50000) (ht : k2 ≤ 50000) (hz : Lz (n * m) k3 L3) :
  Calls Tryz.prog 53 #[.agg #[.bool an, .slice A k c], .slice B k2 d] w (GZ w an k3 L3) := by
 have H := hid fun (w1 : World) (h : Below w.heap.size w w1) => Frmul_g (w := w1) hx hy (ha.below h) (hb.below h) hs ht hz
 clear hx hy ha hb hz
 go_enter Tryz.func53, Tryz.ntmps53
 go_wp2_with fail
 refine enterII (P := fun u => Code.wp _ _ _ _ u) ?_
 intro u HB q0 q1 r0 r1 z1 z2 hsz
 clear hsz
 have f_z1 := z1.fr
 have f_z2 := z2.fr
 have lt_q0 := cell_lt q0
 have lt_r0 := cell_lt r0
 go_region_held3 (fun w' => (w'.cell? ⟨w.heap.size, 0, none⟩ = some (.bool an) ∧ w'.cell? ⟨w.heap.size, 1, none⟩ = some (.slice A k c))) (first | ((try dsimp only); repeat' (first | with_reducible assumption | apply And.intro | (with_reducible refine keep_alloc ?_) | (with_reducible refine keep_drew ?_) | (with_reducible refine keep_set (by first | omega | (simp only [World.size_alloc, World.size_setCell, World.size_drew]; done) | (simp only [World.size_alloc, World.size_setCell, World.size_drew]; omega)) ?_) | (with_reducible refine keep_cell (W := u) ?_ ?_) | fail))) ((go_at_call 59; (with_reducible refine (H.out _ (bel_step HB BG)).mono ?_); rintro e y1 ⟨R1, c1, rfl, m1, hq_⟩; have qy1 : Below u.heap.size u y1 := bel_step BG hq_; have r0 := keep_cell qy1 r0; have r1 := keep_cell qy1 r1; have z2 := z2.below qy1; have f_z2 := z2.fr))
 replace HB := bel_step HB qy1
 go_wp2
 refine bodyPost_ret (v := .agg #[.bool an, .slice R1 k3 c1]) ?_ rfl ?_
 ·simp [results, Tryz.results53, go_sem, r0, r1]
 ·obtain ⟨j1_, j2_⟩ := fin_i m1 HB (by omega) r0 r1 (.bool an) (.slice R1 k3 c1)
  exact GZ.of j1_ j2_
end Go.Proofs.YtfdmlfpldgobjaaGreatDoor
/- Package fraction: walks of lowest, New, Of. Conditions: none. -/
namespace Go.Proofs.YtfdmlfpldgobjaaGreatDoor
open Go.RowKit Big
/-- four fields of a box that have just been written, a block behind it -/
theorem boxF_set {W : World} {g : Nat} {o : Obj} {a b c d u0 u1 u2 u3 : Value} (k0 : W.cell? ⟨g, 0, none⟩ = some a) (k1 : W.cell? ⟨g, 1, none⟩ = some b) (k2 : W.cell? ⟨g, 2, none⟩ = some c) (k3 : W.cell? ⟨g, 3, none⟩ = some d) :
  (((((W.setCell ⟨g, 0, none⟩ u0).setCell ⟨g, 1, none⟩ u1).setCell ⟨g, 2, none⟩ u2).setCell ⟨g, 3, none⟩ u3).alloc o).cell? ⟨g, 0, none⟩ = some u0 ∧ (((((W.setCell ⟨g, 0, none⟩ u0).setCell ⟨g, 1, none⟩ u1).setCell ⟨g, 2, none⟩ u2).setCell ⟨g, 3, none⟩ u3).alloc o).cell? ⟨g, 1, none⟩ = some u1 ∧ (((((W.setCell ⟨g, 0, none⟩ u0).setCell ⟨g, 1, none⟩ u1).setCell ⟨g, 2, none⟩ u2).setCell ⟨g, 3, none⟩ u3).alloc o).cell? ⟨g, 2, none⟩ = some u2 ∧ (((((W.setCell ⟨g, 0, none⟩ u0).setCell ⟨g, 1, none⟩ u1).setCell ⟨g, 2, none⟩ u2).setCell ⟨g, 3, none⟩ u3).alloc o).cell? ⟨g, 3, none⟩ = some u3 :=
 ⟨keep_alloc (keep_off (by omega) (keep_off (by omega) (keep_off (by omega) (at_set k0)))), keep_alloc (keep_off (by omega) (keep_off (by omega) (at_set (keep_off (by omega) k1)))), keep_alloc (keep_off (by omega) (at_set (keep_off (by omega) (keep_off (by omega) k2)))), keep_alloc (at_set (keep_off (by omega) (keep_off (by omega) (keep_off (by omega) k3))))⟩
set_option maxRecDepth 100000 in
set_option maxHeartbeats 4000000 in
theorem Frlowest_n {neg : Bool} {n dd : Nat} {A B : Option Addr} {c d k k2 : Nat} {L L2 : List Nat} {w : World} {b : Bool} {kx ly : Nat} {xs ys : List Nat} {err : Int} (hx : Lz n k L) (hy : Lz dd k2 L2) (ha : Mg w A c L) (hb : Mg w B d L2) (hs : k ≤ 50000) (ht : k2 ≤ 50000) (h0 : dd ≠ 0)
  {p : Int × Nat} (hp : Fz p b kx xs ly ys) (hr : lowE (sg neg n) dd = (p, err)) : Calls Tryz.prog 31 #[.agg #[.bool neg, .slice A k c], .slice B k2 d] w (GFn w.heap.size w b kx xs ly ys err) := by
 obtain ⟨kg, LG, IG⟩ := lz (Nat.gcd n dd)
 obtain ⟨k1, L1, I1⟩ := lz (n / Nat.gcd n dd)
 obtain ⟨k2', L2', I2⟩ := lz (n % Nat.gcd n dd)
 obtain ⟨k3, L3, I3⟩ := lz (dd / Nat.gcd n dd)
 obtain ⟨k4, L4, I4⟩ := lz (dd % Nat.gcd n dd)
 have hg0 : Nat.gcd n dd ≠ 0 := fun h => h0 (Nat.eq_zero_of_gcd_eq_zero_right h)
 have hkg : kg ≤ 50000 := Nat.le_trans (IG.out.mono hy (Nat.gcd_le_right _ (Nat.pos_of_ne_zero h0))) ht
 have HC := hid fun (w1 : World) (h : Below w.heap.size w w1) => Frgcd_g (w := w1) hx hy (ha.below h) (hb.below h) hs ht IG.out
 have HD1 := hid fun (w1 : World) (h : Below w.heap.size w w1) (R : Option Addr) (cc : Nat) (m : Mg w1 R cc LG) => (Frdiv_gn (w := w1) hx IG.out (ha.below h) m hs hkg I1.out I2.out hg0).mono fun _ _ => GNNn.up h.size
 have HD2 := hid fun (w1 : World) (h : Below w.heap.size w w1) (R : Option Addr) (cc : Nat) (m : Mg w1 R cc LG) => (Frdiv_gn (w := w1) hy IG.out (hb.below h) m ht hkg I3.out I4.out hg0).mono fun _ _ => GNNn.up h.size
 have hl := low_sg neg n dd
 have hff : fitsF (low (sg neg n) dd) ↔ k1 ≤ 512 ∧ k3 ≤ 512 := by
  unfold fitsF
  rw [hl.1, hl.2, fits_sg, fits_nat, I1.out.len, I3.out.len]
 have h1b : k1 ≤ 50000 := Nat.le_trans (I1.out.mono hx (Nat.div_le_self _ _)) hs
 have h3b : k3 ≤ 50000 := Nat.le_trans (I3.out.mono hy (Nat.div_le_self _ _)) ht
 have hca := ha.cap
 have hma := ha.max
 have hcb := hb.cap
 have hmb := hb.max
 by_cases hf : k1 ≤ 512 ∧ k3 ≤ 512
 ·rw [lowE_yes (hff.2 hf)] at hr
  rw [Prod.mk.injEq] at hr
  obtain ⟨rfl, rfl⟩ := hr
  obtain ⟨hb1, rfl, rfl, rfl, rfl⟩ := hp
  rw [hl.1] at hb1
  have e1 : limbs (low (sg neg n) dd).1.natAbs = L1 := by rw [hl.1, natAbs_sg]; exact I1.out.hL.symm
  have e2 : limbs (low (sg neg n) dd).2 = L3 := by rw [hl.2]; exact I3.out.hL.symm
  rw [e1, e2, ← I1.out.hk, ← I3.out.hk]
  have hb2 : b = (neg && decide (0 < k1)) := by
   rw [hb1]
   by_cases h : n / Nat.gcd n dd = 0
   ·have := I1.out.zero.2 h
    rw [h, sg_zero, this]; simp
   ·have : k1 ≠ 0 := fun h' => h (I1.out.zero.1 h')
    rw [sg_neg _ _ h]; simp [show 0 < k1 by omega]
  obtain ⟨f1, f2⟩ := hf
  have hkl := I1.out.hk
  clear hb1 hl hff e1 e2 hg0 h0 hx hy ha hb hs ht hkg IG I1 I2 I3 I4
  by_cases hk0 : 0 < k1
  ·have hbf : b = neg := by rw [hb2]; simp [hk0]
   subst hbf
   clear hb2 hkl
   go_enter Tryz.func31, Tryz.ntmps31
   go_wp2_with fail
   refine enterIF (P := fun u => Calls _ _ _ u _) ?_
   intro u HB q0 q1 r0 r1 r2 r3 z1 z2 hsz
   clear hsz
   have f_z1 := z1.fr
   have f_z2 := z2.fr
   have lt_q0 := cell_lt q0
   have lt_r0 := cell_lt r0
   refine (HC.out _ HB).mono ?_
   rintro e w1 ⟨R1, e1, rfl, m1, h1⟩
   have hv_ : Below u.heap.size u w1 := Below.trans (b := _) (by repeat (first | assumption | exact Bv _ _ | refine Ba ?_ (by simp; try omega) _ | refine Bd ?_ | refine Bn ?_ _)) (h1.mono (by simp; try omega))
   replace q0 := keep_cell hv_ q0
   replace q1 := keep_cell hv_ q1
   replace r0 := keep_cell hv_ r0
   replace r1 := keep_cell hv_ r1
   replace r2 := keep_cell hv_ r2
   replace r3 := keep_cell hv_ r3
   have lt_q0 := cell_lt q0
   have lt_q1 := cell_lt q1
   have lt_r0 := cell_lt r0
   have lt_r1 := cell_lt r1
   have lt_r2 := cell_lt r2
   have lt_r3 := cell_lt r3
   replace z1 := z1.below hv_
   replace z2 := z2.below hv_
   replace f_z1 := z1.fr
   replace f_z2 := z2.fr
   replace HB := HB.trans (hv_.mono HB.size)
   clear hv_
   go_wp2_with fail
   refine (HD1.out _ HB _ _ m1).mono ?_
   rintro e w2 ⟨R2, e2, R3, e3, rfl, m2, m3, h2⟩
   have hv_ : Below w1.heap.size w1 w2 := Below.trans (b := _) (by repeat (first | assumption | exact Bv _ _ | refine Ba ?_ (by simp; try omega) _ | refine Bd ?_ | refine Bn ?_ _)) (h2.mono (by simp; try omega))
   replace m1 := m1.below hv_
   replace q0 := keep_cell hv_ q0
   replace q1 := keep_cell hv_ q1
   replace r0 := keep_cell hv_ r0
   replace r1 := keep_cell hv_ r1
   replace r2 := keep_cell hv_ r2
   replace r3 := keep_cell hv_ r3
   have lt_q0 := cell_lt q0
   have lt_q1 := cell_lt q1
   have lt_r0 := cell_lt r0
   have lt_r1 := cell_lt r1
   have lt_r2 := cell_lt r2
   have lt_r3 := cell_lt r3
   replace z1 := z1.below hv_
   replace z2 := z2.below hv_
   replace f_z1 := z1.fr
   replace f_z2 := z2.fr
   replace HB := HB.trans (hv_.mono HB.size)
   clear hv_
   go_wp2_with fail
   refine (HD2.out _ HB _ _ m1).mono ?_
   rintro e w3 ⟨R4, e4, R5, e5, rfl, m5, m6, h3⟩
   have hv_ : Below w2.heap.size w2 w3 := Below.trans (b := _) (by repeat (first | assumption | exact Bv _ _ | refine Ba ?_ (by simp; try omega) _ | refine Bd ?_ | refine Bn ?_ _)) (h3.mono (by simp; try omega))
   replace m1 := m1.below hv_
   replace m2 := m2.below hv_
   replace q0 := keep_cell hv_ q0
   replace q1 := keep_cell hv_ q1
   replace r0 := keep_cell hv_ r0
   replace r1 := keep_cell hv_ r1
   replace r2 := keep_cell hv_ r2
   replace r3 := keep_cell hv_ r3
   have lt_q0 := cell_lt q0
   have lt_q1 := cell_lt q1
   have lt_r0 := cell_lt r0
   have lt_r1 := cell_lt r1
   have lt_r2 := cell_lt r2
   have lt_r3 := cell_lt r3
   replace z1 := z1.below hv_
   replace z2 := z2.below hv_
   replace f_z1 := z1.fr
   replace f_z2 := z2.fr
   replace HB := HB.trans (hv_.mono HB.size)
   clear hv_
   have m4 := m2
   go_wp2
   refine bodyPost_ret (v := .tuple #[.agg #[.bool b, .slice R2 k1 e2, .bool false, .slice R4 k3 e4], .int .i64 0]) ?_ rfl ?_
   ·obtain ⟨t0, t1, t2, t3⟩ := boxF_set (o := .cells #[.bool b, .slice R2 k1 e2, .bool false, .slice R4 k3 e4] 26) (u0 := .bool b) (u1 := .slice R2 k1 e2) (u2 := .bool false) (u3 := .slice R4 k3 e4) r0 r1 r2 r3
    simp [results, Tryz.results31, go_sem, t0, t1, t2, t3]
   ·obtain ⟨j1, j2, j3⟩ := fin_frn m4 m5 HB (by omega) r0 r1 r2 r3 (.bool b) (.slice R2 k1 e2) (.bool false) (.slice R4 k3 e4)
    exact ⟨R2, e2, R4, e4, rfl, j1.alloc, j2.alloc, j3.alloc j3.size _⟩
  ·have hbf : b = false := by rw [hb2]; simp [hk0]
   have hk1 : k1 = 0 := by omega
   subst hbf
   subst hk1
   have hL1 : L1 = [] := List.eq_nil_of_length_eq_zero hkl.symm
   clear hb2 hkl
   go_enter Tryz.func31, Tryz.ntmps31
   go_wp2_with fail
   refine enterIF (P := fun u => Calls _ _ _ u _) ?_
   intro u HB q0 q1 r0 r1 r2 r3 z1 z2 hsz
   clear hsz
   have f_z1 := z1.fr
   have f_z2 := z2.fr
   have lt_q0 := cell_lt q0
   have lt_r0 := cell_lt r0
   refine (HC.out _ HB).mono ?_
   rintro e w1 ⟨R1, e1, rfl, m1, h1⟩
   have hv_ : Below u.heap.size u w1 := Below.trans (b := _) (by repeat (first | assumption | exact Bv _ _ | refine Ba ?_ (by simp; try omega) _ | refine Bd ?_ | refine Bn ?_ _)) (h1.mono (by simp; try omega))
   replace q0 := keep_cell hv_ q0
   replace q1 := keep_cell hv_ q1
   replace r0 := keep_cell hv_ r0
   replace r1 := keep_cell hv_ r1
   replace r2 := keep_cell hv_ r2
   replace r3 := keep_cell hv_ r3
   have lt_q0 := cell_lt q0
   have lt_q1 := cell_lt q1
   have lt_r0 := cell_lt r0
   have lt_r1 := cell_lt r1
   have lt_r2 := cell_lt r2
   have lt_r3 := cell_lt r3
   replace z1 := z1.below hv_
   replace z2 := z2.below hv_
   replace f_z1 := z1.fr
   replace f_z2 := z2.fr
   replace HB := HB.trans (hv_.mono HB.size)
   clear hv_
   go_wp2_with fail
   refine (HD1.out _ HB _ _ m1).mono ?_
   rintro e w2 ⟨R2, e2, R3, e3, rfl, m2, m3, h2⟩
   have hv_ : Below w1.heap.size w1 w2 := Below.trans (b := _) (by repeat (first | assumption | exact Bv _ _ | refine Ba ?_ (by simp; try omega) _ | refine Bd ?_ | refine Bn ?_ _)) (h2.mono (by simp; try omega))
   replace m1 := m1.below hv_
   replace q0 := keep_cell hv_ q0
   replace q1 := keep_cell hv_ q1
   replace r0 := keep_cell hv_ r0
   replace r1 := keep_cell hv_ r1
   replace r2 := keep_cell hv_ r2
   replace r3 := keep_cell hv_ r3
   have lt_q0 := cell_lt q0
   have lt_q1 := cell_lt q1
   have lt_r0 := cell_lt r0
   have lt_r1 := cell_lt r1
   have lt_r2 := cell_lt r2
   have lt_r3 := cell_lt r3
   replace z1 := z1.below hv_
   replace z2 := z2.below hv_
   replace f_z1 := z1.fr
   replace f_z2 := z2.fr
   replace HB := HB.trans (hv_.mono HB.size)
   clear hv_
   go_wp2_with fail
   refine (HD2.out _ HB _ _ m1).mono ?_
   rintro e w3 ⟨R4, e4, R5, e5, rfl, m5, m6, h3⟩
   have hv_ : Below w2.heap.size w2 w3 := Below.trans (b := _) (by repeat (first | assumption | exact Bv _ _ | refine Ba ?_ (by simp; try omega) _ | refine Bd ?_ | refine Bn ?_ _)) (h3.mono (by simp; try omega))
   replace m1 := m1.below hv_
   replace m2 := m2.below hv_
   replace q0 := keep_cell hv_ q0
   replace q1 := keep_cell hv_ q1
   replace r0 := keep_cell hv_ r0
   replace r1 := keep_cell hv_ r1
   replace r2 := keep_cell hv_ r2
   replace r3 := keep_cell hv_ r3
   have lt_q0 := cell_lt q0
   have lt_q1 := cell_lt q1
   have lt_r0 := cell_lt r0
   have lt_r1 := cell_lt r1
   have lt_r2 := cell_lt r2
   have lt_r3 := cell_lt r3
   replace z1 := z1.below hv_
   replace z2 := z2.below hv_
   replace f_z1 := z1.fr
   replace f_z2 := z2.fr
   replace HB := HB.trans (hv_.mono HB.size)
   clear hv_
   have m4 := m2
   replace m4 : MgN w.heap.size w3 none 0 L1 := by rw [hL1]; exact mgN_nil _ _
   go_wp2
   refine bodyPost_ret (v := .tuple #[.agg #[.bool false, .slice none 0 0, .bool false, .slice R4 k3 e4], .int .i64 0]) ?_ rfl ?_
   ·obtain ⟨t0, t1, t2, t3⟩ := boxF_set (o := .cells #[.bool false, .slice none 0 0, .bool false, .slice R4 k3 e4] 26) (u0 := .bool false) (u1 := .slice none 0 0) (u2 := .bool false) (u3 := .slice R4 k3 e4) r0 r1 r2 r3
    simp [results, Tryz.results31, go_sem, t0, t1, t2, t3]
   ·obtain ⟨j1, j2, j3⟩ := fin_frn m4 m5 HB (by omega) r0 r1 r2 r3 (.bool false) (.slice none 0 0) (.bool false) (.slice R4 k3 e4)
    exact ⟨none, 0, R4, e4, rfl, j1.alloc, j2.alloc, j3.alloc j3.size _⟩
 ·rw [lowE_no (fun h => hf (hff.1 h))] at hr
  rw [Prod.mk.injEq] at hr
  obtain ⟨rfl, rfl⟩ := hr
  obtain ⟨rfl, rfl, rfl, rfl, rfl⟩ := hp
  have hcase : 512 < k1 ∨ (k1 ≤ 512 ∧ 512 < k3) := by omega
  clear hl hff hg0 h0 hx hy ha hb hs ht hkg IG I1 I2 I3 I4 hf
  go_enter Tryz.func31, Tryz.ntmps31
  go_wp2_with fail
  refine enterIF (P := fun u => Calls _ _ _ u _) ?_
  intro u HB q0 q1 r0 r1 r2 r3 z1 z2 hsz
  clear hsz
  have f_z1 := z1.fr
  have f_z2 := z2.fr
  have lt_q0 := cell_lt q0
  have lt_r0 := cell_lt r0
  refine (HC.out _ HB).mono ?_
  rintro e w1 ⟨R1, e1, rfl, m1, h1⟩
  have hv_ : Below u.heap.size u w1 := Below.trans (b := _) (by repeat (first | assumption | exact Bv _ _ | refine Ba ?_ (by simp; try omega) _ | refine Bd ?_ | refine Bn ?_ _)) (h1.mono (by simp; try omega))
  replace q0 := keep_cell hv_ q0
  replace q1 := keep_cell hv_ q1
  replace r0 := keep_cell hv_ r0
  replace r1 := keep_cell hv_ r1
  replace r2 := keep_cell hv_ r2
  replace r3 := keep_cell hv_ r3
  have lt_q0 := cell_lt q0
  have lt_q1 := cell_lt q1
  have lt_r0 := cell_lt r0
  have lt_r1 := cell_lt r1
  have lt_r2 := cell_lt r2
  have lt_r3 := cell_lt r3
  replace z1 := z1.below hv_
  replace z2 := z2.below hv_
  replace f_z1 := z1.fr
  replace f_z2 := z2.fr
  replace HB := HB.trans (hv_.mono HB.size)
  clear hv_
  go_wp2_with fail
  refine (HD1.out _ HB _ _ m1).mono ?_
  rintro e w2 ⟨R2, e2, R3, e3, rfl, m2, m3, h2⟩
  have hv_ : Below w1.heap.size w1 w2 := Below.trans (b := _) (by repeat (first | assumption | exact Bv _ _ | refine Ba ?_ (by simp; try omega) _ | refine Bd ?_ | refine Bn ?_ _)) (h2.mono (by simp; try omega))
  replace m1 := m1.below hv_
  replace q0 := keep_cell hv_ q0
  replace q1 := keep_cell hv_ q1
  replace r0 := keep_cell hv_ r0
  replace r1 := keep_cell hv_ r1
  replace r2 := keep_cell hv_ r2
  replace r3 := keep_cell hv_ r3
  have lt_q0 := cell_lt q0
  have lt_q1 := cell_lt q1
  have lt_r0 := cell_lt r0
  have lt_r1 := cell_lt r1
  have lt_r2 := cell_lt r2
  have lt_r3 := cell_lt r3
  replace z1 := z1.below hv_
  replace z2 := z2.below hv_
  replace f_z1 := z1.fr
  replace f_z2 := z2.fr
  replace HB := HB.trans (hv_.mono HB.size)
  clear hv_
  go_wp2_with fail
  refine (HD2.out _ HB _ _ m1).mono ?_
  rintro e w3 ⟨R4, e4, R5, e5, rfl, m5, m6, h3⟩
  have hv_ : Below w2.heap.size w2 w3 := Below.trans (b := _) (by repeat (first | assumption | exact Bv _ _ | refine Ba ?_ (by simp; try omega) _ | refine Bd ?_ | refine Bn ?_ _)) (h3.mono (by simp; try omega))
  replace m1 := m1.below hv_
  replace m2 := m2.below hv_
  replace q0 := keep_cell hv_ q0
  replace q1 := keep_cell hv_ q1
  replace r0 := keep_cell hv_ r0
  replace r1 := keep_cell hv_ r1
  replace r2 := keep_cell hv_ r2
  replace r3 := keep_cell hv_ r3
  have lt_q0 := cell_lt q0
  have lt_q1 := cell_lt q1
  have lt_r0 := cell_lt r0
  have lt_r1 := cell_lt r1
  have lt_r2 := cell_lt r2
  have lt_r3 := cell_lt r3
  replace z1 := z1.below hv_
  replace z2 := z2.below hv_
  replace f_z1 := z1.fr
  replace f_z2 := z2.fr
  replace HB := HB.trans (hv_.mono HB.size)
  clear hv_
  have m4 := m2
  rcases hcase with hc | ⟨hc1, hc2⟩
  all_goals
   go_wp2
   refine bodyPost_ret (v := .tuple #[.agg #[.bool false, .slice none 0 0, .bool false, .slice none 0 0], .int .i64 4]) ?_ rfl ?_
   ·simp [results, Tryz.results31, go_sem, r0, r1, r2, r3]
   ·obtain ⟨j1, j2, j3⟩ := fin_fr (X := none) (c := 0) (xs := []) (mg_nil' _) (mg_nil' _) HB (by omega) r0 r1 r2 r3 (.bool false) (.slice none 0 0) (.bool false) (.slice none 0 0)
    exact ⟨none, 0, none, 0, by simp [limbs_zero], mgN_nil0 _ _, mgN_nil0 _ _, j3⟩
end Go.Proofs.YtfdmlfpldgobjaaGreatDoor
/- Package fraction: walks of New, Of. Conditions: none. -/
namespace Go.Proofs.YtfdmlfpldgobjaaGreatDoor
open Go.RowKit Big
set_option maxRecDepth 100000 in
set_option maxHeartbeats 2000000 in
theorem FrNew_n {na nb : Bool} {xs ys : List Nat} {A B : Option Addr} {ca cb : Nat} {w : World} (ha : Mg w A ca xs) (hb : Mg w B cb ys) :
  Calls Tryz.prog 9 #[.agg #[.bool na, .slice A xs.length ca], .agg #[.bool nb, .slice B ys.length cb]] w (RetFEn w (newR na xs nb ys)) := by
 have HX := hid fun (w1 : World) (h : Below w.heap.size w w1) => Valid_any na A ca xs w1 (ha.below h)
 have HY := hid fun (w1 : World) (h : Below w.heap.size w w1) => Valid_any nb B cb ys w1 (hb.below h)
 cases v1 : validB na xs
 ·have hr : newR na xs nb ys = ((0, 0), 1) := by unfold newR; rw [v1]; rfl
  rw [hr]
  rw [v1] at HX
  clear hr v1 ha hb HY
  generalize xs.length = k at *
  generalize ys.length = l at *
  go_enter Tryz.func9, Tryz.ntmps9
  go_wp2_with fail
  refine enterIIF (P := fun u => Calls _ _ _ u _) ?_
  intro u HB q0 q1 r0 r1 s0 s1 s2 s3 z1 z2 z3 hsz
  clear hsz
  have f_z1 := z1.fr
  have f_z2 := z2.fr
  have f_z3 := z3.fr
  have lt_q0 := cell_lt q0
  have lt_r0 := cell_lt r0
  have lt_s0 := cell_lt s0
  refine (HX.out _ HB).mono ?_
  rintro e w1 ⟨rfl, h1⟩
  have hv_ : Below u.heap.size u w1 := Below.trans (b := _) (by repeat (first | assumption | exact Bv _ _ | refine Ba ?_ (by simp; try omega) _ | refine Bd ?_ | refine Bn ?_ _)) (h1.mono (by simp; try omega))
  replace q0 := keep_cell hv_ q0
  replace q1 := keep_cell hv_ q1
  replace r0 := keep_cell hv_ r0
  replace r1 := keep_cell hv_ r1
  replace s0 := keep_cell hv_ s0
  replace s1 := keep_cell hv_ s1
  replace s2 := keep_cell hv_ s2
  replace s3 := keep_cell hv_ s3
  have lt_q0 := cell_lt q0
  have lt_q1 := cell_lt q1
  have lt_r0 := cell_lt r0
  have lt_r1 := cell_lt r1
  have lt_s0 := cell_lt s0
  have lt_s1 := cell_lt s1
  have lt_s2 := cell_lt s2
  have lt_s3 := cell_lt s3
  replace z1 := z1.below hv_
  replace z2 := z2.below hv_
  replace z3 := z3.below hv_
  replace f_z1 := z1.fr
  replace f_z2 := z2.fr
  replace f_z3 := z3.fr
  replace HB := HB.trans (hv_.mono HB.size)
  clear hv_
  go_wp2
  refine bodyPost_ret (v := .tuple #[.agg #[.bool false, .slice none 0 0, .bool false, .slice none 0 0], .int .i64 1]) ?_ rfl ?_
  ·simp [results, Tryz.results9, go_sem, s0, s1, s2, s3]
  ·exact retFEn_set 1 HB (by omega) s0 s1 s2 s3
 ·rw [v1] at HX
  cases v2 : validB nb ys
  ·have hr : newR na xs nb ys = ((0, 0), 1) := by unfold newR; rw [v1, v2]; rfl
   rw [hr]
   rw [v2] at HY
   clear hr v1 v2 ha hb
   generalize xs.length = k at *
   generalize ys.length = l at *
   go_enter Tryz.func9, Tryz.ntmps9
   go_wp2_with fail
   refine enterIIF (P := fun u => Calls _ _ _ u _) ?_
   intro u HB q0 q1 r0 r1 s0 s1 s2 s3 z1 z2 z3 hsz
   clear hsz
   have f_z1 := z1.fr
   have f_z2 := z2.fr
   have f_z3 := z3.fr
   have lt_q0 := cell_lt q0
   have lt_r0 := cell_lt r0
   have lt_s0 := cell_lt s0
   refine (HX.out _ HB).mono ?_
   rintro e w1 ⟨rfl, h1⟩
   have hv_ : Below u.heap.size u w1 := Below.trans (b := _) (by repeat (first | assumption | exact Bv _ _ | refine Ba ?_ (by simp; try omega) _ | refine Bd ?_ | refine Bn ?_ _)) (h1.mono (by simp; try omega))
   replace q0 := keep_cell hv_ q0
   replace q1 := keep_cell hv_ q1
   replace r0 := keep_cell hv_ r0
   replace r1 := keep_cell hv_ r1
   replace s0 := keep_cell hv_ s0
   replace s1 := keep_cell hv_ s1
   replace s2 := keep_cell hv_ s2
   replace s3 := keep_cell hv_ s3
   have lt_q0 := cell_lt q0
   have lt_q1 := cell_lt q1
   have lt_r0 := cell_lt r0
   have lt_r1 := cell_lt r1
   have lt_s0 := cell_lt s0
   have lt_s1 := cell_lt s1
   have lt_s2 := cell_lt s2
   have lt_s3 := cell_lt s3
   replace z1 := z1.below hv_
   replace z2 := z2.below hv_
   replace z3 := z3.below hv_
   replace f_z1 := z1.fr
   replace f_z2 := z2.fr
   replace f_z3 := z3.fr
   replace HB := HB.trans (hv_.mono HB.size)
   clear hv_
   go_wp2_with fail
   refine (HY.out _ HB).mono ?_
   rintro e w2 ⟨rfl, h2⟩
   have hv_ : Below w1.heap.size w1 w2 := Below.trans (b := _) (by repeat (first | assumption | exact Bv _ _ | refine Ba ?_ (by simp; try omega) _ | refine Bd ?_ | refine Bn ?_ _)) (h2.mono (by simp; try omega))
   replace q0 := keep_cell hv_ q0
   replace q1 := keep_cell hv_ q1
   replace r0 := keep_cell hv_ r0
   replace r1 := keep_cell hv_ r1
   replace s0 := keep_cell hv_ s0
   replace s1 := keep_cell hv_ s1
   replace s2 := keep_cell hv_ s2
   replace s3 := keep_cell hv_ s3
   have lt_q0 := cell_lt q0
   have lt_q1 := cell_lt q1
   have lt_r0 := cell_lt r0
   have lt_r1 := cell_lt r1
   have lt_s0 := cell_lt s0
   have lt_s1 := cell_lt s1
   have lt_s2 := cell_lt s2
   have lt_s3 := cell_lt s3
   replace z1 := z1.below hv_
   replace z2 := z2.below hv_
   replace z3 := z3.below hv_
   replace f_z1 := z1.fr
   replace f_z2 := z2.fr
   replace f_z3 := z3.fr
   replace HB := HB.trans (hv_.mono HB.size)
   clear hv_
   go_wp2
   refine bodyPost_ret (v := .tuple #[.agg #[.bool false, .slice none 0 0, .bool false, .slice none 0 0], .int .i64 1]) ?_ rfl ?_
   ·simp [results, Tryz.results9, go_sem, s0, s1, s2, s3]
   ·exact retFEn_set 1 HB (by omega) s0 s1 s2 s3
  ·rw [v2] at HY
   obtain ⟨p1, p2, p3⟩ := validB_limbs ha.ok v1
   obtain ⟨q1, q2, q3⟩ := validB_limbs hb.ok v2
   have b1 := validB_len v1
   have b2 := validB_len v2
   have ix : Lz (val xs) xs.length xs := ⟨p1, rfl⟩
   have iy : Lz (val ys) ys.length ys := ⟨q1, rfl⟩
   by_cases h0 : val ys = 0
   ·have hr : newR na xs nb ys = ((0, 0), 12) := by unfold newR newE; rw [v1, v2, h0, sg_zero]; simp
    have hl : ys.length = 0 := iy.zero.2 h0
    rw [hr, hl]
    rw [hl] at HY
    clear hr hl v1 v2 ha hb p1 p2 p3 q1 q2 q3 b1 b2 ix iy h0
    generalize xs.length = k at *
    go_enter Tryz.func9, Tryz.ntmps9
    go_wp2_with fail
    refine enterIIF (P := fun u => Calls _ _ _ u _) ?_
    intro u HB q0 q1 r0 r1 s0 s1 s2 s3 z1 z2 z3 hsz
    clear hsz
    have f_z1 := z1.fr
    have f_z2 := z2.fr
    have f_z3 := z3.fr
    have lt_q0 := cell_lt q0
    have lt_r0 := cell_lt r0
    have lt_s0 := cell_lt s0
    refine (HX.out _ HB).mono ?_
    rintro e w1 ⟨rfl, h1⟩
    have hv_ : Below u.heap.size u w1 := Below.trans (b := _) (by repeat (first | assumption | exact Bv _ _ | refine Ba ?_ (by simp; try omega) _ | refine Bd ?_ | refine Bn ?_ _)) (h1.mono (by simp; try omega))
    replace q0 := keep_cell hv_ q0
    replace q1 := keep_cell hv_ q1
    replace r0 := keep_cell hv_ r0
    replace r1 := keep_cell hv_ r1
    replace s0 := keep_cell hv_ s0
    replace s1 := keep_cell hv_ s1
    replace s2 := keep_cell hv_ s2
    replace s3 := keep_cell hv_ s3
    have lt_q0 := cell_lt q0
    have lt_q1 := cell_lt q1
    have lt_r0 := cell_lt r0
    have lt_r1 := cell_lt r1
    have lt_s0 := cell_lt s0
    have lt_s1 := cell_lt s1
    have lt_s2 := cell_lt s2
    have lt_s3 := cell_lt s3
    replace z1 := z1.below hv_
    replace z2 := z2.below hv_
    replace z3 := z3.below hv_
    replace f_z1 := z1.fr
    replace f_z2 := z2.fr
    replace f_z3 := z3.fr
    replace HB := HB.trans (hv_.mono HB.size)
    clear hv_
    go_wp2_with fail
    refine (HY.out _ HB).mono ?_
    rintro e w2 ⟨rfl, h2⟩
    have hv_ : Below w1.heap.size w1 w2 := Below.trans (b := _) (by repeat (first | assumption | exact Bv _ _ | refine Ba ?_ (by simp; try omega) _ | refine Bd ?_ | refine Bn ?_ _)) (h2.mono (by simp; try omega))
    replace q0 := keep_cell hv_ q0
    replace q1 := keep_cell hv_ q1
    replace r0 := keep_cell hv_ r0
    replace r1 := keep_cell hv_ r1
    replace s0 := keep_cell hv_ s0
    replace s1 := keep_cell hv_ s1
    replace s2 := keep_cell hv_ s2
    replace s3 := keep_cell hv_ s3
    have lt_q0 := cell_lt q0
    have lt_q1 := cell_lt q1
    have lt_r0 := cell_lt r0
    have lt_r1 := cell_lt r1
    have lt_s0 := cell_lt s0
    have lt_s1 := cell_lt s1
    have lt_s2 := cell_lt s2
    have lt_s3 := cell_lt s3
    replace z1 := z1.below hv_
    replace z2 := z2.below hv_
    replace z3 := z3.below hv_
    replace f_z1 := z1.fr
    replace f_z2 := z2.fr
    replace f_z3 := z3.fr
    replace HB := HB.trans (hv_.mono HB.size)
    clear hv_
    go_wp2
    refine bodyPost_ret (v := .tuple #[.agg #[.bool false, .slice none 0 0, .bool false, .slice none 0 0], .int .i64 12]) ?_ rfl ?_
    ·simp [results, Tryz.results9, go_sem, s0, s1, s2, s3]
    ·exact retFEn_set 12 HB (by omega) s0 s1 s2 s3
   ·have hy0 : sg nb (val ys) ≠ 0 := by unfold sg; split <;> omega
    have hr : newR na xs nb ys = lowE (sg (!(na == nb)) (val xs)) (val ys) := by
     unfold newR newE
     rw [v1, v2, if_pos (by rfl), if_neg hy0, ← p3, ← q3, natAbs_sg, natAbs_sg]
     rfl
    have hl : ((ys.length : Int) == 0) = false := by rw [beq_eq_false_iff_ne]; have : ys.length ≠ 0 := fun h => h0 (iy.zero.1 h); omega
    obtain ⟨p, err, hp⟩ : ∃ p err, lowE (sg (!(na == nb)) (val xs)) (val ys) = (p, err) := ⟨_, _, rfl⟩
    obtain ⟨bq, kq, Xq, lq, Yq, IQ⟩ := fz p
    have HM := hid fun (w1 : World) (h : Below w.heap.size w w1) => (Frlowest_n (w := w1) ix iy (ha.below h) (hb.below h) (by omega) (by omega) h0 IQ.out hp).mono fun _ _ => GFn.up h.size
    rw [hr, hp]
    clear hr v1 v2 ha hb p1 p2 p3 q1 q2 q3 b1 b2 ix iy h0 hp hy0
    generalize xs.length = k at *
    generalize ys.length = l at *
    go_enter Tryz.func9, Tryz.ntmps9
    go_wp2_with fail
    refine enterIIF (P := fun u => Calls _ _ _ u _) ?_
    intro u HB q0 q1 r0 r1 s0 s1 s2 s3 z1 z2 z3 hsz
    clear hsz
    have f_z1 := z1.fr
    have f_z2 := z2.fr
    have f_z3 := z3.fr
    have lt_q0 := cell_lt q0
    have lt_r0 := cell_lt r0
    have lt_s0 := cell_lt s0
    refine (HX.out _ HB).mono ?_
    rintro e w1 ⟨rfl, h1⟩
    have hv_ : Below u.heap.size u w1 := Below.trans (b := _) (by repeat (first | assumption | exact Bv _ _ | refine Ba ?_ (by simp; try omega) _ | refine Bd ?_ | refine Bn ?_ _)) (h1.mono (by simp; try omega))
    replace q0 := keep_cell hv_ q0
    replace q1 := keep_cell hv_ q1
    replace r0 := keep_cell hv_ r0
    replace r1 := keep_cell hv_ r1
    replace s0 := keep_cell hv_ s0
    replace s1 := keep_cell hv_ s1
    replace s2 := keep_cell hv_ s2
    replace s3 := keep_cell hv_ s3
    have lt_q0 := cell_lt q0
    have lt_q1 := cell_lt q1
    have lt_r0 := cell_lt r0
    have lt_r1 := cell_lt r1
    have lt_s0 := cell_lt s0
    have lt_s1 := cell_lt s1
    have lt_s2 := cell_lt s2
    have lt_s3 := cell_lt s3
    replace z1 := z1.below hv_
    replace z2 := z2.below hv_
    replace z3 := z3.below hv_
    replace f_z1 := z1.fr
    replace f_z2 := z2.fr
    replace f_z3 := z3.fr
    replace HB := HB.trans (hv_.mono HB.size)
    clear hv_
    go_wp2_with fail
    refine (HY.out _ HB).mono ?_
    rintro e w2 ⟨rfl, h2⟩
    have hv_ : Below w1.heap.size w1 w2 := Below.trans (b := _) (by repeat (first | assumption | exact Bv _ _ | refine Ba ?_ (by simp; try omega) _ | refine Bd ?_ | refine Bn ?_ _)) (h2.mono (by simp; try omega))
    replace q0 := keep_cell hv_ q0
    replace q1 := keep_cell hv_ q1
    replace r0 := keep_cell hv_ r0
    replace r1 := keep_cell hv_ r1
    replace s0 := keep_cell hv_ s0
    replace s1 := keep_cell hv_ s1
    replace s2 := keep_cell hv_ s2
    replace s3 := keep_cell hv_ s3
    have lt_q0 := cell_lt q0
    have lt_q1 := cell_lt q1
    have lt_r0 := cell_lt r0
    have lt_r1 := cell_lt r1
    have lt_s0 := cell_lt s0
    have lt_s1 := cell_lt s1
    have lt_s2 := cell_lt s2
    have lt_s3 := cell_lt s3
    replace z1 := z1.below hv_
    replace z2 := z2.below hv_
    replace z3 := z3.below hv_
    replace f_z1 := z1.fr
    replace f_z2 := z2.fr
    replace f_z3 := z3.fr
    replace HB := HB.trans (hv_.mono HB.size)
    clear hv_
    go_wp2_with fail
    refine (HM.out _ HB).mono ?_
    rintro e w3 ⟨R1, c1, R2, c2, rfl, m1, m2, h3⟩
    have hv_ : Below w2.heap.size w2 w3 := Below.trans (b := _) (by repeat (first | assumption | exact Bv _ _ | refine Ba ?_ (by simp; try omega) _ | refine Bd ?_ | refine Bn ?_ _)) (h3.mono (by simp; try omega))
    replace q0 := keep_cell hv_ q0
    replace q1 := keep_cell hv_ q1
    replace r0 := keep_cell hv_ r0
    replace r1 := keep_cell hv_ r1
    replace s0 := keep_cell hv_ s0
    replace s1 := keep_cell hv_ s1
    replace s2 := keep_cell hv_ s2
    replace s3 := keep_cell hv_ s3
    have lt_q0 := cell_lt q0
    have lt_q1 := cell_lt q1
    have lt_r0 := cell_lt r0
    have lt_r1 := cell_lt r1
    have lt_s0 := cell_lt s0
    have lt_s1 := cell_lt s1
    have lt_s2 := cell_lt s2
    have lt_s3 := cell_lt s3
    replace z1 := z1.below hv_
    replace z2 := z2.below hv_
    replace z3 := z3.below hv_
    replace f_z1 := z1.fr
    replace f_z2 := z2.fr
    replace f_z3 := z3.fr
    replace HB := HB.trans (hv_.mono HB.size)
    clear hv_
    go_wp2
    refine bodyPost_ret (v := .tuple #[.agg #[.bool bq, .slice R1 kq c1, .bool false, .slice R2 lq c2], .int .i64 err]) ?_ rfl ?_
    ·simp [results, Tryz.results9, go_sem, s0, s1, s2, s3]
    ·obtain ⟨j1_, j2_, j3_⟩ := fin_frn m1 m2 HB (by omega) s0 s1 s2 s3 (.bool bq) (.slice R1 kq c1) (.bool false) (.slice R2 lq c2)
     exact GFn.r ⟨R1, c1, R2, c2, rfl, j1_, j2_, j3_⟩ IQ.out
theorem FrNew_any {na nb : Bool} {xs ys : List Nat} {A B : Option Addr} {ca cb : Nat} {w : World} (ha : Mg w A ca xs) (hb : Mg w B cb ys) :
  Calls Tryz.prog 9 #[.agg #[.bool na, .slice A xs.length ca], .agg #[.bool nb, .slice B ys.length cb]] w (RetFE w (newR na xs nb ys)) := (FrNew_n ha hb).mono fun _ _ h => h.any
set_option maxRecDepth 100000 in
set_option maxHeartbeats 2000000 in
theorem FrOf_any (x y : Int) (w : World) (h1 : -9223372036854775808 ≤ x) (h2 : x ≤ 9223372036854775807) (h3 : -9223372036854775808 ≤ y) (h4 : y ≤ 9223372036854775807) :
  Calls Tryz.prog 24 #[.int .i64 x, .int .i64 y] w (RetFE w (newE x y)) := by
 have HX := hid fun (w1 : World) => FromInt_ok x w1 h1 h2
 have HY := hid fun (w1 : World) => FromInt_ok y w1 h3 h4
 have HN := hid fun (w1 : World) (R Q : Option Addr) (c d : Nat) (m : Mg w1 R c (limbs x.natAbs)) (m' : Mg w1 Q d (limbs y.natAbs)) => by
  have := FrNew_any (na := decide (x < 0)) (nb := decide (y < 0)) m m'
  rwa [newR_int x y (valid_int x h1 h2) (valid_int y h3 h4)] at this
 obtain ⟨q, hq⟩ : ∃ q, newE x y = q := ⟨_, rfl⟩
 rw [hq] at HN ⊢
 obtain ⟨bx, kx, Lx, IX⟩ := iz x
 obtain ⟨by_, ky, Ly, IY⟩ := iz y
 replace HX := hid fun w1 => (HX.out w1).mono fun e w' h => RetZ.g h IX.out
 replace HY := hid fun w1 => (HY.out w1).mono fun e w' h => RetZ.g h IY.out
 replace HN := hid fun (w1 : World) (R Q : Option Addr) (c d : Nat) (m : Mg w1 R c Lx) (m' : Mg w1 Q d Ly) => by
  have := HN.out w1 R Q c d (by rw [← IX.out.hx]; exact m) (by rw [← IY.out.hx]; exact m')
  rwa [← IX.out.hx, ← IY.out.hx, ← IX.out.hn, ← IY.out.hn, ← IX.out.hb, ← IY.out.hb] at this
 obtain ⟨⟨p, err⟩, rfl⟩ : ∃ p, q = p := ⟨_, rfl⟩
 obtain ⟨bq, kq, Xq, lq, Yq, IQ⟩ := fz p
 replace HN := hid fun w1 R Q c d m m' => (HN.out w1 R Q c d m m').mono fun e w' h => RetFE.g h IQ.out
 clear hq IX IY
 go_enter Tryz.func24, Tryz.ntmps24
 go_wp2_with fail
 refine enterF (P := fun u => Calls _ _ _ u _) ?_
 intro u HB q0 q1 q2 q3 z1 hsz
 clear hsz
 have f_z1 := z1.fr
 have lt_q0 := cell_lt q0
 refine (HX.out _).mono ?_
 rintro e w1 ⟨R1, c1, rfl, m1, h1_⟩
 have hv_ : Below u.heap.size u w1 := Below.trans (b := _) (by repeat (first | assumption | exact Bv _ _ | refine Ba ?_ (by simp; try omega) _ | refine Bd ?_ | refine Bn ?_ _)) (h1_.mono (by simp; try omega))
 replace q0 := keep_cell hv_ q0
 replace q1 := keep_cell hv_ q1
 replace q2 := keep_cell hv_ q2
 replace q3 := keep_cell hv_ q3
 have lt_q0 := cell_lt q0
 have lt_q1 := cell_lt q1
 have lt_q2 := cell_lt q2
 have lt_q3 := cell_lt q3
 replace z1 := z1.below hv_
 replace f_z1 := z1.fr
 replace HB := HB.trans (hv_.mono HB.size)
 clear hv_
 go_wp2_with fail
 refine (HY.out _).mono ?_
 rintro e w2 ⟨R2, c2, rfl, m2, h2_⟩
 have hv_ : Below w1.heap.size w1 w2 := Below.trans (b := _) (by repeat (first | assumption | exact Bv _ _ | refine Ba ?_ (by simp; try omega) _ | refine Bd ?_ | refine Bn ?_ _)) (h2_.mono (by simp; try omega))
 replace m1 := m1.below hv_
 replace q0 := keep_cell hv_ q0
 replace q1 := keep_cell hv_ q1
 replace q2 := keep_cell hv_ q2
 replace q3 := keep_cell hv_ q3
 have lt_q0 := cell_lt q0
 have lt_q1 := cell_lt q1
 have lt_q2 := cell_lt q2
 have lt_q3 := cell_lt q3
 replace z1 := z1.below hv_
 replace f_z1 := z1.fr
 replace HB := HB.trans (hv_.mono HB.size)
 clear hv_
 go_wp2_with fail
 refine (HN.out _ _ _ _ _ m1 m2).mono ?_
 rintro e w3 ⟨R3, c3, R4, c4, rfl, m3, m4, h3_⟩
 have hv_ : Below w2.heap.size w2 w3 := Below.trans (b := _) (by repeat (first | assumption | exact Bv _ _ | refine Ba ?_ (by simp; try omega) _ | refine Bd ?_ | refine Bn ?_ _)) (h3_.mono (by simp; try omega))
 replace q0 := keep_cell hv_ q0
 replace q1 := keep_cell hv_ q1
 replace q2 := keep_cell hv_ q2
 replace q3 := keep_cell hv_ q3
 have lt_q0 := cell_lt q0
 have lt_q1 := cell_lt q1
 have lt_q2 := cell_lt q2
 have lt_q3 := cell_lt q3
 replace z1 := z1.below hv_
 replace f_z1 := z1.fr
 replace HB := HB.trans (hv_.mono HB.size)
 clear hv_
 go_wp2
 refine bodyPost_ret (v := .tuple #[.agg #[.bool bq, .slice R3 kq c3, .bool false, .slice R4 lq c4], .int .i64 err]) ?_ rfl ?_
 ·simp [results, Tryz.results24, go_sem, q0, q1, q2, q3]
 ·obtain ⟨j1_, j2_, j3_⟩ := fin_fr m3 m4 HB (by omega) q0 q1 q2 q3 (.bool bq) (.slice R3 kq c3) (.bool false) (.slice R4 lq c4)
  exact GF.r ⟨R3, c3, R4, c4, rfl, j1_, j2_, j3_⟩ IQ.out
end Go.Proofs.YtfdmlfpldgobjaaGreatDoor
