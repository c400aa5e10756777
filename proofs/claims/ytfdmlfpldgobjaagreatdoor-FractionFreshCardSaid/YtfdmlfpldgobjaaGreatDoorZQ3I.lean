/- The fractions' reference: walks of Cmp, floor, Floor, Round, SameInt, Same. Conditions: none. -/
import Derived.Test.YtfdmlfpldgobjaaGreatDoorZQ3H
set_option linter.unusedVariables false
set_option linter.unusedSimpArgs false
namespace Go.Proofs.YtfdmlfpldgobjaaGreatDoor
open Go.RowKit Big
theorem RetIE.mk {w w' : World} {z err : Int} (h : Below w.heap.size w w') : RetIE w z err (.returned (.tuple #[.int .i64 z, .int .i64 err])) w' := ⟨rfl, h⟩
set_option maxRecDepth 100000 in
set_option maxHeartbeats 2000000 in
theorem QSameInt_g {x y : Int} {b b' : Bool} {n n' : Nat} {L L' : List Nat} {A B : Option Addr} {c d : Nat} {w : World} (hx : Iz x b n L) (hy : Iz y b' n' L') (ma : Mg w A c L) (mb : Mg w B d L') (t : Bool) (h : decide (x = y) = t) :
  Calls Tryz.prog 43 #[.agg #[.bool b, .slice A n c], .agg #[.bool b', .slice B n' d]] w (RetB w t) := by
 have hi := iz_inj hx hy
 by_cases hb : b = b'
 ·by_cases hn : n = n'
  ·subst hb
   have hk := hx.hn
   have hk2 := hy.hn
   have hL1 : Nrm L := by rw [hx.hx]; exact nrm_limbs _
   have hL2 : Nrm L' := by rw [hy.hx]; exact nrm_limbs _
   have ht : t = (ord (val L) (val L') == 0) := by
    rw [← h, Bool.eq_iff_iff, decide_eq_true_eq, beq_iff_eq, ← hi]
    simp only [true_and]
    unfold ord
    constructor
    ·intro e; rw [e]; simp
    ·intro e; split at e; · omega
     split at e <;> omega
   have HC := hid fun (w1 : World) (h : Below w.heap.size w w1) => Qcompare_any A B c d L L' w1 (ma.below h) (mb.below h) hL1 hL2
   rw [← hk, ← hk2] at HC
   subst hn
   subst ht
   generalize ord (val L) (val L') = o at *
   clear hi hk hk2 hL1 hL2 h hx hy ma mb
   cases b
   all_goals
    go_enter Tryz.func43, Tryz.ntmps43
    go_wp2_with fail
    refine enterII (P := fun u => Calls _ _ _ u _) ?_
    intro u HB q0 q1 r0 r1 z1 z2 hsz
    clear hsz
    have f_z1 := z1.fr
    have f_z2 := z2.fr
    have lt_q0 := cell_lt q0
    have lt_r0 := cell_lt r0
    refine (HC.out _ HB).mono ?_
    rintro e w1 ⟨rfl, h1⟩
    have hv_ : Below u.heap.size u w1 := Below.trans (b := _) (by repeat (first | assumption | exact Bv _ _ | refine Ba ?_ (by simp; try omega) _ | refine Bd ?_ | refine Bn ?_ _)) (h1.mono (by simp; try omega))
    replace HB := HB.trans (hv_.mono HB.size)
    clear hv_
    go_wp2
    go_ret
    exact ⟨rfl, HB⟩
  ·have ht : t = false := by
    rw [← h, decide_eq_false_iff_not]; rintro rfl; exact hn (by rw [hx.hn, hy.hn, hx.hx, hy.hx])
   have hnn : ((n : Int) == (n' : Int)) = false := by rw [beq_eq_false_iff_ne]; omega
   subst hb
   subst ht
   clear hi h hx hy ma mb hn
   cases b
   all_goals
    go_enter Tryz.func43, Tryz.ntmps43
    go_wp2
    go_ret
    exact ⟨rfl, ((Below.refl _ _).alloc (Nat.le_refl _) _).alloc (by simp) _⟩
 ·have ht : t = false := by rw [← h, decide_eq_false_iff_not]; intro e; exact hb (hi.2 e).1
  subst ht
  clear hi h hx hy ma mb
  cases b <;> cases b'
  ·exact absurd rfl hb
  ·go_enter Tryz.func43, Tryz.ntmps43
   go_wp2
   go_ret
   exact ⟨rfl, ((Below.refl _ _).alloc (Nat.le_refl _) _).alloc (by simp) _⟩
  ·go_enter Tryz.func43, Tryz.ntmps43
   go_wp2
   go_ret
   exact ⟨rfl, ((Below.refl _ _).alloc (Nat.le_refl _) _).alloc (by simp) _⟩
  ·exact absurd rfl hb
set_option maxRecDepth 100000 in
set_option maxHeartbeats 2000000 in
theorem QSame_g {f g : Int × Nat} {b b' : Bool} {k l k' l' : Nat} {xs ys us vs : List Nat} {A B C D : Option Addr} {ca cb cc cd : Nat} {w : World} (hf : Fz f b k xs l ys) (hg : Fz g b' k' us l' vs) (ma : Mg w A ca xs) (mb : Mg w B cb ys) (mc : Mg w C cc us) (md : Mg w D cd vs) (t : Bool) (h : decide (f = g) = t) :
  Calls Tryz.prog 18 #[.agg #[.bool b, .slice A k ca, .bool false, .slice B l cb], .agg #[.bool b', .slice C k' cc, .bool false, .slice D l' cd]] w (RetB w t) := by
 have h1 := hid fun (w1 : World) (h : Below w.heap.size w w1) => QSameInt_g (w := w1) hf.num hg.num (ma.below h) (mc.below h) _ rfl
 have h2 := hid fun (w1 : World) (h : Below w.heap.size w w1) => QSameInt_g (w := w1) hf.den hg.den (mb.below h) (md.below h) _ rfl
 have e : t = (decide (f.1 = g.1) && decide ((f.2 : Int) = (g.2 : Int))) := by
  rw [← h, Bool.eq_iff_iff]; simp only [decide_eq_true_eq, Bool.and_eq_true]; rw [Prod.ext_iff]; omega
 subst e
 generalize decide (f.1 = g.1) = t1 at *
 generalize decide ((f.2 : Int) = (g.2 : Int)) = t2 at *
 clear hf hg ma mb mc md h
 cases t1
 ·go_enter Tryz.func18, Tryz.ntmps18
  go_wp2_with fail
  refine enterFF (P := fun u => Calls _ _ _ u _) ?_
  intro u HB q0 q1 q2 q3 r0 r1 r2 r3 z1 z2 hsz
  clear hsz
  have f_z1 := z1.fr
  have f_z2 := z2.fr
  have lt_q0 := cell_lt q0
  have lt_r0 := cell_lt r0
  refine (h1.out _ HB).mono ?_
  rintro e w1 ⟨rfl, h1_⟩
  have hv_ : Below u.heap.size u w1 := Below.trans (b := _) (by repeat (first | assumption | exact Bv _ _ | refine Ba ?_ (by simp; try omega) _ | refine Bd ?_ | refine Bn ?_ _)) (h1_.mono (by simp; try omega))
  replace q0 := keep_cell hv_ q0
  replace q1 := keep_cell hv_ q1
  replace q2 := keep_cell hv_ q2
  replace q3 := keep_cell hv_ q3
  replace r0 := keep_cell hv_ r0
  replace r1 := keep_cell hv_ r1
  replace r2 := keep_cell hv_ r2
  replace r3 := keep_cell hv_ r3
  have lt_q0 := cell_lt q0
  have lt_q1 := cell_lt q1
  have lt_q2 := cell_lt q2
  have lt_q3 := cell_lt q3
  have lt_r0 := cell_lt r0
  have lt_r1 := cell_lt r1
  have lt_r2 := cell_lt r2
  have lt_r3 := cell_lt r3
  replace HB := HB.trans (hv_.mono HB.size)
  clear hv_
  go_wp2
  go_ret
  exact ⟨rfl, HB⟩
 ·go_enter Tryz.func18, Tryz.ntmps18
  go_wp2_with fail
  refine enterFF (P := fun u => Calls _ _ _ u _) ?_
  intro u HB q0 q1 q2 q3 r0 r1 r2 r3 z1 z2 hsz
  clear hsz
  have f_z1 := z1.fr
  have f_z2 := z2.fr
  have lt_q0 := cell_lt q0
  have lt_r0 := cell_lt r0
  refine (h1.out _ HB).mono ?_
  rintro e w1 ⟨rfl, h1_⟩
  have hv_ : Below u.heap.size u w1 := Below.trans (b := _) (by repeat (first | assumption | exact Bv _ _ | refine Ba ?_ (by simp; try omega) _ | refine Bd ?_ | refine Bn ?_ _)) (h1_.mono (by simp; try omega))
  replace q0 := keep_cell hv_ q0
  replace q1 := keep_cell hv_ q1
  replace q2 := keep_cell hv_ q2
  replace q3 := keep_cell hv_ q3
  replace r0 := keep_cell hv_ r0
  replace r1 := keep_cell hv_ r1
  replace r2 := keep_cell hv_ r2
  replace r3 := keep_cell hv_ r3
  have lt_q0 := cell_lt q0
  have lt_q1 := cell_lt q1
  have lt_q2 := cell_lt q2
  have lt_q3 := cell_lt q3
  have lt_r0 := cell_lt r0
  have lt_r1 := cell_lt r1
  have lt_r2 := cell_lt r2
  have lt_r3 := cell_lt r3
  replace HB := HB.trans (hv_.mono HB.size)
  clear hv_
  go_wp2_with fail
  refine (h2.out _ HB).mono ?_
  rintro e w2 ⟨rfl, h2_⟩
  have hv_ : Below w1.heap.size w1 w2 := Below.trans (b := _) (by repeat (first | assumption | exact Bv _ _ | refine Ba ?_ (by simp; try omega) _ | refine Bd ?_ | refine Bn ?_ _)) (h2_.mono (by simp; try omega))
  replace HB := HB.trans (hv_.mono HB.size)
  clear hv_
  go_wp2
  go_ret
  exact ⟨by simp, HB⟩
end Go.Proofs.YtfdmlfpldgobjaaGreatDoor
