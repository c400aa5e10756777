/- The fractions' reference: walks of one, Valid, sum, added. Conditions: none. -/
import Derived.Test.YtfdmlfpldgobjaaGreatDoorZYQ
import Derived.Test.YtfdmlfpldgobjaaGreatDoorZYB
import Derived.Test.YtfdmlfpldgobjaaGreatDoorZYH
set_option linter.unusedVariables false
set_option linter.unusedSimpArgs false
namespace Go.Proofs.YtfdmlfpldgobjaaGreatDoor
open Go.RowKit Big
theorem Qone_any {A : Option Addr} {c k : Nat} {L : List Nat} {w : World} (ha : Mg w A c L) (hk : k = L.length) (b : Bool) (h : decide (L = [1]) = b) :
  Calls Tryz.prog 21 #[.slice A k c] w fun e w' => e = .returned (.bool b) ∧ w = w' := by
 subst h; subst hk
 have hcap := ha.cap
 have hmax := ha.max
 match L, ha with
 | [], ha =>
  clear ha
  go_enter Tryz.func21, Tryz.ntmps21
  go_wp2
  go_ret
  exact ⟨rfl, rfl⟩
 | [x], ha =>
  obtain ⟨ba, oa, rfl, hba, hca⟩ := ha.rd.at_ (k := 0) (by simp)
  have c1 : w.cell? ⟨ba, oa, none⟩ = some (.int .u32 (x : Int)) := hca 0 (by simp)
  have o1 : x < 4294967296 := ha.ok x (by simp)
  have ht : decide ([x] = [1]) = ((x : Int) == 1) := by rw [Bool.eq_iff_iff]; simp; omega
  rw [ht]
  clear ht
  clear ha hca
  go_enter Tryz.func21, Tryz.ntmps21
  go_wp2
  go_ret
  exact ⟨rfl, rfl⟩
 | x :: y :: l, ha =>
  have hl : (((x :: y :: l).length : Int) == 1) = false := by rw [beq_eq_false_iff_ne]; simp; omega
  have hd : decide (x :: y :: l = [1]) = false := by simp
  rw [hd]
  clear ha hd
  generalize (x :: y :: l).length = n at *
  go_enter Tryz.func21, Tryz.ntmps21
  go_wp2
  go_ret
  exact ⟨rfl, rfl⟩
theorem limbs_is_one {n : Nat} : limbs n = [1] ↔ n = 1 := ⟨fun h => limbs_inj (by rw [h, limbs_one]), fun h => by rw [h, limbs_one]⟩
set_option maxRecDepth 100000 in
set_option maxHeartbeats 2000000 in
theorem Qvalid_any {na nb : Bool} {xs ys : List Nat} {A B : Option Addr} {c d : Nat} {w : World} (ha : Mg w A c xs) (hb : Mg w B d ys) :
  Calls Tryz.prog 5 #[.agg #[.bool na, .slice A xs.length c, .bool nb, .slice B ys.length d]] w (RetB w (fvB na xs nb ys)) := by
 have HX := hid fun (w1 : World) (h : Below w.heap.size w w1) => RValid_any na A c xs w1 (ha.below h)
 have HY := hid fun (w1 : World) (h : Below w.heap.size w w1) => RValid_any nb B d ys w1 (hb.below h)
 have HB : Below w.heap.size w w := Below.refl _ _
 have hcb := hb.cap
 have hmb := hb.max
 have hca := ha.cap
 have hma := ha.max
 cases v1 : validB na xs
 ·have hf : fvB na xs nb ys = false := by unfold fvB; rw [v1]; rfl
  rw [hf]
  rw [v1] at HX
  clear HY hf v1 ha hb
  generalize xs.length = k at *
  generalize ys.length = l at *
  go_enter Tryz.func5, Tryz.ntmps5
  go_wp2_with fail
  refine (HX.out _ BG).mono ?_
  rintro e w1 ⟨rfl, h1⟩
  have hv_ : Below w.heap.size w w1 := Below.trans (b := _) (by repeat (first | assumption | exact Bv _ _ | refine Ba ?_ (by simp; try omega) _ | refine Bd ?_ | refine Bn ?_ _)) (h1.mono (by simp; try omega))
  replace HB := HB.trans (hv_.mono HB.size)
  clear hv_
  go_wp2
  go_ret
  exact ⟨rfl, HB⟩
 ·rw [v1] at HX
  cases v2 : validB nb ys
  ·have hf : fvB na xs nb ys = false := by unfold fvB; rw [v1, v2]; rfl
   rw [hf]
   rw [v2] at HY
   clear hf v1 v2 ha hb
   generalize xs.length = k at *
   generalize ys.length = l at *
   go_enter Tryz.func5, Tryz.ntmps5
   go_wp2_with fail
   refine (HX.out _ BG).mono ?_
   rintro e w1 ⟨rfl, h1⟩
   obtain ⟨q0, q1, q2, q3, z0⟩ := newF h1
   have hv_ : Below w.heap.size w w1 := Below.trans (b := _) (by repeat (first | assumption | exact Bv _ _ | refine Ba ?_ (by simp; try omega) _ | refine Bd ?_ | refine Bn ?_ _)) (h1.mono (by simp; try omega))
   replace HB := HB.trans (hv_.mono HB.size)
   clear hv_
   go_wp2_with fail
   refine (HY.out _ HB).mono ?_
   rintro e w2 ⟨rfl, h2⟩
   have hv_ : Below w1.heap.size w1 w2 := Below.trans (b := _) (by repeat (first | assumption | exact Bv _ _ | refine Ba ?_ (by simp; try omega) _ | refine Bd ?_ | refine Bn ?_ _)) (h2.mono (by simp; try omega))
   replace q0 := keep_cell hv_ q0
   replace q1 := keep_cell hv_ q1
   replace q2 := keep_cell hv_ q2
   replace q3 := keep_cell hv_ q3
   have lt_q0 := cell_lt q0
   have lt_q1 := cell_lt q1
   have lt_q2 := cell_lt q2
   have lt_q3 := cell_lt q3
   replace HB := HB.trans (hv_.mono HB.size)
   clear hv_
   go_wp2
   go_ret
   exact ⟨rfl, HB⟩
  ·rw [v2] at HY
   cases nb with
   | true =>
    have hf : fvB na xs true ys = false := by unfold fvB; simp
    rw [hf]
    clear hf v1 v2 ha hb
    generalize xs.length = k at *
    generalize ys.length = l at *
    go_enter Tryz.func5, Tryz.ntmps5
    go_wp2_with fail
    refine (HX.out _ BG).mono ?_
    rintro e w1 ⟨rfl, h1⟩
    obtain ⟨q0, q1, q2, q3, z0⟩ := newF h1
    have hv_ : Below w.heap.size w w1 := Below.trans (b := _) (by repeat (first | assumption | exact Bv _ _ | refine Ba ?_ (by simp; try omega) _ | refine Bd ?_ | refine Bn ?_ _)) (h1.mono (by simp; try omega))
    replace HB := HB.trans (hv_.mono HB.size)
    clear hv_
    go_wp2_with fail
    refine (HY.out _ HB).mono ?_
    rintro e w2 ⟨rfl, h2⟩
    have hv_ : Below w1.heap.size w1 w2 := Below.trans (b := _) (by repeat (first | assumption | exact Bv _ _ | refine Ba ?_ (by simp; try omega) _ | refine Bd ?_ | refine Bn ?_ _)) (h2.mono (by simp; try omega))
    replace q0 := keep_cell hv_ q0
    replace q1 := keep_cell hv_ q1
    replace q2 := keep_cell hv_ q2
    replace q3 := keep_cell hv_ q3
    have lt_q0 := cell_lt q0
    have lt_q1 := cell_lt q1
    have lt_q2 := cell_lt q2
    have lt_q3 := cell_lt q3
    replace HB := HB.trans (hv_.mono HB.size)
    clear hv_
    go_wp2
    go_ret
    exact ⟨rfl, HB⟩
   | false =>
    by_cases h0 : ys = []
    ·have hf : fvB na xs false ys = false := by unfold fvB; simp [h0]
     rw [hf]
     subst h0
     clear hf v1 v2 ha hb
     simp only [List.length_nil] at *
     generalize xs.length = k at *
     go_enter Tryz.func5, Tryz.ntmps5
     go_wp2_with fail
     refine (HX.out _ BG).mono ?_
     rintro e w1 ⟨rfl, h1⟩
     obtain ⟨q0, q1, q2, q3, z0⟩ := newF h1
     have hv_ : Below w.heap.size w w1 := Below.trans (b := _) (by repeat (first | assumption | exact Bv _ _ | refine Ba ?_ (by simp; try omega) _ | refine Bd ?_ | refine Bn ?_ _)) (h1.mono (by simp; try omega))
     replace HB := HB.trans (hv_.mono HB.size)
     clear hv_
     go_wp2_with fail
     refine (HY.out _ HB).mono ?_
     rintro e w2 ⟨rfl, h2⟩
     have hv_ : Below w1.heap.size w1 w2 := Below.trans (b := _) (by repeat (first | assumption | exact Bv _ _ | refine Ba ?_ (by simp; try omega) _ | refine Bd ?_ | refine Bn ?_ _)) (h2.mono (by simp; try omega))
     replace q0 := keep_cell hv_ q0
     replace q1 := keep_cell hv_ q1
     replace q2 := keep_cell hv_ q2
     replace q3 := keep_cell hv_ q3
     have lt_q0 := cell_lt q0
     have lt_q1 := cell_lt q1
     have lt_q2 := cell_lt q2
     have lt_q3 := cell_lt q3
     replace HB := HB.trans (hv_.mono HB.size)
     clear hv_
     go_wp2
     go_ret
     exact ⟨rfl, HB⟩
    ·have hl0 : ((ys.length : Int) == 0) = false := by rw [beq_eq_false_iff_ne]; have := List.length_pos_iff.2 h0; omega
     have p1 := (validB_limbs ha.ok v1).1
     have p2 := (validB_limbs hb.ok v2).1
     have b1 := validB_len v1
     have b2 := validB_len v2
     obtain ⟨kg, LG, IG⟩ := lz (Nat.gcd (val xs) (val ys))
     have HC := hid fun (w1 : World) (h : Below w.heap.size w w1) => Qcommon_g (w := w1) (⟨p1, rfl⟩ : Lz (val xs) xs.length xs) (⟨p2, rfl⟩ : Lz (val ys) ys.length ys) (ha.below h) (hb.below h) (by omega) (by omega) IG.out
     have hf : fvB na xs false ys = decide (LG = [1]) := by
      unfold fvB
      rw [v1, v2, Bool.eq_iff_iff]
      simp only [Bool.and_true, Bool.not_false, Bool.and_eq_true, decide_eq_true_eq]
      rw [IG.out.hL, limbs_is_one]
      exact ⟨fun h => h.2, fun h => ⟨⟨trivial, h0⟩, h⟩⟩
     rw [hf]
     have HO := hid fun (w1 : World) (R : Option Addr) (cc : Nat) (m : Mg w1 R cc LG) => Qone_any (w := w1) m IG.out.hk _ rfl
     clear hf v1 v2 ha hb p1 p2 b1 b2 h0 IG
     generalize decide (LG = [1]) = r at *
     generalize xs.length = k at *
     generalize ys.length = l at *
     go_enter Tryz.func5, Tryz.ntmps5
     go_wp2_with fail
     refine (HX.out _ BG).mono ?_
     rintro e w1 ⟨rfl, h1⟩
     obtain ⟨q0, q1, q2, q3, z0⟩ := newF h1
     have hv_ : Below w.heap.size w w1 := Below.trans (b := _) (by repeat (first | assumption | exact Bv _ _ | refine Ba ?_ (by simp; try omega) _ | refine Bd ?_ | refine Bn ?_ _)) (h1.mono (by simp; try omega))
     replace HB := HB.trans (hv_.mono HB.size)
     clear hv_
     go_wp2_with fail
     refine (HY.out _ HB).mono ?_
     rintro e w2 ⟨rfl, h2⟩
     have hv_ : Below w1.heap.size w1 w2 := Below.trans (b := _) (by repeat (first | assumption | exact Bv _ _ | refine Ba ?_ (by simp; try omega) _ | refine Bd ?_ | refine Bn ?_ _)) (h2.mono (by simp; try omega))
     replace q0 := keep_cell hv_ q0
     replace q1 := keep_cell hv_ q1
     replace q2 := keep_cell hv_ q2
     replace q3 := keep_cell hv_ q3
     have lt_q0 := cell_lt q0
     have lt_q1 := cell_lt q1
     have lt_q2 := cell_lt q2
     have lt_q3 := cell_lt q3
     replace HB := HB.trans (hv_.mono HB.size)
     clear hv_
     go_wp2_with fail
     refine (HC.out _ HB).mono ?_
     rintro e w3 ⟨R1, e1, rfl, m1, h3⟩
     have hv_ : Below w2.heap.size w2 w3 := Below.trans (b := _) (by repeat (first | assumption | exact Bv _ _ | refine Ba ?_ (by simp; try omega) _ | refine Bd ?_ | refine Bn ?_ _)) (h3.mono (by simp; try omega))
     replace q0 := keep_cell hv_ q0
     replace q1 := keep_cell hv_ q1
     replace q2 := keep_cell hv_ q2
     replace q3 := keep_cell hv_ q3
     have lt_q0 := cell_lt q0
     have lt_q1 := cell_lt q1
     have lt_q2 := cell_lt q2
     have lt_q3 := cell_lt q3
     replace HB := HB.trans (hv_.mono HB.size)
     clear hv_
     go_wp2_with fail
     refine (HO.out _ _ _ m1).mono ?_
     rintro e w4 ⟨rfl, rfl⟩
     go_wp2
     go_ret
     exact ⟨rfl, HB⟩
end Go.Proofs.YtfdmlfpldgobjaaGreatDoor
/- The reference: walks of FromInt, ToInt. Conditions: none. -/
namespace Go.Proofs.YtfdmlfpldgobjaaGreatDoor
open Go.RowKit Big
theorem mg_two (W : World) {m u : Nat} (hm : m < 4294967296) (hu : u < 4294967296) : Mg (W.alloc (.cells #[.int .u32 (m : Int), .int .u32 (u : Int)] 61)) (some ⟨W.heap.size, 0, none⟩) 2 [m, u] := by
 refine ⟨Nat.le_refl _, by omega, ?_, Rd.of_blk (heap_alloc_new _ _) ?_⟩
 ·intro x hx
  simp at hx
  omega
 ·intro j hj
  match j, hj with
  | 0, _ => simp [lim]
  | 1, _ => simp [lim]
set_option maxHeartbeats 1000000 in
theorem RFromInt_pos (k : Nat) (w : World) (hk : k ≤ 9223372036854775807) : Calls Tryz.prog 72 #[.int .i64 k] w (RetZ w k) := by
 obtain ⟨m, hm⟩ : ∃ m, k % 4294967296 = m := ⟨_, rfl⟩
 obtain ⟨u, hu⟩ : ∃ u, k / 4294967296 = u := ⟨_, rfl⟩
 have hm1 : (k : Int) % 4294967296 = (m : Int) := by omega
 have hu1 : (k : Int) / 4294967296 = (u : Int) := by omega
 have HS := hid fun (w1 : World) (g : Nat) (hg : g = w1.heap.size) => (show Calls Tryz.prog 103 #[.bool false, .slice (some ⟨g, 0, none⟩) 2 2] (w1.alloc (.cells #[.int .u32 (m : Int), .int .u32 (u : Int)] 61)) (RetZ (w1.alloc (.cells #[.int .u32 (m : Int), .int .u32 (u : Int)] 61)) (k : Int)) by
  subst hg
  have h := Rsigned_any false _ _ _ _ (mg_two w1 (m := m) (u := u) (by omega) (by omega)) (by simp)
  rw [show val [m, u] = k by simp only [val]; omega, show sg false k = (k : Int) by simp [sg]] at h
  exact h)
 have hm2 : m < 4294967296 := by omega
 have hu2 : u < 4294967296 := by omega
 have hkn : decide ((k : Int) < 0) = false := by simp
 clear hm hu
 go_enter Tryz.func72, Tryz.ntmps72
 go_wp2_with fail
 refine (HS.out _ _ (by simp)).mono ?_
 rintro e w2 ⟨R, cc, rfl, hr, h2⟩
 obtain ⟨p1, p2, p3, p4, p5⟩ := box2_keep h2
 have b2 : Below w.heap.size w w2 := bel_step BG h2
 have k0 := p1 0
 have k1 := p1 1
 simp at k0 k1
 go_wp2
 refine bodyPost_ret (v := .agg #[.bool (decide (((k : Int)) < 0)), .slice R (limbs (Int.natAbs ((k : Int)))).length cc]) ?_ rfl ?_
 ·simp [results, Tryz.results72, go_sem, k0, k1] <;> omega
 ·exact fin_z hr b2 (by omega) k0 k1 _ _
set_option maxHeartbeats 1000000 in
theorem RFromInt_neg (k : Nat) (w : World) (h0 : 1 ≤ k) (hk : k ≤ 9223372036854775808) : Calls Tryz.prog 72 #[.int .i64 (-(k : Int))] w (RetZ w (-(k : Int))) := by
 obtain ⟨m, hm⟩ : ∃ m, k % 4294967296 = m := ⟨_, rfl⟩
 obtain ⟨u, hu⟩ : ∃ u, k / 4294967296 = u := ⟨_, rfl⟩
 have hm1 : (k : Int) % 4294967296 = (m : Int) := by omega
 have hu1 : (k : Int) / 4294967296 = (u : Int) := by omega
 have HS := hid fun (w1 : World) (g : Nat) (hg : g = w1.heap.size) => (show Calls Tryz.prog 103 #[.bool true, .slice (some ⟨g, 0, none⟩) 2 2] (w1.alloc (.cells #[.int .u32 (m : Int), .int .u32 (u : Int)] 61)) (RetZ (w1.alloc (.cells #[.int .u32 (m : Int), .int .u32 (u : Int)] 61)) (-(k : Int))) by
  subst hg
  have h := Rsigned_any true _ _ _ _ (mg_two w1 (m := m) (u := u) (by omega) (by omega)) (by simp)
  rw [show val [m, u] = k by simp only [val]; omega, show sg true k = -(k : Int) by simp [sg]] at h
  exact h)
 have hm2 : m < 4294967296 := by omega
 have hu2 : u < 4294967296 := by omega
 obtain ⟨z, hz⟩ : ∃ z, -(k : Int) = z := ⟨_, rfl⟩
 have hz1 : z < 0 := by omega
 have hz2 : -9223372036854775808 ≤ z := by omega
 have hz3 : -(z + 1) + 1 = (k : Int) := by omega
 rw [hz] at HS ⊢
 clear hm hu hz
 go_enter Tryz.func72, Tryz.ntmps72
 go_wp2_with fail
 refine (HS.out _ _ (by simp)).mono ?_
 rintro e w2 ⟨R, cc, rfl, hr, h2⟩
 obtain ⟨p1, p2, p3, p4, p5⟩ := box2_keep h2
 have b2 : Below w.heap.size w w2 := bel_step BG h2
 have k0 := p1 0
 have k1 := p1 1
 simp at k0 k1
 go_wp2
 refine bodyPost_ret (v := .agg #[.bool (decide ((z) < 0)), .slice R (limbs (Int.natAbs (z))).length cc]) ?_ rfl ?_
 ·simp [results, Tryz.results72, go_sem, k0, k1] <;> omega
 ·exact fin_z hr b2 (by omega) k0 k1 _ _
theorem RFromInt_ok (n : Int) (w : World) (h1 : -9223372036854775808 ≤ n) (h2 : n ≤ 9223372036854775807) : Calls Tryz.prog 72 #[.int .i64 n] w (RetZ w n) := by
 by_cases hn : n < 0
 ·have h1 := RFromInt_neg n.natAbs w (by omega) (by omega)
  have e : -((n.natAbs : Nat) : Int) = n := by omega
  rw [e] at h1
  exact h1
 ·have h1 := RFromInt_pos n.natAbs w (by omega)
  have e : ((n.natAbs : Nat) : Int) = n := by omega
  rw [e] at h1
  exact h1
end Go.Proofs.YtfdmlfpldgobjaaGreatDoor
/- The fractions' reference: walks of New, Of. Conditions: none. -/
namespace Go.Proofs.YtfdmlfpldgobjaaGreatDoor
open Go.RowKit Big
set_option maxRecDepth 100000 in
set_option maxHeartbeats 2000000 in
theorem QNew_any {na nb : Bool} {xs ys : List Nat} {A B : Option Addr} {ca cb : Nat} {w : World} (ha : Mg w A ca xs) (hb : Mg w B cb ys) :
  Calls Tryz.prog 71 #[.agg #[.bool na, .slice A xs.length ca], .agg #[.bool nb, .slice B ys.length cb]] w (RetFE w (newR na xs nb ys)) := by
 have HX := hid fun (w1 : World) (h : Below w.heap.size w w1) => RValid_any na A ca xs w1 (ha.below h)
 have HY := hid fun (w1 : World) (h : Below w.heap.size w w1) => RValid_any nb B cb ys w1 (hb.below h)
 cases v1 : validB na xs
 ·have hr : newR na xs nb ys = ((0, 0), 1) := by unfold newR; rw [v1]; rfl
  rw [hr]
  rw [v1] at HX
  clear hr v1 ha hb HY
  generalize xs.length = k at *
  generalize ys.length = l at *
  go_enter Tryz.func71, Tryz.ntmps71
  go_wp2_with fail
  refine enterIIF (P := fun u => Calls _ _ _ u _) ?_
  intro u HB q0 q1 r0 r1 s0 s1 s2 s3 z1 z2 z3 hsz
  clear hsz
  have f_z1 := z1.fr
  have f_z2 := z2.fr
  have f_z3 := z3.fr
  have lt_q0 := cell_lt q0
  have lt_r0 := cell_lt r0
  have lt_s0 := cell_lt s0
  refine (HX.out _ HB).mono ?_
  rintro e w1 ⟨rfl, h1⟩
  have hv_ : Below u.heap.size u w1 := Below.trans (b := _) (by repeat (first | assumption | exact Bv _ _ | refine Ba ?_ (by simp; try omega) _ | refine Bd ?_ | refine Bn ?_ _)) (h1.mono (by simp; try omega))
  replace q0 := keep_cell hv_ q0
  replace q1 := keep_cell hv_ q1
  replace r0 := keep_cell hv_ r0
  replace r1 := keep_cell hv_ r1
  replace s0 := keep_cell hv_ s0
  replace s1 := keep_cell hv_ s1
  replace s2 := keep_cell hv_ s2
  replace s3 := keep_cell hv_ s3
  have lt_q0 := cell_lt q0
  have lt_q1 := cell_lt q1
  have lt_r0 := cell_lt r0
  have lt_r1 := cell_lt r1
  have lt_s0 := cell_lt s0
  have lt_s1 := cell_lt s1
  have lt_s2 := cell_lt s2
  have lt_s3 := cell_lt s3
  replace z1 := z1.below hv_
  replace z2 := z2.below hv_
  replace z3 := z3.below hv_
  replace f_z1 := z1.fr
  replace f_z2 := z2.fr
  replace f_z3 := z3.fr
  replace HB := HB.trans (hv_.mono HB.size)
  clear hv_
  go_wp2
  refine bodyPost_ret (v := .tuple #[.agg #[.bool false, .slice none 0 0, .bool false, .slice none 0 0], .int .i64 1]) ?_ rfl ?_
  ·simp [results, Tryz.results71, go_sem, s0, s1, s2, s3]
  ·exact retFE_set 1 HB (by omega) s0 s1 s2 s3
 ·rw [v1] at HX
  cases v2 : validB nb ys
  ·have hr : newR na xs nb ys = ((0, 0), 1) := by unfold newR; rw [v1, v2]; rfl
   rw [hr]
   rw [v2] at HY
   clear hr v1 v2 ha hb
   generalize xs.length = k at *
   generalize ys.length = l at *
   go_enter Tryz.func71, Tryz.ntmps71
   go_wp2_with fail
   refine enterIIF (P := fun u => Calls _ _ _ u _) ?_
   intro u HB q0 q1 r0 r1 s0 s1 s2 s3 z1 z2 z3 hsz
   clear hsz
   have f_z1 := z1.fr
   have f_z2 := z2.fr
   have f_z3 := z3.fr
   have lt_q0 := cell_lt q0
   have lt_r0 := cell_lt r0
   have lt_s0 := cell_lt s0
   refine (HX.out _ HB).mono ?_
   rintro e w1 ⟨rfl, h1⟩
   have hv_ : Below u.heap.size u w1 := Below.trans (b := _) (by repeat (first | assumption | exact Bv _ _ | refine Ba ?_ (by simp; try omega) _ | refine Bd ?_ | refine Bn ?_ _)) (h1.mono (by simp; try omega))
   replace q0 := keep_cell hv_ q0
   replace q1 := keep_cell hv_ q1
   replace r0 := keep_cell hv_ r0
   replace r1 := keep_cell hv_ r1
   replace s0 := keep_cell hv_ s0
   replace s1 := keep_cell hv_ s1
   replace s2 := keep_cell hv_ s2
   replace s3 := keep_cell hv_ s3
   have lt_q0 := cell_lt q0
   have lt_q1 := cell_lt q1
   have lt_r0 := cell_lt r0
   have lt_r1 := cell_lt r1
   have lt_s0 := cell_lt s0
   have lt_s1 := cell_lt s1
   have lt_s2 := cell_lt s2
   have lt_s3 := cell_lt s3
   replace z1 := z1.below hv_
   replace z2 := z2.below hv_
   replace z3 := z3.below hv_
   replace f_z1 := z1.fr
   replace f_z2 := z2.fr
   replace f_z3 := z3.fr
   replace HB := HB.trans (hv_.mono HB.size)
   clear hv_
   go_wp2_with fail
   refine (HY.out _ HB).mono ?_
   rintro e w2 ⟨rfl, h2⟩
   have hv_ : Below w1.heap.size w1 w2 := Below.trans (b := _) (by repeat (first | assumption | exact Bv _ _ | refine Ba ?_ (by simp; try omega) _ | refine Bd ?_ | refine Bn ?_ _)) (h2.mono (by simp; try omega))
   replace q0 := keep_cell hv_ q0
   replace q1 := keep_cell hv_ q1
   replace r0 := keep_cell hv_ r0
   replace r1 := keep_cell hv_ r1
   replace s0 := keep_cell hv_ s0
   replace s1 := keep_cell hv_ s1
   replace s2 := keep_cell hv_ s2
   replace s3 := keep_cell hv_ s3
   have lt_q0 := cell_lt q0
   have lt_q1 := cell_lt q1
   have lt_r0 := cell_lt r0
   have lt_r1 := cell_lt r1
   have lt_s0 := cell_lt s0
   have lt_s1 := cell_lt s1
   have lt_s2 := cell_lt s2
   have lt_s3 := cell_lt s3
   replace z1 := z1.below hv_
   replace z2 := z2.below hv_
   replace z3 := z3.below hv_
   replace f_z1 := z1.fr
   replace f_z2 := z2.fr
   replace f_z3 := z3.fr
   replace HB := HB.trans (hv_.mono HB.size)
   clear hv_
   go_wp2
   refine bodyPost_ret (v := .tuple #[.agg #[.bool false, .slice none 0 0, .bool false, .slice none 0 0], .int .i64 1]) ?_ rfl ?_
   ·simp [results, Tryz.results71, go_sem, s0, s1, s2, s3]
   ·exact retFE_set 1 HB (by omega) s0 s1 s2 s3
  ·rw [v2] at HY
   obtain ⟨p1, p2, p3⟩ := validB_limbs ha.ok v1
   obtain ⟨q1, q2, q3⟩ := validB_limbs hb.ok v2
   have b1 := validB_len v1
   have b2 := validB_len v2
   have ix : Lz (val xs) xs.length xs := ⟨p1, rfl⟩
   have iy : Lz (val ys) ys.length ys := ⟨q1, rfl⟩
   by_cases h0 : val ys = 0
   ·have hr : newR na xs nb ys = ((0, 0), 12) := by unfold newR newE; rw [v1, v2, h0, sg_zero]; simp
    have hl : ys.length = 0 := iy.zero.2 h0
    rw [hr, hl]
    rw [hl] at HY
    clear hr hl v1 v2 ha hb p1 p2 p3 q1 q2 q3 b1 b2 ix iy h0
    generalize xs.length = k at *
    go_enter Tryz.func71, Tryz.ntmps71
    go_wp2_with fail
    refine enterIIF (P := fun u => Calls _ _ _ u _) ?_
    intro u HB q0 q1 r0 r1 s0 s1 s2 s3 z1 z2 z3 hsz
    clear hsz
    have f_z1 := z1.fr
    have f_z2 := z2.fr
    have f_z3 := z3.fr
    have lt_q0 := cell_lt q0
    have lt_r0 := cell_lt r0
    have lt_s0 := cell_lt s0
    refine (HX.out _ HB).mono ?_
    rintro e w1 ⟨rfl, h1⟩
    have hv_ : Below u.heap.size u w1 := Below.trans (b := _) (by repeat (first | assumption | exact Bv _ _ | refine Ba ?_ (by simp; try omega) _ | refine Bd ?_ | refine Bn ?_ _)) (h1.mono (by simp; try omega))
    replace q0 := keep_cell hv_ q0
    replace q1 := keep_cell hv_ q1
    replace r0 := keep_cell hv_ r0
    replace r1 := keep_cell hv_ r1
    replace s0 := keep_cell hv_ s0
    replace s1 := keep_cell hv_ s1
    replace s2 := keep_cell hv_ s2
    replace s3 := keep_cell hv_ s3
    have lt_q0 := cell_lt q0
    have lt_q1 := cell_lt q1
    have lt_r0 := cell_lt r0
    have lt_r1 := cell_lt r1
    have lt_s0 := cell_lt s0
    have lt_s1 := cell_lt s1
    have lt_s2 := cell_lt s2
    have lt_s3 := cell_lt s3
    replace z1 := z1.below hv_
    replace z2 := z2.below hv_
    replace z3 := z3.below hv_
    replace f_z1 := z1.fr
    replace f_z2 := z2.fr
    replace f_z3 := z3.fr
    replace HB := HB.trans (hv_.mono HB.size)
    clear hv_
    go_wp2_with fail
    refine (HY.out _ HB).mono ?_
    rintro e w2 ⟨rfl, h2⟩
    have hv_ : Below w1.heap.size w1 w2 := Below.trans (b := _) (by repeat (first | assumption | exact Bv _ _ | refine Ba ?_ (by simp; try omega) _ | refine Bd ?_ | refine Bn ?_ _)) (h2.mono (by simp; try omega))
    replace q0 := keep_cell hv_ q0
    replace q1 := keep_cell hv_ q1
    replace r0 := keep_cell hv_ r0
    replace r1 := keep_cell hv_ r1
    replace s0 := keep_cell hv_ s0
    replace s1 := keep_cell hv_ s1
    replace s2 := keep_cell hv_ s2
    replace s3 := keep_cell hv_ s3
    have lt_q0 := cell_lt q0
    have lt_q1 := cell_lt q1
    have lt_r0 := cell_lt r0
    have lt_r1 := cell_lt r1
    have lt_s0 := cell_lt s0
    have lt_s1 := cell_lt s1
    have lt_s2 := cell_lt s2
    have lt_s3 := cell_lt s3
    replace z1 := z1.below hv_
    replace z2 := z2.below hv_
    replace z3 := z3.below hv_
    replace f_z1 := z1.fr
    replace f_z2 := z2.fr
    replace f_z3 := z3.fr
    replace HB := HB.trans (hv_.mono HB.size)
    clear hv_
    go_wp2
    refine bodyPost_ret (v := .tuple #[.agg #[.bool false, .slice none 0 0, .bool false, .slice none 0 0], .int .i64 12]) ?_ rfl ?_
    ·simp [results, Tryz.results71, go_sem, s0, s1, s2, s3]
    ·exact retFE_set 12 HB (by omega) s0 s1 s2 s3
   ·have hy0 : sg nb (val ys) ≠ 0 := by unfold sg; split <;> omega
    have hr : newR na xs nb ys = lowE (sg (!(na == nb)) (val xs)) (val ys) := by
     unfold newR newE
     rw [v1, v2, if_pos (by rfl), if_neg hy0, ← p3, ← q3, natAbs_sg, natAbs_sg]
     rfl
    have hl : ((ys.length : Int) == 0) = false := by rw [beq_eq_false_iff_ne]; have : ys.length ≠ 0 := fun h => h0 (iy.zero.1 h); omega
    obtain ⟨p, err, hp⟩ : ∃ p err, lowE (sg (!(na == nb)) (val xs)) (val ys) = (p, err) := ⟨_, _, rfl⟩
    obtain ⟨bq, kq, Xq, lq, Yq, IQ⟩ := fz p
    have HM := hid fun (w1 : World) (h : Below w.heap.size w w1) => Qmade_g (w := w1) ix iy (ha.below h) (hb.below h) (by omega) (by omega) h0 IQ.out hp
    rw [hr, hp]
    clear hr v1 v2 ha hb p1 p2 p3 q1 q2 q3 b1 b2 ix iy h0 hp hy0
    generalize xs.length = k at *
    generalize ys.length = l at *
    go_enter Tryz.func71, Tryz.ntmps71
    go_wp2_with fail
    refine enterIIF (P := fun u => Calls _ _ _ u _) ?_
    intro u HB q0 q1 r0 r1 s0 s1 s2 s3 z1 z2 z3 hsz
    clear hsz
    have f_z1 := z1.fr
    have f_z2 := z2.fr
    have f_z3 := z3.fr
    have lt_q0 := cell_lt q0
    have lt_r0 := cell_lt r0
    have lt_s0 := cell_lt s0
    refine (HX.out _ HB).mono ?_
    rintro e w1 ⟨rfl, h1⟩
    have hv_ : Below u.heap.size u w1 := Below.trans (b := _) (by repeat (first | assumption | exact Bv _ _ | refine Ba ?_ (by simp; try omega) _ | refine Bd ?_ | refine Bn ?_ _)) (h1.mono (by simp; try omega))
    replace q0 := keep_cell hv_ q0
    replace q1 := keep_cell hv_ q1
    replace r0 := keep_cell hv_ r0
    replace r1 := keep_cell hv_ r1
    replace s0 := keep_cell hv_ s0
    replace s1 := keep_cell hv_ s1
    replace s2 := keep_cell hv_ s2
    replace s3 := keep_cell hv_ s3
    have lt_q0 := cell_lt q0
    have lt_q1 := cell_lt q1
    have lt_r0 := cell_lt r0
    have lt_r1 := cell_lt r1
    have lt_s0 := cell_lt s0
    have lt_s1 := cell_lt s1
    have lt_s2 := cell_lt s2
    have lt_s3 := cell_lt s3
    replace z1 := z1.below hv_
    replace z2 := z2.below hv_
    replace z3 := z3.below hv_
    replace f_z1 := z1.fr
    replace f_z2 := z2.fr
    replace f_z3 := z3.fr
    replace HB := HB.trans (hv_.mono HB.size)
    clear hv_
    go_wp2_with fail
    refine (HY.out _ HB).mono ?_
    rintro e w2 ⟨rfl, h2⟩
    have hv_ : Below w1.heap.size w1 w2 := Below.trans (b := _) (by repeat (first | assumption | exact Bv _ _ | refine Ba ?_ (by simp; try omega) _ | refine Bd ?_ | refine Bn ?_ _)) (h2.mono (by simp; try omega))
    replace q0 := keep_cell hv_ q0
    replace q1 := keep_cell hv_ q1
    replace r0 := keep_cell hv_ r0
    replace r1 := keep_cell hv_ r1
    replace s0 := keep_cell hv_ s0
    replace s1 := keep_cell hv_ s1
    replace s2 := keep_cell hv_ s2
    replace s3 := keep_cell hv_ s3
    have lt_q0 := cell_lt q0
    have lt_q1 := cell_lt q1
    have lt_r0 := cell_lt r0
    have lt_r1 := cell_lt r1
    have lt_s0 := cell_lt s0
    have lt_s1 := cell_lt s1
    have lt_s2 := cell_lt s2
    have lt_s3 := cell_lt s3
    replace z1 := z1.below hv_
    replace z2 := z2.below hv_
    replace z3 := z3.below hv_
    replace f_z1 := z1.fr
    replace f_z2 := z2.fr
    replace f_z3 := z3.fr
    replace HB := HB.trans (hv_.mono HB.size)
    clear hv_
    go_wp2_with fail
    refine (HM.out _ HB).mono ?_
    rintro e w3 ⟨R1, c1, R2, c2, rfl, m1, m2, h3⟩
    have hv_ : Below w2.heap.size w2 w3 := Below.trans (b := _) (by repeat (first | assumption | exact Bv _ _ | refine Ba ?_ (by simp; try omega) _ | refine Bd ?_ | refine Bn ?_ _)) (h3.mono (by simp; try omega))
    replace q0 := keep_cell hv_ q0
    replace q1 := keep_cell hv_ q1
    replace r0 := keep_cell hv_ r0
    replace r1 := keep_cell hv_ r1
    replace s0 := keep_cell hv_ s0
    replace s1 := keep_cell hv_ s1
    replace s2 := keep_cell hv_ s2
    replace s3 := keep_cell hv_ s3
    have lt_q0 := cell_lt q0
    have lt_q1 := cell_lt q1
    have lt_r0 := cell_lt r0
    have lt_r1 := cell_lt r1
    have lt_s0 := cell_lt s0
    have lt_s1 := cell_lt s1
    have lt_s2 := cell_lt s2
    have lt_s3 := cell_lt s3
    replace z1 := z1.below hv_
    replace z2 := z2.below hv_
    replace z3 := z3.below hv_
    replace f_z1 := z1.fr
    replace f_z2 := z2.fr
    replace f_z3 := z3.fr
    replace HB := HB.trans (hv_.mono HB.size)
    clear hv_
    go_wp2
    refine bodyPost_ret (v := .tuple #[.agg #[.bool bq, .slice R1 kq c1, .bool false, .slice R2 lq c2], .int .i64 err]) ?_ rfl ?_
    ·simp [results, Tryz.results71, go_sem, s0, s1, s2, s3]
    ·obtain ⟨j1_, j2_, j3_⟩ := fin_fr m1 m2 HB (by omega) s0 s1 s2 s3 (.bool bq) (.slice R1 kq c1) (.bool false) (.slice R2 lq c2)
     exact GF.r ⟨R1, c1, R2, c2, rfl, j1_, j2_, j3_⟩ IQ.out
set_option maxRecDepth 100000 in
set_option maxHeartbeats 2000000 in
theorem QOf_any (x y : Int) (w : World) (h1 : -9223372036854775808 ≤ x) (h2 : x ≤ 9223372036854775807) (h3 : -9223372036854775808 ≤ y) (h4 : y ≤ 9223372036854775807) :
  Calls Tryz.prog 49 #[.int .i64 x, .int .i64 y] w (RetFE w (newE x y)) := by
 have HX := hid fun (w1 : World) => RFromInt_ok x w1 h1 h2
 have HY := hid fun (w1 : World) => RFromInt_ok y w1 h3 h4
 have HN := hid fun (w1 : World) (R Q : Option Addr) (c d : Nat) (m : Mg w1 R c (limbs x.natAbs)) (m' : Mg w1 Q d (limbs y.natAbs)) => by
  have := QNew_any (na := decide (x < 0)) (nb := decide (y < 0)) m m'
  rwa [newR_int x y (valid_int x h1 h2) (valid_int y h3 h4)] at this
 obtain ⟨q, hq⟩ : ∃ q, newE x y = q := ⟨_, rfl⟩
 rw [hq] at HN ⊢
 obtain ⟨bx, kx, Lx, IX⟩ := iz x
 obtain ⟨by_, ky, Ly, IY⟩ := iz y
 replace HX := hid fun w1 => (HX.out w1).mono fun e w' h => RetZ.g h IX.out
 replace HY := hid fun w1 => (HY.out w1).mono fun e w' h => RetZ.g h IY.out
 replace HN := hid fun (w1 : World) (R Q : Option Addr) (c d : Nat) (m : Mg w1 R c Lx) (m' : Mg w1 Q d Ly) => by
  have := HN.out w1 R Q c d (by rw [← IX.out.hx]; exact m) (by rw [← IY.out.hx]; exact m')
  rwa [← IX.out.hx, ← IY.out.hx, ← IX.out.hn, ← IY.out.hn, ← IX.out.hb, ← IY.out.hb] at this
 obtain ⟨⟨p, err⟩, rfl⟩ : ∃ p, q = p := ⟨_, rfl⟩
 obtain ⟨bq, kq, Xq, lq, Yq, IQ⟩ := fz p
 replace HN := hid fun w1 R Q c d m m' => (HN.out w1 R Q c d m m').mono fun e w' h => RetFE.g h IQ.out
 clear hq IX IY
 go_enter Tryz.func49, Tryz.ntmps49
 go_wp2_with fail
 refine enterF (P := fun u => Calls _ _ _ u _) ?_
 intro u HB q0 q1 q2 q3 z1 hsz
 clear hsz
 have f_z1 := z1.fr
 have lt_q0 := cell_lt q0
 refine (HX.out _).mono ?_
 rintro e w1 ⟨R1, c1, rfl, m1, h1_⟩
 have hv_ : Below u.heap.size u w1 := Below.trans (b := _) (by repeat (first | assumption | exact Bv _ _ | refine Ba ?_ (by simp; try omega) _ | refine Bd ?_ | refine Bn ?_ _)) (h1_.mono (by simp; try omega))
 replace q0 := keep_cell hv_ q0
 replace q1 := keep_cell hv_ q1
 replace q2 := keep_cell hv_ q2
 replace q3 := keep_cell hv_ q3
 have lt_q0 := cell_lt q0
 have lt_q1 := cell_lt q1
 have lt_q2 := cell_lt q2
 have lt_q3 := cell_lt q3
 replace z1 := z1.below hv_
 replace f_z1 := z1.fr
 replace HB := HB.trans (hv_.mono HB.size)
 clear hv_
 go_wp2_with fail
 refine (HY.out _).mono ?_
 rintro e w2 ⟨R2, c2, rfl, m2, h2_⟩
 have hv_ : Below w1.heap.size w1 w2 := Below.trans (b := _) (by repeat (first | assumption | exact Bv _ _ | refine Ba ?_ (by simp; try omega) _ | refine Bd ?_ | refine Bn ?_ _)) (h2_.mono (by simp; try omega))
 replace m1 := m1.below hv_
 replace q0 := keep_cell hv_ q0
 replace q1 := keep_cell hv_ q1
 replace q2 := keep_cell hv_ q2
 replace q3 := keep_cell hv_ q3
 have lt_q0 := cell_lt q0
 have lt_q1 := cell_lt q1
 have lt_q2 := cell_lt q2
 have lt_q3 := cell_lt q3
 replace z1 := z1.below hv_
 replace f_z1 := z1.fr
 replace HB := HB.trans (hv_.mono HB.size)
 clear hv_
 go_wp2_with fail
 refine (HN.out _ _ _ _ _ m1 m2).mono ?_
 rintro e w3 ⟨R3, c3, R4, c4, rfl, m3, m4, h3_⟩
 have hv_ : Below w2.heap.size w2 w3 := Below.trans (b := _) (by repeat (first | assumption | exact Bv _ _ | refine Ba ?_ (by simp; try omega) _ | refine Bd ?_ | refine Bn ?_ _)) (h3_.mono (by simp; try omega))
 replace q0 := keep_cell hv_ q0
 replace q1 := keep_cell hv_ q1
 replace q2 := keep_cell hv_ q2
 replace q3 := keep_cell hv_ q3
 have lt_q0 := cell_lt q0
 have lt_q1 := cell_lt q1
 have lt_q2 := cell_lt q2
 have lt_q3 := cell_lt q3
 replace z1 := z1.below hv_
 replace f_z1 := z1.fr
 replace HB := HB.trans (hv_.mono HB.size)
 clear hv_
 go_wp2
 refine bodyPost_ret (v := .tuple #[.agg #[.bool bq, .slice R3 kq c3, .bool false, .slice R4 lq c4], .int .i64 err]) ?_ rfl ?_
 ·simp [results, Tryz.results49, go_sem, q0, q1, q2, q3]
 ·obtain ⟨j1_, j2_, j3_⟩ := fin_fr m3 m4 HB (by omega) q0 q1 q2 q3 (.bool bq) (.slice R3 kq c3) (.bool false) (.slice R4 lq c4)
  exact GF.r ⟨R3, c3, R4, c4, rfl, j1_, j2_, j3_⟩ IQ.out
end Go.Proofs.YtfdmlfpldgobjaaGreatDoor
