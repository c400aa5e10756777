/- The reference: walks of FromInt, ToInt. Conditions: none. -/
import Derived.Test.YtkfpcohdbbhmaaaDoorR9
namespace Go.Proofs.YtkfpcohdbbhmaaaDoor
set_option linter.unusedVariables false
set_option linter.unusedSimpArgs false
open Go.RowKit Big

theorem mg_two (W : World) {m u : Nat} (hm : m < 4294967296) (hu : u < 4294967296) : Mg (W.alloc (.cells #[.int .u32 (m : Int), .int .u32 (u : Int)] 57)) (some ⟨W.heap.size, 0, none⟩) 2 [m, u] := by
  refine ⟨Nat.le_refl _, by omega, ?_, Rd.of_blk (heap_alloc_new _ _) ?_⟩
  · intro x hx
    simp at hx
    omega
  · intro j hj
    match j, hj with
    | 0, _ => simp [lim]
    | 1, _ => simp [lim]

set_option maxHeartbeats 1000000 in
theorem RFromInt_pos (k : Nat) (w : World) (hk : k ≤ 9223372036854775807) : Calls Tryd.prog 34 #[.int .i64 k] w (RetZ w k) := by
  obtain ⟨m, hm⟩ : ∃ m, k % 4294967296 = m := ⟨_, rfl⟩
  obtain ⟨u, hu⟩ : ∃ u, k / 4294967296 = u := ⟨_, rfl⟩
  have hm1 : (k : Int) % 4294967296 = (m : Int) := by omega
  have hu1 : (k : Int) / 4294967296 = (u : Int) := by omega
  have HS := hid fun (w1 : World) (g : Nat) (hg : g = w1.heap.size) => (show Calls Tryd.prog 56 #[.bool false, .slice (some ⟨g, 0, none⟩) 2 2] (w1.alloc (.cells #[.int .u32 (m : Int), .int .u32 (u : Int)] 57)) (RetZ (w1.alloc (.cells #[.int .u32 (m : Int), .int .u32 (u : Int)] 57)) (k : Int)) by
    subst hg
    have h := Rsigned_any false _ _ _ _ (mg_two w1 (m := m) (u := u) (by omega) (by omega)) (by simp)
    rw [show val [m, u] = k by simp only [val]; omega, show sg false k = (k : Int) by simp [sg]] at h
    exact h)
  have hm2 : m < 4294967296 := by omega
  have hu2 : u < 4294967296 := by omega
  have hkn : decide ((k : Int) < 0) = false := by simp
  clear hm hu
  go_enter Tryd.func34, Tryd.ntmps34
  go_wp2_with fail
  refine (HS.out _ _ (by simp)).mono ?_
  rintro e w2 ⟨R, cc, rfl, hr, h2⟩
  obtain ⟨p1, p2, p3, p4, p5⟩ := box2_keep h2
  have b2 : Below w.heap.size w w2 := bel_step (by repeat' (first | with_reducible assumption | exact Below.refl _ _ | (refine Below.alloc ?_ (by first | omega | (simp only [World.size_alloc, World.size_setCell, World.size_drew]; done) | (simp only [World.size_alloc, World.size_setCell, World.size_drew]; omega)) _) | (refine Below.drew ?_) | (refine below_drewN ?_ _) | (refine Below.setCell ?_ (by first | omega | (simp only [World.size_alloc, World.size_setCell, World.size_drew]; done) | (simp only [World.size_alloc, World.size_setCell, World.size_drew]; omega)) _))) h2
  have k0 := p1 0
  have k1 := p1 1
  simp at k0 k1
  go_wp2
  refine bodyPost_ret (v := .agg #[.bool (decide (((k : Int)) < 0)), .slice R (limbs (Int.natAbs ((k : Int)))).length cc]) ?_ rfl ?_
  · simp [results, Tryd.results34, go_sem, k0, k1] <;> omega
  · exact fin_z hr b2 (by omega) k0 k1 _ _

set_option maxHeartbeats 1000000 in
theorem RFromInt_neg (k : Nat) (w : World) (h0 : 1 ≤ k) (hk : k ≤ 9223372036854775808) : Calls Tryd.prog 34 #[.int .i64 (-(k : Int))] w (RetZ w (-(k : Int))) := by
  obtain ⟨m, hm⟩ : ∃ m, k % 4294967296 = m := ⟨_, rfl⟩
  obtain ⟨u, hu⟩ : ∃ u, k / 4294967296 = u := ⟨_, rfl⟩
  have hm1 : (k : Int) % 4294967296 = (m : Int) := by omega
  have hu1 : (k : Int) / 4294967296 = (u : Int) := by omega
  have HS := hid fun (w1 : World) (g : Nat) (hg : g = w1.heap.size) => (show Calls Tryd.prog 56 #[.bool true, .slice (some ⟨g, 0, none⟩) 2 2] (w1.alloc (.cells #[.int .u32 (m : Int), .int .u32 (u : Int)] 57)) (RetZ (w1.alloc (.cells #[.int .u32 (m : Int), .int .u32 (u : Int)] 57)) (-(k : Int))) by
    subst hg
    have h := Rsigned_any true _ _ _ _ (mg_two w1 (m := m) (u := u) (by omega) (by omega)) (by simp)
    rw [show val [m, u] = k by simp only [val]; omega, show sg true k = -(k : Int) by simp [sg]] at h
    exact h)
  have hm2 : m < 4294967296 := by omega
  have hu2 : u < 4294967296 := by omega
  obtain ⟨z, hz⟩ : ∃ z, -(k : Int) = z := ⟨_, rfl⟩
  have hz1 : z < 0 := by omega
  have hz2 : -9223372036854775808 ≤ z := by omega
  have hz3 : -(z + 1) + 1 = (k : Int) := by omega
  rw [hz] at HS ⊢
  clear hm hu hz
  go_enter Tryd.func34, Tryd.ntmps34
  go_wp2_with fail
  refine (HS.out _ _ (by simp)).mono ?_
  rintro e w2 ⟨R, cc, rfl, hr, h2⟩
  obtain ⟨p1, p2, p3, p4, p5⟩ := box2_keep h2
  have b2 : Below w.heap.size w w2 := bel_step (by repeat' (first | with_reducible assumption | exact Below.refl _ _ | (refine Below.alloc ?_ (by first | omega | (simp only [World.size_alloc, World.size_setCell, World.size_drew]; done) | (simp only [World.size_alloc, World.size_setCell, World.size_drew]; omega)) _) | (refine Below.drew ?_) | (refine below_drewN ?_ _) | (refine Below.setCell ?_ (by first | omega | (simp only [World.size_alloc, World.size_setCell, World.size_drew]; done) | (simp only [World.size_alloc, World.size_setCell, World.size_drew]; omega)) _))) h2
  have k0 := p1 0
  have k1 := p1 1
  simp at k0 k1
  go_wp2
  refine bodyPost_ret (v := .agg #[.bool (decide ((z) < 0)), .slice R (limbs (Int.natAbs (z))).length cc]) ?_ rfl ?_
  · simp [results, Tryd.results34, go_sem, k0, k1] <;> omega
  · exact fin_z hr b2 (by omega) k0 k1 _ _

theorem RFromInt_ok (n : Int) (w : World) (h1 : -9223372036854775808 ≤ n) (h2 : n ≤ 9223372036854775807) : Calls Tryd.prog 34 #[.int .i64 n] w (RetZ w n) := by
  by_cases hn : n < 0
  · have h1 := RFromInt_neg n.natAbs w (by omega) (by omega)
    have e : -((n.natAbs : Nat) : Int) = n := by omega
    rw [e] at h1
    exact h1
  · have h1 := RFromInt_pos n.natAbs w (by omega)
    have e : ((n.natAbs : Nat) : Int) = n := by omega
    rw [e] at h1
    exact h1

theorem RToInt_bad (na : Bool) (xs : List Nat) (A : Option Addr) (c : Nat) (w : World) (ha : Mg w A c xs) (h : validB na xs = false) :
    Calls Tryd.prog 32 #[.agg #[.bool na, .slice A xs.length c]] w (RetIE w 0 1) := by
  have HX := hid fun (w1 : World) (h1 : Below w.heap.size w w1) => RValid_f (ha.below h1) h
  clear ha h
  generalize xs.length = lx at *
  go_enter Tryd.func32, Tryd.ntmps32
  go_wp2_with fail
  refine (HX.out _ (by repeat (first | assumption | exact Below.refl _ _ | refine Below.alloc ?_ (by simp; try omega) _ | refine Below.drew ?_ | refine below_drewN ?_ _))).mono ?_
  rintro e w1 ⟨rfl, h1⟩
  have b1 : Below w.heap.size w w1 := Below.trans (b := _) (by repeat (first | assumption | exact Below.refl _ _ | refine Below.alloc ?_ (by simp; try omega) _ | refine Below.drew ?_ | refine below_drewN ?_ _)) (h1.mono (by simp))
  go_wp2
  go_ret2
  exact ⟨rfl, b1⟩

set_option maxHeartbeats 1000000 in
theorem RToInt_ok (x : Int) (A : Option Addr) (c : Nat) (w : World) (ha : Mg w A c (limbs x.natAbs)) (fx : fits x) :
    Calls Tryd.prog 32 #[.agg #[.bool (decide ((x) < 0)), .slice A (limbs (Int.natAbs (x))).length c]] w (RetIE w (toI x).1 (toI x).2) := by
  have HX := hid fun (w1 : World) (h1 : Below w.heap.size w w1) => RValid_t (ha.below h1) fx
  have H0 := hid fun (w1 : World) (h1 : Below w.heap.size w w1) => (show Calls Tryd.prog 79 #[.slice A (limbs x.natAbs).length c, .int .i64 0] w1 fun e w' => e = .returned (.int .u64 ((lb (limbs x.natAbs) 0 : Nat) : Int)) ∧ w' = w1 from (Rlimb_any A c _ w1 (ha.below h1) 0 (by omega)).mono fun e w' ⟨h, h'⟩ => ⟨h, h'.symm⟩)
  have H1 := hid fun (w1 : World) (h1 : Below w.heap.size w w1) => (show Calls Tryd.prog 79 #[.slice A (limbs x.natAbs).length c, .int .i64 1] w1 fun e w' => e = .returned (.int .u64 ((lb (limbs x.natAbs) 1 : Nat) : Int)) ∧ w' = w1 from (Rlimb_any A c _ w1 (ha.below h1) 1 (by omega)).mono fun e w' ⟨h, h'⟩ => ⟨h, h'.symm⟩)
  have l0 := lb_lt (ok_limbs x.natAbs) 0
  have l1 := lb_lt (ok_limbs x.natAbs) 1
  have hfx : (limbs x.natAbs).length ≤ 512 := fx
  have hv : (limbs x.natAbs).length ≤ 2 → lb (limbs x.natAbs) 0 + 4294967296 * lb (limbs x.natAbs) 1 = x.natAbs := fun h => by
    have h1 := val_drop (limbs x.natAbs) 0
    have h2 := val_drop (limbs x.natAbs) 1
    rw [val_out _ (by omega : (limbs x.natAbs).length ≤ 1 + 1)] at h2
    rw [h2, List.drop_zero, val_limbs] at h1
    omega
  have hl2 := len2 (n := x.natAbs)
  clear ha fx
  generalize lb (limbs x.natAbs) 0 = a at *
  generalize lb (limbs x.natAbs) 1 = b at *
  generalize (limbs x.natAbs).length = lx at *
  by_cases hl : lx ≤ 2
  · have hv := hv hl
    have hn18 := hl2.1 hl
    have hv1 : (a : Int) + 4294967296 * (b : Int) = ((x.natAbs : Nat) : Int) := by omega
    by_cases hn : x < 0
    · have ex : decide (x < 0) = true := by simpa using hn
      rw [ex] at HX ⊢
      obtain ⟨n, hn1⟩ : ∃ n : Nat, x.natAbs = n := ⟨_, rfl⟩
      have hn2 : 0 < n := by omega
      rw [hn1] at hv1 hn18
      by_cases hb : n ≤ 9223372036854775808
      · rw [toI_yes (x := x) (by omega)]
        have hxn := hid (show x = -((n : Int) - 1) - 1 by omega)
        clear hv hl2 hn1 ex hn
        go_enter Tryd.func32, Tryd.ntmps32
        go_wp2_with fail
        refine (HX.out _ (by repeat (first | assumption | exact Below.refl _ _ | refine Below.alloc ?_ (by simp; try omega) _ | refine Below.drew ?_ | refine below_drewN ?_ _))).mono ?_
        rintro e w1 ⟨rfl, h1⟩
        obtain ⟨p1, p2, p3⟩ := box_keep h1
        have b1 : Below w.heap.size w w1 := Below.trans (b := _) (by repeat (first | assumption | exact Below.refl _ _ | refine Below.alloc ?_ (by simp; try omega) _ | refine Below.drew ?_ | refine below_drewN ?_ _)) (h1.mono (by simp))
        have k0 := p1 0
        have k1 := p1 1
        simp at k0 k1
        go_wp2_with fail
        go_quiet (first | (go_at_call 79; with_reducible refine Calls.quiet_of_same (H0.out _ (below_drewN b1 _))) | (go_at_call 79; with_reducible refine Calls.quiet_of_same (H1.out _ (below_drewN b1 _))))
        go_wp2_with fail
        go_ret2
        exact ⟨by rw [hxn.out] <;> rfl, below_drewN b1 _⟩
      · rw [toI_no (x := x) (by omega)]
        clear hv hl2 hn1 ex hn
        have hb2 : (9223372036854775808 : Int) < (n : Int) := by omega
        go_enter Tryd.func32, Tryd.ntmps32
        go_wp2_with fail
        refine (HX.out _ (by repeat (first | assumption | exact Below.refl _ _ | refine Below.alloc ?_ (by simp; try omega) _ | refine Below.drew ?_ | refine below_drewN ?_ _))).mono ?_
        rintro e w1 ⟨rfl, h1⟩
        obtain ⟨p1, p2, p3⟩ := box_keep h1
        have b1 : Below w.heap.size w w1 := Below.trans (b := _) (by repeat (first | assumption | exact Below.refl _ _ | refine Below.alloc ?_ (by simp; try omega) _ | refine Below.drew ?_ | refine below_drewN ?_ _)) (h1.mono (by simp))
        have k0 := p1 0
        have k1 := p1 1
        simp at k0 k1
        go_wp2_with fail
        go_quiet (first | (go_at_call 79; with_reducible refine Calls.quiet_of_same (H0.out _ (below_drewN b1 _))) | (go_at_call 79; with_reducible refine Calls.quiet_of_same (H1.out _ (below_drewN b1 _))))
        go_wp2_with fail
        go_ret2
        exact ⟨rfl, below_drewN b1 _⟩
    · have ex : decide (x < 0) = false := by simpa using hn
      rw [ex] at HX ⊢
      obtain ⟨n, hn1⟩ : ∃ n : Nat, x.natAbs = n := ⟨_, rfl⟩
      rw [hn1] at hv1 hn18
      by_cases hb : n < 9223372036854775808
      · rw [toI_yes (x := x) (by omega)]
        have hxn := hid (show x = (n : Int) by omega)
        clear hv hl2 hn1 ex hn
        have hb2 : ¬ (9223372036854775807 : Int) < (n : Int) := by omega
        go_enter Tryd.func32, Tryd.ntmps32
        go_wp2_with fail
        refine (HX.out _ (by repeat (first | assumption | exact Below.refl _ _ | refine Below.alloc ?_ (by simp; try omega) _ | refine Below.drew ?_ | refine below_drewN ?_ _))).mono ?_
        rintro e w1 ⟨rfl, h1⟩
        obtain ⟨p1, p2, p3⟩ := box_keep h1
        have b1 : Below w.heap.size w w1 := Below.trans (b := _) (by repeat (first | assumption | exact Below.refl _ _ | refine Below.alloc ?_ (by simp; try omega) _ | refine Below.drew ?_ | refine below_drewN ?_ _)) (h1.mono (by simp))
        have k0 := p1 0
        have k1 := p1 1
        simp at k0 k1
        go_wp2_with fail
        go_quiet (first | (go_at_call 79; with_reducible refine Calls.quiet_of_same (H0.out _ (below_drewN b1 _))) | (go_at_call 79; with_reducible refine Calls.quiet_of_same (H1.out _ (below_drewN b1 _))))
        go_wp2_with fail
        go_ret2
        exact ⟨by rw [hxn.out] <;> rfl, below_drewN b1 _⟩
      · rw [toI_no (x := x) (by omega)]
        clear hv hl2 hn1 ex hn
        have hb2 : (9223372036854775807 : Int) < (n : Int) := by omega
        go_enter Tryd.func32, Tryd.ntmps32
        go_wp2_with fail
        refine (HX.out _ (by repeat (first | assumption | exact Below.refl _ _ | refine Below.alloc ?_ (by simp; try omega) _ | refine Below.drew ?_ | refine below_drewN ?_ _))).mono ?_
        rintro e w1 ⟨rfl, h1⟩
        obtain ⟨p1, p2, p3⟩ := box_keep h1
        have b1 : Below w.heap.size w w1 := Below.trans (b := _) (by repeat (first | assumption | exact Below.refl _ _ | refine Below.alloc ?_ (by simp; try omega) _ | refine Below.drew ?_ | refine below_drewN ?_ _)) (h1.mono (by simp))
        have k0 := p1 0
        have k1 := p1 1
        simp at k0 k1
        go_wp2_with fail
        go_quiet (first | (go_at_call 79; with_reducible refine Calls.quiet_of_same (H0.out _ (below_drewN b1 _))) | (go_at_call 79; with_reducible refine Calls.quiet_of_same (H1.out _ (below_drewN b1 _))))
        go_wp2_with fail
        go_ret2
        exact ⟨rfl, below_drewN b1 _⟩
  · have hn18 := mt hl2.2 hl
    rw [toI_no (x := x) (by omega)]
    have hb2 : (2 : Int) < (lx : Int) := by omega
    clear hv hl2 hn18
    generalize decide (x < 0) = bx at *
    go_enter Tryd.func32, Tryd.ntmps32
    go_wp2_with fail
    refine (HX.out _ (by repeat (first | assumption | exact Below.refl _ _ | refine Below.alloc ?_ (by simp; try omega) _ | refine Below.drew ?_ | refine below_drewN ?_ _))).mono ?_
    rintro e w1 ⟨rfl, h1⟩
    obtain ⟨p1, p2, p3⟩ := box_keep h1
    have b1 : Below w.heap.size w w1 := Below.trans (b := _) (by repeat (first | assumption | exact Below.refl _ _ | refine Below.alloc ?_ (by simp; try omega) _ | refine Below.drew ?_ | refine below_drewN ?_ _)) (h1.mono (by simp))
    have k0 := p1 0
    have k1 := p1 1
    simp at k0 k1
    go_wp2_with fail
    go_quiet (first | (go_at_call 79; with_reducible refine Calls.quiet_of_same (H0.out _ (below_drewN b1 _))) | (go_at_call 79; with_reducible refine Calls.quiet_of_same (H1.out _ (below_drewN b1 _))))
    go_wp2_with fail
    go_ret2
    exact ⟨rfl, below_drewN b1 _⟩
end Go.Proofs.YtkfpcohdbbhmaaaDoor
