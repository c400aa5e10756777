/- Integers: the walk of FromInt. Conditions: none. -/
import Derived.Test.YtkfpcohdbbhmaaaDoorBi18
namespace Go.Proofs.YtkfpcohdbbhmaaaDoor
set_option linter.unusedVariables false
set_option linter.unusedSimpArgs false
open Go.RowKit Big

set_option maxHeartbeats 400000 in
theorem FromInt_pos (k : Nat) (w : World) (hk : k ≤ 9223372036854775807) : Calls Tryd.prog 30 #[.int .i64 k] w (RetZ w k) := by
  have H1 := hid fun (w1 : World) => fromWord_any k w1 (by omega)
  have H2 := hid fun (w1 : World) (A1 : Option Addr) (c1 : Nat) (h : Mg w1 A1 c1 (limbs k)) => integer_any false A1 c1 k w1 h
  have e : sg false k = (k : Int) := by simp [sg]
  rw [e] at H2
  clear e
  go_enter Tryd.func30, Tryd.ntmps30
  go_wp2_with (first | (go_at_call 77; refine (H1.out _).mono ?_; rintro e w1 ⟨R, cc, rfl, hr, h1⟩) | (go_at_call 54; refine (H2.out _ _ _ hr).mono ?_; rintro e w2 ⟨R2, cc2, rfl, hr2, h2⟩; have h12 := h1.trans (h2.mono h1.size); obtain ⟨kc, kf, kz⟩ := box_keep h12))
  have k0 := kc 0
  have k1 := kc 1
  simp at k0 k1
  refine bodyPost_ret (v := .agg #[.bool (decide (((k : Int)) < 0)), .slice R2 (limbs (Int.natAbs ((k : Int)))).length cc2]) ?_ rfl ?_
  · simp [results, Tryd.results30, go_sem, k0, k1]
  · exact fin_z hr2 (((Below.refl _ _).alloc (Nat.le_refl _) _).trans (h12.mono (by simp))) (Nat.le_refl _) k0 k1 _ _

set_option maxHeartbeats 400000 in
theorem FromInt_neg (k : Nat) (w : World) (h0 : 1 ≤ k) (hk : k ≤ 9223372036854775808) : Calls Tryd.prog 30 #[.int .i64 (-(k : Int))] w (RetZ w (-(k : Int))) := by
  have H1 := hid fun (w1 : World) => fromWord_any k w1 (by omega)
  have H2 := hid fun (w1 : World) (A1 : Option Addr) (c1 : Nat) (h : Mg w1 A1 c1 (limbs k)) => integer_any true A1 c1 k w1 h
  have e : sg true k = -(k : Int) := by simp [sg]
  rw [e] at H2
  clear e
  have hw : IntKind.u64.wrap (-IntKind.u64.wrap (-(k : Int))) = (k : Int) := by simp only [IntKind.wrap_u64]; omega
  have hd : decide (0 < k) = true := by simp; omega
  go_enter Tryd.func30, Tryd.ntmps30
  go_wp2_with (first | (go_at_call 77; refine (H1.out _).mono ?_; rintro e w1 ⟨R, cc, rfl, hr, h1⟩) | (go_at_call 54; refine (H2.out _ _ _ hr).mono ?_; rintro e w2 ⟨R2, cc2, rfl, hr2, h2⟩; have h12 := h1.trans (h2.mono h1.size); obtain ⟨kc, kf, kz⟩ := box_keep h12))
  have k0 := kc 0
  have k1 := kc 1
  simp at k0 k1
  refine bodyPost_ret (v := .agg #[.bool (decide ((-(k : Int)) < 0)), .slice R2 (limbs (Int.natAbs (-(k : Int)))).length cc2]) ?_ rfl ?_
  · simp [results, Tryd.results30, go_sem, k0, k1]; omega
  · exact fin_z hr2 (((Below.refl _ _).alloc (Nat.le_refl _) _).trans (h12.mono (by simp))) (Nat.le_refl _) k0 k1 _ _

theorem FromInt_ok (n : Int) (w : World) (h1 : -9223372036854775808 ≤ n) (h2 : n ≤ 9223372036854775807) : Calls Tryd.prog 30 #[.int .i64 n] w (RetZ w n) := by
  by_cases hn : n < 0
  · have h1 := FromInt_neg n.natAbs w (by omega) (by omega)
    have e : -((n.natAbs : Nat) : Int) = n := by omega
    rw [e] at h1
    exact h1
  · have h1 := FromInt_pos n.natAbs w (by omega)
    have e : ((n.natAbs : Nat) : Int) = n := by omega
    rw [e] at h1
    exact h1

end Go.Proofs.YtkfpcohdbbhmaaaDoor
