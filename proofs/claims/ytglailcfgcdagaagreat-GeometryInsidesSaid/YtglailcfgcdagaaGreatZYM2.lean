/- The reference: walks of Sub, GCD. Conditions: none. -/
import Derived.Test.YtglailcfgcdagaaGreatZYM
import Derived.Test.YtglailcfgcdagaaGreatZYE
set_option linter.unusedVariables false
set_option linter.unusedSimpArgs false
namespace Go.Proofs.YtglailcfgcdagaaGreat
open Go.RowKit Big
end Go.Proofs.YtglailcfgcdagaaGreat
/- The reference: the walk of DivMod. Conditions: none. -/
namespace Go.Proofs.YtglailcfgcdagaaGreat
open Go.RowKit Big
end Go.Proofs.YtglailcfgcdagaaGreat
/- The reference: walks of FromInt, ToInt. Conditions: none. -/
namespace Go.Proofs.YtglailcfgcdagaaGreat
open Go.RowKit Big
theorem mg_two (W : World) {m u : Nat} (hm : m < 4294967296) (hu : u < 4294967296) : Mg (W.alloc (.cells #[.int .u32 (m : Int), .int .u32 (u : Int)] 85)) (some ⟨W.heap.size, 0, none⟩) 2 [m, u] := by
 refine ⟨Nat.le_refl _, by omega, ?_, Rd.of_blk (heap_alloc_new _ _) ?_⟩
 ·intro x hx
  simp at hx
  omega
 ·intro j hj
  match j, hj with
  | 0, _ => simp [lim]
  | 1, _ => simp [lim]
set_option maxHeartbeats 1000000 in
theorem RFromInt_pos (k : Nat) (w : World) (hk : k ≤ 9223372036854775807) : Calls Tryz.prog 35 #[.int .i64 k] w (RetZ w k) := by
 obtain ⟨m, hm⟩ : ∃ m, k % 4294967296 = m := ⟨_, rfl⟩
 obtain ⟨u, hu⟩ : ∃ u, k / 4294967296 = u := ⟨_, rfl⟩
 have hm1 : (k : Int) % 4294967296 = (m : Int) := by omega
 have hu1 : (k : Int) / 4294967296 = (u : Int) := by omega
 have HS := hid fun (w1 : World) (g : Nat) (hg : g = w1.heap.size) => (show Calls Tryz.prog 49 #[.bool false, .slice (some ⟨g, 0, none⟩) 2 2] (w1.alloc (.cells #[.int .u32 (m : Int), .int .u32 (u : Int)] 85)) (RetZ (w1.alloc (.cells #[.int .u32 (m : Int), .int .u32 (u : Int)] 85)) (k : Int)) by
  subst hg
  have h := Rsigned_any false _ _ _ _ (mg_two w1 (m := m) (u := u) (by omega) (by omega)) (by simp)
  rw [show val [m, u] = k by simp only [val]; omega, show sg false k = (k : Int) by simp [sg]] at h
  exact h)
 have hm2 : m < 4294967296 := by omega
 have hu2 : u < 4294967296 := by omega
 have hkn : decide ((k : Int) < 0) = false := by simp
 clear hm hu
 go_enter Tryz.func35, Tryz.ntmps35
 go_wp2_with fail
 refine (HS.out _ _ (by simp)).mono ?_
 rintro e w2 ⟨R, cc, rfl, hr, h2⟩
 obtain ⟨p1, p2, p3, p4, p5⟩ := box2_keep h2
 have b2 : Below w.heap.size w w2 := bel_step BG h2
 have k0 := p1 0
 have k1 := p1 1
 simp at k0 k1
 go_wp2
 refine bodyPost_ret (v := .agg #[.bool (decide (((k : Int)) < 0)), .slice R (limbs (Int.natAbs ((k : Int)))).length cc]) ?_ rfl ?_
 ·simp [results, Tryz.results35, go_sem, k0, k1] <;> omega
 ·exact fin_z hr b2 (by omega) k0 k1 _ _
set_option maxHeartbeats 1000000 in
theorem RFromInt_neg (k : Nat) (w : World) (h0 : 1 ≤ k) (hk : k ≤ 9223372036854775808) : Calls Tryz.prog 35 #[.int .i64 (-(k : Int))] w (RetZ w (-(k : Int))) := by
 obtain ⟨m, hm⟩ : ∃ m, k % 4294967296 = m := ⟨_, rfl⟩
 obtain ⟨u, hu⟩ : ∃ u, k / 4294967296 = u := ⟨_, rfl⟩
 have hm1 : (k : Int) % 4294967296 = (m : Int) := by omega
 have hu1 : (k : Int) / 4294967296 = (u : Int) := by omega
 have HS := hid fun (w1 : World) (g : Nat) (hg : g = w1.heap.size) => (show Calls Tryz.prog 49 #[.bool true, .slice (some ⟨g, 0, none⟩) 2 2] (w1.alloc (.cells #[.int .u32 (m : Int), .int .u32 (u : Int)] 85)) (RetZ (w1.alloc (.cells #[.int .u32 (m : Int), .int .u32 (u : Int)] 85)) (-(k : Int))) by
  subst hg
  have h := Rsigned_any true _ _ _ _ (mg_two w1 (m := m) (u := u) (by omega) (by omega)) (by simp)
  rw [show val [m, u] = k by simp only [val]; omega, show sg true k = -(k : Int) by simp [sg]] at h
  exact h)
 have hm2 : m < 4294967296 := by omega
 have hu2 : u < 4294967296 := by omega
 obtain ⟨z, hz⟩ : ∃ z, -(k : Int) = z := ⟨_, rfl⟩
 have hz1 : z < 0 := by omega
 have hz2 : -9223372036854775808 ≤ z := by omega
 have hz3 : -(z + 1) + 1 = (k : Int) := by omega
 rw [hz] at HS ⊢
 clear hm hu hz
 go_enter Tryz.func35, Tryz.ntmps35
 go_wp2_with fail
 refine (HS.out _ _ (by simp)).mono ?_
 rintro e w2 ⟨R, cc, rfl, hr, h2⟩
 obtain ⟨p1, p2, p3, p4, p5⟩ := box2_keep h2
 have b2 : Below w.heap.size w w2 := bel_step BG h2
 have k0 := p1 0
 have k1 := p1 1
 simp at k0 k1
 go_wp2
 refine bodyPost_ret (v := .agg #[.bool (decide ((z) < 0)), .slice R (limbs (Int.natAbs (z))).length cc]) ?_ rfl ?_
 ·simp [results, Tryz.results35, go_sem, k0, k1] <;> omega
 ·exact fin_z hr b2 (by omega) k0 k1 _ _
theorem RFromInt_ok (n : Int) (w : World) (h1 : -9223372036854775808 ≤ n) (h2 : n ≤ 9223372036854775807) : Calls Tryz.prog 35 #[.int .i64 n] w (RetZ w n) := by
 by_cases hn : n < 0
 ·have h1 := RFromInt_neg n.natAbs w (by omega) (by omega)
  have e : -((n.natAbs : Nat) : Int) = n := by omega
  rw [e] at h1
  exact h1
 ·have h1 := RFromInt_pos n.natAbs w (by omega)
  have e : ((n.natAbs : Nat) : Int) = n := by omega
  rw [e] at h1
  exact h1
end Go.Proofs.YtglailcfgcdagaaGreat
/- The contracts of the reference on integers once more, the sign, the length and the limbs of each integer under names of their own. Conditions: none. -/
namespace Go.Proofs.YtglailcfgcdagaaGreat
open Go.RowKit Big
section
variable {x y z r err : Int} {b b' b2 b3 : Bool} {n n' n2 n3 : Nat} {xs ys zs rs : List Nat} {A B : Option Addr} {c d : Nat} {w : World}
variable (hx : Iz x b n xs) (hy : Iz y b' n' ys)
include hx hy
section
variable (hz : Iz z b2 n2 zs) (he : fitE r = (z, err)) (ha : Mg w A c xs) (hb : Mg w B d ys) (fx : fits x) (fy : fits y)
include hz he ha hb fx fy
end
end
end Go.Proofs.YtglailcfgcdagaaGreat
/- Package bigint and the reference give the same results. Conditions: none. -/
namespace Go.Proofs.YtglailcfgcdagaaGreat
open Go.RowKit Big
theorem RetZE.g {w w' : World} {z err : Int} {b : Bool} {n : Nat} {L : List Nat} {e : Ending} (h : RetZE w z err e w') (I : Iz z b n L) : GZE w b n L err e w' := by
 obtain ⟨rfl, rfl, rfl⟩ := I; exact h
theorem RetZ.g {w w' : World} {z : Int} {b : Bool} {n : Nat} {L : List Nat} {e : Ending} (h : RetZ w z e w') (I : Iz z b n L) : GZ w b n L e w' := by
 obtain ⟨rfl, rfl, rfl⟩ := I; exact h
theorem RetDM.g {w w' : World} {z r err : Int} {b b' : Bool} {n n' : Nat} {L L' : List Nat} {e : Ending} (h : RetDM w z r err e w') (I : Iz z b n L) (I' : Iz r b' n' L') : GDM w b n L b' n' L' err e w' := by
 obtain ⟨rfl, rfl, rfl⟩ := I; obtain ⟨rfl, rfl, rfl⟩ := I'; exact h
end Go.Proofs.YtglailcfgcdagaaGreat
