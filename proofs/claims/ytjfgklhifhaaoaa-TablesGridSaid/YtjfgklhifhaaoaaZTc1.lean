/- Tables: cmp.Compare and cmp.Or at integers. Conditions: none. -/
import Derived.Test.YtjfgklhifhaaoaaZTw6
import Derived.Shelf.SlSortCmp.WholeK
import Derived.Shelf.SlSortCmp.QuietGrown
set_option linter.unusedVariables false
set_option linter.unusedSimpArgs false
namespace Go.Proofs.Ytjfgklhifhaaoaa
open Go.RowKit
def cmp1 (a b : Int) : Int := if a < b then -1 else if b < a then 1 else 0
theorem isNaN_w (x : Int) (w : World) : Calls Try.prog 51 #[.int .i64 x] w fun e w' => e = .returned (.bool false) ∧ w' = w := by
 go_enter Try.func51, Try.ntmps51
 go_wp2
 go_ret
 exact ⟨by simp, rfl⟩
set_option maxHeartbeats 1000000 in
theorem Compare_w (x y : Int) (w : World) : Calls Try.prog 39 #[.int .i64 x, .int .i64 y] w fun e w' => e = .returned (.int .i64 (cmp1 x y)) ∧ w' = w := by
 have H1 := hid (isNaN_w x w)
 have H2 := hid (isNaN_w y w)
 obtain ⟨k, hk⟩ : ∃ k, cmp1 x y = k := ⟨_, rfl⟩
 rw [hk]
 replace hk := hid hk
 go_enter Try.func39, Try.ntmps39
 go_wp2_with fail
 refine H1.out.mono ?_
 rintro e w1 ⟨rfl, rfl⟩
 go_wp2_with fail
 refine H2.out.mono ?_
 rintro e w2 ⟨rfl, rfl⟩
 clear H1 H2
 by_cases h1 : x < y
 ·obtain rfl : -1 = k := by rw [← hk.out]; unfold cmp1; rw [if_pos h1]
  clear hk
  go_wp2
  go_ret
  exact ⟨rfl, rfl⟩
 ·by_cases h2 : y < x
  ·obtain rfl : 1 = k := by rw [← hk.out]; unfold cmp1; rw [if_neg h1, if_pos h2]
   clear hk
   go_wp2
   go_ret
   exact ⟨rfl, rfl⟩
  ·obtain rfl : 0 = k := by rw [← hk.out]; unfold cmp1; rw [if_neg h1, if_neg h2]
   clear hk
   go_wp2
   go_ret
   exact ⟨rfl, rfl⟩
set_option maxHeartbeats 1000000 in
theorem Or_w (x y : Int) (g c : Nat) {w : World} (h0 : w.cell? ⟨g, 0, none⟩ = some (.int .i64 x)) (h1 : w.cell? ⟨g, 1, none⟩ = some (.int .i64 y)) : Calls Try.prog 38 #[.slice (some ⟨g, 0, none⟩) 2 c] w fun e w' => e = .returned (.int .i64 (if x = 0 then y else x)) ∧ w' = w := by
 obtain ⟨k, hk⟩ : ∃ k, (if x = 0 then y else x) = k := ⟨_, rfl⟩
 rw [hk]
 by_cases hx : x = 0
 ·obtain rfl : y = k := by rw [← hk, if_pos hx]
  clear hk
  subst hx
  by_cases hy : y = 0
  ·subst hy
   go_enter Try.func38, Try.ntmps38
   go_wp2
   refine wp_loop_rounds 3 ?_
   rw [rounds_succ]
   go_wp2
   rw [rounds_succ]
   go_wp2
   rw [rounds_succ]
   go_wp2
   go_ret
   exact ⟨rfl, rfl⟩
  ·go_enter Try.func38, Try.ntmps38
   go_wp2
   refine wp_loop_rounds 3 ?_
   rw [rounds_succ]
   go_wp2
   rw [rounds_succ]
   go_wp2
   go_ret
   exact ⟨rfl, rfl⟩
 ·obtain rfl : x = k := by rw [← hk, if_neg hx]
  clear hk
  go_enter Try.func38, Try.ntmps38
  go_wp2
  refine wp_loop_rounds 3 ?_
  rw [rounds_succ]
  go_wp2
  go_ret
  exact ⟨rfl, rfl⟩
end Go.Proofs.Ytjfgklhifhaaoaa
