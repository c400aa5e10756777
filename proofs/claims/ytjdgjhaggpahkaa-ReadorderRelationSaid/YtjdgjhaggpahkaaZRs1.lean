/- Reading order: what the two sorts compare. Conditions: none. -/
import Derived.Test.YtjdgjhaggpahkaaZRw7
import Derived.Shelf.SlSortCmp.QuietGrown
import Derived.Sort.Grow
set_option linter.unusedVariables false
set_option linter.unusedSimpArgs false
namespace Go.Proofs.Ytjdgjhaggpahkaa
open Go.RowKit Go.Deep
def cmp1 (a b : Int) : Int := if a < b then -1 else if b < a then 1 else 0
theorem isNaN_w (x : Int) (w : World) : Calls Try.prog 48 #[.int .i64 x] w fun e w' => e = .returned (.bool false) ∧ w' = w := by
 go_enter Try.func48, Try.ntmps48
 go_wp2
 go_ret
 exact ⟨by simp, rfl⟩
set_option maxHeartbeats 1000000 in
theorem Compare_w (x y : Int) (w : World) : Calls Try.prog 41 #[.int .i64 x, .int .i64 y] w fun e w' => e = .returned (.int .i64 (cmp1 x y)) ∧ w' = w := by
 have H1 := hid (isNaN_w x w)
 have H2 := hid (isNaN_w y w)
 obtain ⟨k, hk⟩ : ∃ k, cmp1 x y = k := ⟨_, rfl⟩
 rw [hk]
 replace hk := hid hk
 go_enter Try.func41, Try.ntmps41
 go_wp2_with fail
 refine H1.out.mono ?_
 rintro e w1 ⟨rfl, rfl⟩
 go_wp2_with fail
 refine H2.out.mono ?_
 rintro e w2 ⟨rfl, rfl⟩
 clear H1 H2
 by_cases h1 : x < y
 ·obtain rfl : -1 = k := by rw [← hk.out]; unfold cmp1; rw [if_pos h1]
  clear hk
  go_wp2
  go_ret
  exact ⟨rfl, rfl⟩
 ·by_cases h2 : y < x
  ·obtain rfl : 1 = k := by rw [← hk.out]; unfold cmp1; rw [if_neg h1, if_pos h2]
   clear hk
   go_wp2
   go_ret
   exact ⟨rfl, rfl⟩
  ·obtain rfl : 0 = k := by rw [← hk.out]; unfold cmp1; rw [if_neg h1, if_neg h2]
   clear hk
   go_wp2
   go_ret
   exact ⟨rfl, rfl⟩
def or3 (x y z : Int) : Int := if x = 0 then (if y = 0 then z else y) else x
set_option maxHeartbeats 2000000 in
theorem Or_w (x y z : Int) (g c : Nat) {w : World} (h0 : w.cell? ⟨g, 0, none⟩ = some (.int .i64 x)) (h1 : w.cell? ⟨g, 1, none⟩ = some (.int .i64 y)) (h2 : w.cell? ⟨g, 2, none⟩ = some (.int .i64 z)) : Calls Try.prog 44 #[.slice (some ⟨g, 0, none⟩) 3 c] w fun e w' => e = .returned (.int .i64 (or3 x y z)) ∧ w' = w := by
 obtain ⟨k, hk⟩ : ∃ k, or3 x y z = k := ⟨_, rfl⟩
 rw [hk]
 replace hk := hid hk
 go_enter Try.func44, Try.ntmps44
 by_cases hx : x = 0
 ·subst hx
  by_cases hy : y = 0
  ·subst hy
   by_cases hz : z = 0
   ·subst hz
    obtain rfl : 0 = k := by rw [← hk.out]; rfl
    clear hk
    go_wp2
    refine wp_loop_rounds 4 ?_
    rw [rounds_succ]
    go_wp2
    rw [rounds_succ]
    go_wp2
    rw [rounds_succ]
    go_wp2
    rw [rounds_succ]
    go_wp2
    go_ret
    exact ⟨rfl, rfl⟩
   ·obtain rfl : z = k := by rw [← hk.out]; rfl
    clear hk
    go_wp2
    refine wp_loop_rounds 4 ?_
    rw [rounds_succ]
    go_wp2
    rw [rounds_succ]
    go_wp2
    rw [rounds_succ]
    go_wp2
    go_ret
    exact ⟨rfl, rfl⟩
  ·obtain rfl : y = k := by rw [← hk.out]; unfold or3; rw [if_pos rfl, if_neg hy]
   clear hk
   go_wp2
   refine wp_loop_rounds 4 ?_
   rw [rounds_succ]
   go_wp2
   rw [rounds_succ]
   go_wp2
   go_ret
   exact ⟨rfl, rfl⟩
 ·obtain rfl : x = k := by rw [← hk.out]; unfold or3; rw [if_neg hx]
  clear hk
  go_wp2
  refine wp_loop_rounds 4 ?_
  rw [rounds_succ]
  go_wp2
  go_ret
  exact ⟨rfl, rfl⟩
set_option maxHeartbeats 2000000 in
theorem num1_w (b o n c gb x y : Nat) (X Y : Int) (hx : x < n) (hy : y < n) (hc : c ≤ 9223372036854775807) (hnc : n ≤ c) {V : World} (hb : V.cell? ⟨gb, 0, none⟩ = some (.slice (some ⟨b, o, none⟩) n c))
  (h0 : V.cell? ⟨b, o + x * 4, none⟩ = some (.int .i64 X)) (h1 : V.cell? ⟨b, o + y * 4, none⟩ = some (.int .i64 Y)) :
  Calls Try.prog 40 #[.int .i64 (x : Int), .int .i64 (y : Int), .pointer (some ⟨gb, 0, none⟩)] V fun e w' => e = .returned (.int .i64 (cmp1 X Y)) ∧ ∃ q os', w' = Go.Sort.grow (V.drewN q) os' := by
 have H1 := hid fun (W : World) => Compare_w X Y W
 generalize cmp1 X Y = r at *
 have hxx : (x : Int) < (n : Int) := by omega
 have hyy : (y : Int) < (n : Int) := by omega
 go_enter Try.func40, Try.ntmps40
 go_upto_region 1 with fail
 go_region_held3 (fun w' => w'.cell? ⟨gb, 0, none⟩ = some (.slice (some ⟨b, o, none⟩) n c) ∧ w'.cell? ⟨b, o + x * 4, none⟩ = some (.int .i64 X) ∧ w'.cell? ⟨b, o + y * 4, none⟩ = some (.int .i64 Y)) (first | ((try dsimp only); repeat' (first | with_reducible assumption | apply And.intro | (with_reducible refine keep_alloc ?_) | (with_reducible refine keep_drew ?_) | (with_reducible refine keep_set (by omega) ?_) | (with_reducible refine keep_sets (by omega) ?_) | (with_reducible refine keep_cell (W := V) ?_ ?_) | fail))) ((go_at_call 41; (with_reducible refine (H1.out _).mono ?_); rintro e y1 ⟨rfl, rfl⟩))
 all_goals
  go_wp2
  go_ret
  exact ⟨rfl, 1, #[], by rw [Go.Sort.grow_empty]; rfl⟩
set_option maxRecDepth 100000 in
set_option maxHeartbeats 4000000 in
theorem dwn1_w (b o n c gb x y : Nat) (X Y X' Y' : Int) (hx : x < n) (hy : y < n) (hc : c ≤ 9223372036854775807) (hnc : n ≤ c) {V : World} (hb : V.cell? ⟨gb, 0, none⟩ = some (.slice (some ⟨b, o, none⟩) n c))
  (h0 : V.cell? ⟨b, o + x * 4, none⟩ = some (.int .i64 X)) (h1 : V.cell? ⟨b, o + x * 4 + 1, none⟩ = some (.int .i64 Y)) (f0 : V.cell? ⟨b, o + y * 4, none⟩ = some (.int .i64 X')) (f1 : V.cell? ⟨b, o + y * 4 + 1, none⟩ = some (.int .i64 Y')) :
  Calls Try.prog 43 #[.int .i64 (x : Int), .int .i64 (y : Int), .pointer (some ⟨gb, 0, none⟩)] V fun e w' => e = .returned (.int .i64 (or3 (cmp1 Y Y') (cmp1 X X') (cmp1 x y))) ∧ ∃ q os', w' = Go.Sort.grow (V.drewN q) os' := by
 have H1 := hid fun (W : World) => Compare_w Y Y' W
 have H2 := hid fun (W : World) => Compare_w X X' W
 have H3 := hid fun (W : World) => Compare_w x y W
 obtain ⟨r0, hr0⟩ : ∃ r, cmp1 Y Y' = r := ⟨_, rfl⟩
 obtain ⟨r1, hr1⟩ : ∃ r, cmp1 X X' = r := ⟨_, rfl⟩
 obtain ⟨r2, hr2⟩ : ∃ r, cmp1 (x : Int) (y : Int) = r := ⟨_, rfl⟩
 rw [hr0, hr1, hr2]
 rw [hr0] at H1
 rw [hr1] at H2
 rw [hr2] at H3
 have H4 := hid fun (g c : Nat) (V : World) (h0 : V.cell? ⟨g, 0, none⟩ = some (.int .i64 r0)) (h1 : V.cell? ⟨g, 1, none⟩ = some (.int .i64 r1)) (h2 : V.cell? ⟨g, 2, none⟩ = some (.int .i64 r2)) => Or_w r0 r1 r2 g c h0 h1 h2
 generalize or3 r0 r1 r2 = r at *
 have hxx : (x : Int) < (n : Int) := by omega
 have hyy : (y : Int) < (n : Int) := by omega
 clear hr0 hr1 hr2
 go_enter Try.func43, Try.ntmps43
 go_upto_region 1 with fail
 go_region_held3 (fun w' => w'.cell? ⟨gb, 0, none⟩ = some (.slice (some ⟨b, o, none⟩) n c) ∧ (w'.cell? ⟨b, o + x * 4, none⟩ = some (.int .i64 X) ∧ w'.cell? ⟨b, o + x * 4 + 1, none⟩ = some (.int .i64 Y)) ∧ (w'.cell? ⟨b, o + y * 4, none⟩ = some (.int .i64 X') ∧ w'.cell? ⟨b, o + y * 4 + 1, none⟩ = some (.int .i64 Y'))) (first | ((try dsimp only); repeat' (first | with_reducible assumption | apply And.intro | (with_reducible refine keep_alloc ?_) | (with_reducible refine keep_drew ?_) | (with_reducible refine keep_set (by omega) ?_) | (with_reducible refine keep_sets (by omega) ?_) | (with_reducible refine keep_cell (W := V) ?_ ?_) | fail))) (first | (go_at_call 41; (first | (with_reducible refine (H1.out _).mono ?_) | (with_reducible refine (H2.out _).mono ?_) | (with_reducible refine (H3.out _).mono ?_)); rintro e y1 ⟨rfl, rfl⟩) | (go_at_call 44; refine (H4.out _ _ _ ?_ ?_ ?_).mono ?_; exact keep_drew (rng_alloc (w := V) (cs := [.int .i64 r0, .int .i64 r1, .int .i64 r2]) (t := 3) 0 _ rfl); exact keep_drew (rng_alloc (w := V) (cs := [.int .i64 r0, .int .i64 r1, .int .i64 r2]) (t := 3) 1 _ rfl); exact keep_drew (rng_alloc (w := V) (cs := [.int .i64 r0, .int .i64 r1, .int .i64 r2]) (t := 3) 2 _ rfl); rintro e y3 ⟨rfl, rfl⟩))
 all_goals
  go_wp2
  go_ret
  exact ⟨rfl, 1, _, by rw [Go.Sort.alloc_eq_grow, Go.Sort.drew_grow]; rfl⟩
end Go.Proofs.Ytjdgjhaggpahkaa
