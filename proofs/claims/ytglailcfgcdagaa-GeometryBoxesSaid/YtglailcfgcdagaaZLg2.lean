/- Geometry: the laws Boxes and Covers. Conditions: none. -/
import Derived.Test.YtglailcfgcdagaaZGa1
import Derived.Test.YtglailcfgcdagaaZGI
set_option linter.unusedVariables false
set_option linter.unusedSimpArgs false
namespace Go.Proofs.Ytglailcfgcdagaa
open Go.RowKit Big
set_option maxRecDepth 100000 in
set_option maxHeartbeats 4000000 in
theorem Boxes_law (a b : Bx) (w : World) : Calls Try.prog 7 #[.agg #[.int .i64 a.x, .int .i64 a.y, .int .i64 a.w, .int .i64 a.h], .agg #[.int .i64 b.x, .int .i64 b.y, .int .i64 b.w, .int .i64 b.h]] w (RetB w true) := by
 obtain ⟨⟨⟨o0, o1, o2, o3⟩, is⟩, hO⟩ : ∃ E, ovlE a b = E := ⟨_, rfl⟩
 obtain ⟨⟨u0, u1, u2, u3⟩, hU⟩ : ∃ E, uniE a b = E := ⟨_, rfl⟩
 have H0 := hid fun (W : World) => alive_ok W
 have H1 := hid fun (W : World) => (show Calls Try.prog 26 #[.agg #[.int .i64 a.x, .int .i64 a.y, .int .i64 a.w, .int .i64 a.h], .agg #[.int .i64 b.x, .int .i64 b.y, .int .i64 b.w, .int .i64 b.h]] W (RetXB W (⟨o0, o1, o2, o3⟩, is)) from by rw [← hO]; exact GOverlap_g a b W)
 have H2 := hid fun (W : World) => (show Calls Try.prog 27 #[.agg #[.int .i64 a.x, .int .i64 a.y, .int .i64 a.w, .int .i64 a.h], .agg #[.int .i64 b.x, .int .i64 b.y, .int .i64 b.w, .int .i64 b.h]] W (RetXB W (⟨o0, o1, o2, o3⟩, is)) from by rw [← hO]; exact ROverlap_g a b W)
 have H3 := hid fun (W : World) => (show Calls Try.prog 28 #[.agg #[.int .i64 a.x, .int .i64 a.y, .int .i64 a.w, .int .i64 a.h], .agg #[.int .i64 b.x, .int .i64 b.y, .int .i64 b.w, .int .i64 b.h]] W (RetX W ⟨u0, u1, u2, u3⟩) from by rw [← hU]; exact GUnion_g a b W)
 have H4 := hid fun (W : World) => (show Calls Try.prog 29 #[.agg #[.int .i64 a.x, .int .i64 a.y, .int .i64 a.w, .int .i64 a.h], .agg #[.int .i64 b.x, .int .i64 b.y, .int .i64 b.w, .int .i64 b.h]] W (RetX W ⟨u0, u1, u2, u3⟩) from by rw [← hU]; exact RUnion_g a b W)
 clear hO hU
 obtain ⟨ax, ay, aw, ah⟩ := a
 obtain ⟨bx, by_, bw, bh⟩ := b
 dsimp only at H1 H2 H3 H4 ⊢
 go_enter Try.func7, Try.ntmps7
 go_upto_region 1 with fail
 refine enterR2 (P := fun u => Code.wp _ _ _ _ u) (c0 := [.int .i64 ax, .int .i64 ay, .int .i64 aw, .int .i64 ah]) (c1 := [.int .i64 bx, .int .i64 by_, .int .i64 bw, .int .i64 bh]) ?_
 intro u HB r0 r1 zn0 zn1 hsz
 have ca0 : (u).cell? ⟨w.heap.size, 0, none⟩ = some (.int .i64 (⟨ax, ay, aw, ah⟩ : Bx).x) := r0 0 _ rfl
 have ca1 : (u).cell? ⟨w.heap.size, 1, none⟩ = some (.int .i64 (⟨ax, ay, aw, ah⟩ : Bx).y) := r0 1 _ rfl
 have ca2 : (u).cell? ⟨w.heap.size, 2, none⟩ = some (.int .i64 (⟨ax, ay, aw, ah⟩ : Bx).w) := r0 2 _ rfl
 have ca3 : (u).cell? ⟨w.heap.size, 3, none⟩ = some (.int .i64 (⟨ax, ay, aw, ah⟩ : Bx).h) := r0 3 _ rfl
 have cb0 : (u).cell? ⟨w.heap.size + 1, 0, none⟩ = some (.int .i64 (⟨bx, by_, bw, bh⟩ : Bx).x) := r1 0 _ rfl
 have cb1 : (u).cell? ⟨w.heap.size + 1, 1, none⟩ = some (.int .i64 (⟨bx, by_, bw, bh⟩ : Bx).y) := r1 1 _ rfl
 have cb2 : (u).cell? ⟨w.heap.size + 1, 2, none⟩ = some (.int .i64 (⟨bx, by_, bw, bh⟩ : Bx).w) := r1 2 _ rfl
 have cb3 : (u).cell? ⟨w.heap.size + 1, 3, none⟩ = some (.int .i64 (⟨bx, by_, bw, bh⟩ : Bx).h) := r1 3 _ rfl
 dsimp only at ca0 ca1 ca2 ca3 cb0 cb1 cb2 cb3
 clear r0 r1 zn0 zn1 hsz
 go_wp2_with fail
 refine (H1.out _).mono ?_
 rintro e w1 ⟨rfl, hv⟩
 dsimp only
 replace HB := bel_step HB hv
 have ca0 := keep_cell hv ca0
 have ca1 := keep_cell hv ca1
 have ca2 := keep_cell hv ca2
 have ca3 := keep_cell hv ca3
 have cb0 := keep_cell hv cb0
 have cb1 := keep_cell hv cb1
 have cb2 := keep_cell hv cb2
 have cb3 := keep_cell hv cb3
 clear hv H1
 go_upto_region 2 with fail
 refine enterR (P := fun u => Code.wp _ _ _ _ u) (c := [.int .i64 o0, .int .i64 o1, .int .i64 o2, .int .i64 o3]) ?_
 intro v1 hv r1 zn hsz
 replace HB := bel_step HB hv
 have ca0 := keep_cell hv ca0
 have ca1 := keep_cell hv ca1
 have ca2 := keep_cell hv ca2
 have ca3 := keep_cell hv ca3
 have cb0 := keep_cell hv cb0
 have cb1 := keep_cell hv cb1
 have cb2 := keep_cell hv cb2
 have cb3 := keep_cell hv cb3
 have q0 := r1 0 _ rfl
 have q1 := r1 1 _ rfl
 have q2 := r1 2 _ rfl
 have q3 := r1 3 _ rfl
 simp only [Nat.zero_add] at q0 q1 q2 q3
 clear hv r1 zn hsz
 generalize w1.heap.size = g1 at *
 go_wp2_with fail
 refine (H2.out _).mono ?_
 rintro e w2 ⟨rfl, hv⟩
 dsimp only
 replace HB := bel_step HB hv
 have ca0 := keep_cell hv ca0
 have ca1 := keep_cell hv ca1
 have ca2 := keep_cell hv ca2
 have ca3 := keep_cell hv ca3
 have cb0 := keep_cell hv cb0
 have cb1 := keep_cell hv cb1
 have cb2 := keep_cell hv cb2
 have cb3 := keep_cell hv cb3
 have q0 := keep_cell hv q0
 have q1 := keep_cell hv q1
 have q2 := keep_cell hv q2
 have q3 := keep_cell hv q3
 clear hv H2
 go_upto_region 3 with fail
 refine enterR (P := fun u => Code.wp _ _ _ _ u) (c := [.int .i64 o0, .int .i64 o1, .int .i64 o2, .int .i64 o3]) ?_
 intro v2 hv r1 zn hsz
 replace HB := bel_step HB hv
 have ca0 := keep_cell hv ca0
 have ca1 := keep_cell hv ca1
 have ca2 := keep_cell hv ca2
 have ca3 := keep_cell hv ca3
 have cb0 := keep_cell hv cb0
 have cb1 := keep_cell hv cb1
 have cb2 := keep_cell hv cb2
 have cb3 := keep_cell hv cb3
 have q0 := keep_cell hv q0
 have q1 := keep_cell hv q1
 have q2 := keep_cell hv q2
 have q3 := keep_cell hv q3
 have s0 := r1 0 _ rfl
 have s1 := r1 1 _ rfl
 have s2 := r1 2 _ rfl
 have s3 := r1 3 _ rfl
 simp only [Nat.zero_add] at s0 s1 s2 s3
 clear hv r1 zn hsz
 generalize w2.heap.size = g2 at *
 go_wp2_with fail
 go_region_held3 (fun w' => ((w'.cell? ⟨w.heap.size, 0, none⟩ = some (.int .i64 ax) ∧ w'.cell? ⟨w.heap.size, 1, none⟩ = some (.int .i64 ay)) ∧ (w'.cell? ⟨w.heap.size, 2, none⟩ = some (.int .i64 aw) ∧ w'.cell? ⟨w.heap.size, 3, none⟩ = some (.int .i64 ah))) ∧ ((w'.cell? ⟨w.heap.size + 1, 0, none⟩ = some (.int .i64 bx) ∧ w'.cell? ⟨w.heap.size + 1, 1, none⟩ = some (.int .i64 by_)) ∧ (w'.cell? ⟨w.heap.size + 1, 2, none⟩ = some (.int .i64 bw) ∧ w'.cell? ⟨w.heap.size + 1, 3, none⟩ = some (.int .i64 bh))) ∧ ((w'.cell? ⟨g1, 0, none⟩ = some (.int .i64 o0) ∧ w'.cell? ⟨g1, 1, none⟩ = some (.int .i64 o1)) ∧ (w'.cell? ⟨g1, 2, none⟩ = some (.int .i64 o2) ∧ w'.cell? ⟨g1, 3, none⟩ = some (.int .i64 o3))) ∧ ((w'.cell? ⟨g2, 0, none⟩ = some (.int .i64 o0) ∧ w'.cell? ⟨g2, 1, none⟩ = some (.int .i64 o1)) ∧ (w'.cell? ⟨g2, 2, none⟩ = some (.int .i64 o2) ∧ w'.cell? ⟨g2, 3, none⟩ = some (.int .i64 o3)))) (first | ((try dsimp only); repeat' (first | with_reducible assumption | apply And.intro | (with_reducible refine keep_alloc ?_) | (with_reducible refine keep_drew ?_) | (with_reducible refine keep_set (by omega) ?_) | (with_reducible refine keep_sets (by omega) ?_) | (with_reducible refine keep_cell (W := v2) ?_ ?_) | fail))) (first | (go_at_call 28; (with_reducible refine (H3.out _).mono ?_); rintro e y1 ⟨rfl, hq_⟩; have qy1 : Below v2.heap.size v2 y1 := bel_step BG hq_) | (go_at_call 29; (with_reducible refine (H4.out _).mono ?_); rintro e y2 ⟨rfl, hq_⟩; have qy2 : Below v2.heap.size v2 y2 := bel_step BG hq_) | (go_at_call 16; (with_reducible refine (H0.out _).mono ?_); rintro e y3 ⟨rfl, hq_⟩; have qy3 : Below v2.heap.size v2 y3 := bel_step BG hq_))
 all_goals
  go_wp2_with fail
  go_ret
  exact ⟨rfl, bel_step HB qy3⟩
/-- does a box contain a pixel? -/
def hldZ (b : Bx) (x y : Int) : Bool := decide (b.x ≤ x) && (decide (x < b.x + b.w) && (decide (b.y ≤ y) && decide (y < b.y + b.h)))
set_option maxHeartbeats 1000000 in
theorem holds_g (b : Bx) (x y : Int) (h1 : IntKind.i64.wrap (b.x + b.w) = b.x + b.w) (h2 : IntKind.i64.wrap (b.y + b.h) = b.y + b.h) (w : World) : Calls Try.prog 31 #[.agg #[.int .i64 b.x, .int .i64 b.y, .int .i64 b.w, .int .i64 b.h], .int .i64 x, .int .i64 y] w (RetB w (hldZ b x y)) := by
 obtain ⟨bx, by_, bw, bh⟩ := b
 obtain ⟨s1, e1⟩ : ∃ s, bx + bw = s := ⟨_, rfl⟩
 obtain ⟨s2, e2⟩ : ∃ s, by_ + bh = s := ⟨_, rfl⟩
 dsimp only at h1 h2 ⊢
 rw [e1] at h1
 rw [e2] at h2
 obtain ⟨t, ht⟩ : ∃ t, hldZ ⟨bx, by_, bw, bh⟩ x y = t := ⟨_, rfl⟩
 rw [ht]
 unfold hldZ at ht
 dsimp only at ht
 rw [e1, e2] at ht
 have hT := hid fun (a1 : bx ≤ x) (a2 : x < s1) (a3 : by_ ≤ y) (a4 : y < s2) => (show t = true by rw [← ht]; simp [a1, a2, a3, a4])
 have hF := hid fun (h : ¬(bx ≤ x ∧ x < s1 ∧ by_ ≤ y ∧ y < s2)) => (show t = false by
  rw [← ht]; cases hd : (decide (bx ≤ x) && (decide (x < s1) && (decide (by_ ≤ y) && decide (y < s2))))
  ·rfl
  ·simp only [Bool.and_eq_true, decide_eq_true_eq] at hd; exact absurd hd h)
 clear ht
 go_enter Try.func31, Try.ntmps31
 go_upto_region 1 with fail
 refine enterR (P := fun u => Code.wp _ _ _ _ u) (c := [.int .i64 bx, .int .i64 by_, .int .i64 bw, .int .i64 bh]) ?_
 intro u HB r0 zn0 hsz
 have ca0 : (u).cell? ⟨w.heap.size, 0, none⟩ = some (.int .i64 (⟨bx, by_, bw, bh⟩ : Bx).x) := r0 0 _ rfl
 have ca1 : (u).cell? ⟨w.heap.size, 1, none⟩ = some (.int .i64 (⟨bx, by_, bw, bh⟩ : Bx).y) := r0 1 _ rfl
 have ca2 : (u).cell? ⟨w.heap.size, 2, none⟩ = some (.int .i64 (⟨bx, by_, bw, bh⟩ : Bx).w) := r0 2 _ rfl
 have ca3 : (u).cell? ⟨w.heap.size, 3, none⟩ = some (.int .i64 (⟨bx, by_, bw, bh⟩ : Bx).h) := r0 3 _ rfl
 dsimp only at ca0 ca1 ca2 ca3
 clear r0 zn0 hsz
 by_cases a1 : bx ≤ x
 ·by_cases a2 : x < s1
  ·by_cases a3 : by_ ≤ y
   ·by_cases a4 : y < s2
    ·obtain rfl := hT.out a1 a2 a3 a4
     clear hT hF
     go_wp2
     go_ret
     exact ⟨rfl, HB⟩
    ·obtain rfl := hF.out (fun h => a4 h.2.2.2)
     clear hT hF
     go_wp2
     go_ret
     exact ⟨rfl, HB⟩
   ·obtain rfl := hF.out (fun h => a3 h.2.2.1)
    have a3d : decide (by_ ≤ y) = false := decide_eq_false a3
    clear hT hF
    go_wp2
    go_ret
    exact ⟨rfl, HB⟩
  ·obtain rfl := hF.out (fun h => a2 h.2.1)
   have a2d : decide (x < s1) = false := decide_eq_false a2
   clear hT hF
   go_wp2
   go_ret
   exact ⟨rfl, HB⟩
 ·obtain rfl := hF.out (fun h => a1 h.1)
  have a1d : decide (bx ≤ x) = false := decide_eq_false a1
  clear hT hF
  go_wp2
  go_ret
  exact ⟨rfl, HB⟩
end Go.Proofs.Ytglailcfgcdagaa
