/- Reading order: the statement on Sort. Conditions: none. -/
import Derived.Test.YtjdgjhaggpahkaaZWD
set_option linter.unusedVariables false
set_option linter.unusedSimpArgs false
namespace Go.Proofs.Ytjdgjhaggpahkaa
open Go.RowKit Go.Deep
set_option maxRecDepth 100000 in
set_option maxHeartbeats 8000000 in
theorem Sorts_law (l : List Bx) (A : Option Addr) (c : Nat) {w : World} (hl : Qb w A c l) :
  Calls Try.prog 3 #[.slice A l.length c] w (RetB w true) := by
 obtain ⟨f, hf⟩ : ∃ f, fewB l.length = f := ⟨_, rfl⟩
 have H1 := hid fun (W : World) => (show Calls Try.prog 10 #[.slice A l.length c] W (RetB W f) from by rw [← hf]; exact Lfew_g l.length A c hl.cap hl.max W)
 obtain ⟨⟨L, k⟩, hL⟩ : ∃ L, sortE l = L := ⟨_, rfl⟩
 have HG := hid fun (W : World) (hb : Below w.heap.size w W) => (show Calls Try.prog 12 #[.slice A l.length c] W (RetOE W (L, k)) from by rw [← hL]; exact GSort_g l A c (hl.below hb))
 have HR := hid fun (W : World) (hb : Below w.heap.size w W) => (show Calls Try.prog 13 #[.slice A l.length c] W (RetOE W (L, k)) from by rw [← hL]; exact RSort_g l A c (hl.below hb))
 have HB := Below.refl w.heap.size w
 have hM := hid fun (j : Nat) (hj : j < l.length) (W : World) (hb : Below w.heap.size w W) => (hl.below hb).at_ (k := j) hj
 obtain ⟨n, hn⟩ : ∃ n, l.length = n := ⟨_, rfl⟩
 have hcap := hl.cap
 have hmax := hl.max
 rw [hn] at H1 HG HR hcap ⊢
 have hn2 := hid hn
 clear hL hf hl hn
 go_enter Try.func3, Try.ntmps3
 go_wp2_with fail
 refine (H1.out _).mono ?_
 rintro e w1 ⟨rfl, hb⟩
 replace HB := bel_step HB hb
 clear hb H1
 cases f
 ·clear HG HR hM
  go_wp2_with fail
  refine (examples_ok _).mono ?_
  rintro e w2 ⟨rfl, hb⟩
  replace HB := bel_step HB hb
  clear hb
  go_wp2
  go_ret
  exact ⟨rfl, HB⟩
 ·go_wp2_with fail
  refine (HG.out _ HB).mono ?_
  rintro e w2 ⟨v1, rfl, z1, hb⟩
  replace HB := bel_step HB hb
  clear hb HG
  go_wp2_with fail
  refine (HR.out _ HB).mono ?_
  rintro e w3 ⟨v2, rfl, z2, hb⟩
  replace HB := bel_step HB hb
  replace z1 := z1.below hb
  clear hb HR
  obtain ⟨A1, c1, rfl, -, -⟩ := z1.form
  obtain ⟨A2, c2, rfl, -, -⟩ := z2.form
  have HW := Below.refl w3.heap.size w3
  have HZ := hid fun (W : World) (hb : Below w3.heap.size w3 W) => ints_same L _ _ (z1.below hb) (z2.below hb)
  clear z1 z2
  generalize L.length = m at *
  go_wp2_with fail
  go_loopw [24] (fun s24 wr => ∃ j : Nat, s24 = .int .i64 j ∧ j ≤ n ∧ Below w.heap.size w wr ∧ Below w3.heap.size w3 wr) (fun s24 _ => n - (intOf s24).toNat)
  case atStart => exact ⟨0, rfl, by omega, HB, HW⟩
  case round =>
   clear HB HW
   obtain ⟨j, rfl, hj, HB, HW⟩ := hrel
   by_cases hjn : j < n
   ·have hjj : (j : Int) < (n : Int) := by omega
    by_cases h60 : 60 < j
    ·have h60' : (60 : Int) < (j : Int) := by omega
     clear hM
     go_wp2_with fail
     refine (HZ.out _ HW).mono ?_
     rintro e w7 ⟨rfl, hb⟩
     replace HB := bel_step HB hb
     clear hb HZ HW
     go_wp2_with fail
     refine (examples_ok _).mono ?_
     rintro e w8 ⟨rfl, hb⟩
     replace HB := bel_step HB hb
     clear hb
     go_wp2
     go_ret
     exact ⟨rfl, HB⟩
    ·have h60' : ¬ (60 : Int) < (j : Int) := by omega
     have hz0 : (0 : Int) < (n : Int) := by omega
     have hz1 : 0 < n := by omega
     clear HZ
     obtain ⟨b, o, hA1, e0, e1, e2, e3⟩ := hM.out j (by have := hn2.out; omega) wr HB
     subst hA1
     obtain ⟨b2, o2, hA2, f0, f1, f2, f3⟩ := hM.out 0 (by have := hn2.out; omega) wr HB
     cases hA2
     obtain ⟨q1, hq1⟩ : ∃ q, l[j]'(by have := hn2.out; omega) = q := ⟨_, rfl⟩
     obtain ⟨q2, hq2⟩ : ∃ q, l[0]'(by have := hn2.out; omega) = q := ⟨_, rfl⟩
     rw [hq1] at e0 e1 e2 e3
     rw [hq2] at f0 f1 f2 f3
     simp only [Nat.zero_mul, Nat.add_zero] at f0 f1 f2 f3
     obtain ⟨s, hs⟩ : ∃ s, befB q1 q2 = s := ⟨_, rfl⟩
     obtain ⟨t, ht⟩ : ∃ s, befB q2 q1 = s := ⟨_, rfl⟩
     have B1 := hid fun (W : World) => (show Calls Try.prog 14 #[.agg #[.int .i64 q1.x, .int .i64 q1.y, .int .i64 q1.w, .int .i64 q1.h], .agg #[.int .i64 q2.x, .int .i64 q2.y, .int .i64 q2.w, .int .i64 q2.h]] W (RetB W s) from by rw [← hs]; exact GBefore_g q1 q2 W)
     have B2 := hid fun (W : World) => (show Calls Try.prog 15 #[.agg #[.int .i64 q1.x, .int .i64 q1.y, .int .i64 q1.w, .int .i64 q1.h], .agg #[.int .i64 q2.x, .int .i64 q2.y, .int .i64 q2.w, .int .i64 q2.h]] W (RetB W s) from by rw [← hs]; exact RBefore_g q1 q2 W)
     have B3 := hid fun (W : World) => (show Calls Try.prog 14 #[.agg #[.int .i64 q2.x, .int .i64 q2.y, .int .i64 q2.w, .int .i64 q2.h], .agg #[.int .i64 q1.x, .int .i64 q1.y, .int .i64 q1.w, .int .i64 q1.h]] W (RetB W t) from by rw [← ht]; exact GBefore_g q2 q1 W)
     have B4 := hid fun (W : World) => (show Calls Try.prog 15 #[.agg #[.int .i64 q2.x, .int .i64 q2.y, .int .i64 q2.w, .int .i64 q2.h], .agg #[.int .i64 q1.x, .int .i64 q1.y, .int .i64 q1.w, .int .i64 q1.h]] W (RetB W t) from by rw [← ht]; exact RBefore_g q2 q1 W)
     clear hq1 hq2 hs ht hM hn2
     obtain ⟨x, y, bw, bh⟩ := q1
     obtain ⟨x2, y2, bw2, bh2⟩ := q2
     dsimp only at e0 e1 e2 e3 f0 f1 f2 f3 B1 B2 B3 B4
     go_upto_region 9 with fail
     cases s <;> cases t
     all_goals
      go_region_held3 (fun w' => ((w'.cell? ⟨b, o + j * 4, none⟩ = some (.int .i64 x) ∧ w'.cell? ⟨b, o + j * 4 + 1, none⟩ = some (.int .i64 y)) ∧ (w'.cell? ⟨b, o + j * 4 + 2, none⟩ = some (.int .i64 bw) ∧ w'.cell? ⟨b, o + j * 4 + 3, none⟩ = some (.int .i64 bh))) ∧ ((w'.cell? ⟨b, o, none⟩ = some (.int .i64 x2) ∧ w'.cell? ⟨b, o + 1, none⟩ = some (.int .i64 y2)) ∧ (w'.cell? ⟨b, o + 2, none⟩ = some (.int .i64 bw2) ∧ w'.cell? ⟨b, o + 3, none⟩ = some (.int .i64 bh2)))) (first | ((try dsimp only); repeat' (first | with_reducible assumption | apply And.intro | (with_reducible refine keep_alloc ?_) | (with_reducible refine keep_drew ?_) | (with_reducible refine keep_set (by omega) ?_) | (with_reducible refine keep_sets (by omega) ?_) | (with_reducible refine keep_cell (W := wr) ?_ ?_) | fail))) (first | (go_at_call 14; (with_reducible refine (B1.out _).mono ?_); rintro e v1 ⟨rfl, hq_⟩; have qv1 : Below wr.heap.size wr v1 := bel_step BG hq_) | (go_at_call 15; (with_reducible refine (B2.out _).mono ?_); rintro e v2 ⟨rfl, hq_⟩; have qv2 : Below wr.heap.size wr v2 := bel_step BG hq_) | (go_at_call 14; (with_reducible refine (B3.out _).mono ?_); rintro e v3 ⟨rfl, hq_⟩; have qv3 : Below wr.heap.size wr v3 := bel_step BG hq_) | (go_at_call 15; (with_reducible refine (B4.out _).mono ?_); rintro e v4 ⟨rfl, hq_⟩; have qv4 : Below wr.heap.size wr v4 := bel_step BG hq_))
      all_goals
       replace HB := bel_step HB qv4
       replace HW := bel_step HW qv4
       clear qv1 qv2 qv3 qv4 e0 e1 e2 e3 f0 f1 f2 f3 B1 B2 B3 B4
       go_wp2
       go_roundw
       case rel => exact ⟨j + 1, by go_num, by omega, HB, HW⟩
       case measure => simp [intOf]; omega
   ·obtain rfl : j = n := by omega
    have hjj : ¬ (j : Int) < (j : Int) := by omega
    clear hM
    go_wp2_with fail
    refine (HZ.out _ HW).mono ?_
    rintro e w7 ⟨rfl, hb⟩
    replace HB := bel_step HB hb
    clear hb HZ HW
    go_wp2_with fail
    refine (examples_ok _).mono ?_
    rintro e w8 ⟨rfl, hb⟩
    replace HB := bel_step HB hb
    clear hb
    go_wp2
    go_ret
    exact ⟨rfl, HB⟩
end Go.Proofs.Ytjdgjhaggpahkaa
