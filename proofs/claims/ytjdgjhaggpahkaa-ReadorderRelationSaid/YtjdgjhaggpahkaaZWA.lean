/- Reading order: valid boxes, and which of two comes before. Conditions: none. -/
import Derived.Test.YtjdgjhaggpahkaaZRd0
import Derived.Test.YtjdgjhaggpahkaaZNr1
set_option linter.unusedVariables false
set_option linter.unusedSimpArgs false
namespace Go.Proofs.Ytjdgjhaggpahkaa
open Go.RowKit
theorem okB_iff {b : Bx} : okB b = true ↔ (-4096 ≤ b.x ∧ b.x ≤ 4096 ∧ -4096 ≤ b.y ∧ b.y ≤ 4096 ∧ 1 ≤ b.w ∧ b.w ≤ 4096 ∧ 1 ≤ b.h ∧ b.h ≤ 4096) := by unfold okB; simp
set_option maxHeartbeats 2000000 in
theorem Gvalid_g (b : Bx) (w : World) : Calls Try.prog 29 #[.agg #[.int .i64 b.x, .int .i64 b.y, .int .i64 b.w, .int .i64 b.h]] w (RetB w (okB b)) := by
 obtain ⟨t, ht⟩ : ∃ t, okB b = t := ⟨_, rfl⟩
 have h1 := hid fun (h : -4096 ≤ b.x ∧ b.x ≤ 4096 ∧ -4096 ≤ b.y ∧ b.y ≤ 4096 ∧ 1 ≤ b.w ∧ b.w ≤ 4096 ∧ 1 ≤ b.h ∧ b.h ≤ 4096) => (show t = true by rw [← ht]; exact okB_iff.2 h)
 have h0 := hid fun (h : ¬ (-4096 ≤ b.x ∧ b.x ≤ 4096 ∧ -4096 ≤ b.y ∧ b.y ≤ 4096 ∧ 1 ≤ b.w ∧ b.w ≤ 4096 ∧ 1 ≤ b.h ∧ b.h ≤ 4096)) => (show t = false by rw [← ht]; exact Bool.eq_false_iff.2 (fun e => h (okB_iff.1 e)))
 rw [ht]
 clear ht
 go_enter Try.func29, Try.ntmps29
 go_upto_region 1 with fail
 refine enterR (P := fun u => Code.wp _ _ _ _ u) (c := [.int .i64 b.x, .int .i64 b.y, .int .i64 b.w, .int .i64 b.h]) ?_
 intro u HB r0 zn0 hsz
 clear hsz zn0
 have c0 : (u).cell? ⟨w.heap.size, 0, none⟩ = some (.int .i64 b.x) := r0 0 _ rfl
 have c1 : (u).cell? ⟨w.heap.size, 1, none⟩ = some (.int .i64 b.y) := r0 1 _ rfl
 have c2 : (u).cell? ⟨w.heap.size, 2, none⟩ = some (.int .i64 b.w) := r0 2 _ rfl
 have c3 : (u).cell? ⟨w.heap.size, 3, none⟩ = some (.int .i64 b.h) := r0 3 _ rfl
 clear r0
 obtain ⟨x, y, bw, bh⟩ := b
 dsimp only at *
 by_cases g1 : -4096 ≤ x
 ·by_cases g2 : x ≤ 4096
  ·by_cases g3 : -4096 ≤ y
   ·by_cases g4 : y ≤ 4096
    ·by_cases g5 : 1 ≤ bw
     ·by_cases g6 : bw ≤ 4096
      ·by_cases g7 : 1 ≤ bh
       ·by_cases g8 : bh ≤ 4096
        ·obtain rfl := h1.out ⟨g1, g2, g3, g4, g5, g6, g7, g8⟩
         clear h0
         clear h1
         go_wp2
         go_ret
         exact ⟨rfl, HB⟩
        ·obtain rfl := h0.out (by omega)
         clear h0
         clear h1
         go_wp2
         go_ret
         exact ⟨rfl, HB⟩
       ·obtain rfl := h0.out (by omega)
        clear h0
        clear h1
        go_wp2
        go_ret
        exact ⟨rfl, HB⟩
      ·obtain rfl := h0.out (by omega)
       clear h0
       clear h1
       go_wp2
       go_ret
       exact ⟨rfl, HB⟩
     ·obtain rfl := h0.out (by omega)
      clear h0
      clear h1
      go_wp2
      go_ret
      exact ⟨rfl, HB⟩
    ·obtain rfl := h0.out (by omega)
     clear h0
     clear h1
     go_wp2
     go_ret
     exact ⟨rfl, HB⟩
   ·obtain rfl := h0.out (by omega)
    clear h0
    clear h1
    go_wp2
    go_ret
    exact ⟨rfl, HB⟩
  ·obtain rfl := h0.out (by omega)
   clear h0
   clear h1
   go_wp2
   go_ret
   exact ⟨rfl, HB⟩
 ·obtain rfl := h0.out (by omega)
  clear h0
  clear h1
  go_wp2
  go_ret
  exact ⟨rfl, HB⟩
set_option maxHeartbeats 2000000 in
theorem Rvalid_g (b : Bx) (w : World) : Calls Try.prog 30 #[.agg #[.int .i64 b.x, .int .i64 b.y, .int .i64 b.w, .int .i64 b.h]] w (RetB w (okB b)) := by
 obtain ⟨t, ht⟩ : ∃ t, okB b = t := ⟨_, rfl⟩
 have h1 := hid fun (h : -4096 ≤ b.x ∧ b.x ≤ 4096 ∧ -4096 ≤ b.y ∧ b.y ≤ 4096 ∧ 1 ≤ b.w ∧ b.w ≤ 4096 ∧ 1 ≤ b.h ∧ b.h ≤ 4096) => (show t = true by rw [← ht]; exact okB_iff.2 h)
 have h0 := hid fun (h : ¬ (-4096 ≤ b.x ∧ b.x ≤ 4096 ∧ -4096 ≤ b.y ∧ b.y ≤ 4096 ∧ 1 ≤ b.w ∧ b.w ≤ 4096 ∧ 1 ≤ b.h ∧ b.h ≤ 4096)) => (show t = false by rw [← ht]; exact Bool.eq_false_iff.2 (fun e => h (okB_iff.1 e)))
 rw [ht]
 clear ht
 go_enter Try.func30, Try.ntmps30
 go_upto_region 1 with fail
 refine enterR (P := fun u => Code.wp _ _ _ _ u) (c := [.int .i64 b.x, .int .i64 b.y, .int .i64 b.w, .int .i64 b.h]) ?_
 intro u HB r0 zn0 hsz
 clear hsz zn0
 have c0 : (u).cell? ⟨w.heap.size, 0, none⟩ = some (.int .i64 b.x) := r0 0 _ rfl
 have c1 : (u).cell? ⟨w.heap.size, 1, none⟩ = some (.int .i64 b.y) := r0 1 _ rfl
 have c2 : (u).cell? ⟨w.heap.size, 2, none⟩ = some (.int .i64 b.w) := r0 2 _ rfl
 have c3 : (u).cell? ⟨w.heap.size, 3, none⟩ = some (.int .i64 b.h) := r0 3 _ rfl
 clear r0
 obtain ⟨x, y, bw, bh⟩ := b
 dsimp only at *
 by_cases g1 : -4096 ≤ x
 ·by_cases g2 : x ≤ 4096
  ·by_cases g3 : -4096 ≤ y
   ·by_cases g4 : y ≤ 4096
    ·by_cases g5 : 1 ≤ bw
     ·by_cases g6 : bw ≤ 4096
      ·by_cases g7 : 1 ≤ bh
       ·by_cases g8 : bh ≤ 4096
        ·obtain rfl := h1.out ⟨g1, g2, g3, g4, g5, g6, g7, g8⟩
         clear h0
         clear h1
         go_wp2
         go_ret
         exact ⟨rfl, HB⟩
        ·obtain rfl := h0.out (by omega)
         clear h0
         clear h1
         go_wp2
         go_ret
         exact ⟨rfl, HB⟩
       ·obtain rfl := h0.out (by omega)
        clear h0
        clear h1
        go_wp2
        go_ret
        exact ⟨rfl, HB⟩
      ·obtain rfl := h0.out (by omega)
       clear h0
       clear h1
       go_wp2
       go_ret
       exact ⟨rfl, HB⟩
     ·obtain rfl := h0.out (by omega)
      clear h0
      clear h1
      go_wp2
      go_ret
      exact ⟨rfl, HB⟩
    ·obtain rfl := h0.out (by omega)
     clear h0
     clear h1
     go_wp2
     go_ret
     exact ⟨rfl, HB⟩
   ·obtain rfl := h0.out (by omega)
    clear h0
    clear h1
    go_wp2
    go_ret
    exact ⟨rfl, HB⟩
  ·obtain rfl := h0.out (by omega)
   clear h0
   clear h1
   go_wp2
   go_ret
   exact ⟨rfl, HB⟩
 ·obtain rfl := h0.out (by omega)
  clear h0
  clear h1
  go_wp2
  go_ret
  exact ⟨rfl, HB⟩
set_option maxHeartbeats 2000000 in
theorem Lvalid_g (b : Bx) (w : World) : Calls Try.prog 25 #[.agg #[.int .i64 b.x, .int .i64 b.y, .int .i64 b.w, .int .i64 b.h]] w (RetB w (okB b)) := by
 obtain ⟨t, ht⟩ : ∃ t, okB b = t := ⟨_, rfl⟩
 have h1 := hid fun (h : -4096 ≤ b.x ∧ b.x ≤ 4096 ∧ -4096 ≤ b.y ∧ b.y ≤ 4096 ∧ 1 ≤ b.w ∧ b.w ≤ 4096 ∧ 1 ≤ b.h ∧ b.h ≤ 4096) => (show t = true by rw [← ht]; exact okB_iff.2 h)
 have h0 := hid fun (h : ¬ (-4096 ≤ b.x ∧ b.x ≤ 4096 ∧ -4096 ≤ b.y ∧ b.y ≤ 4096 ∧ 1 ≤ b.w ∧ b.w ≤ 4096 ∧ 1 ≤ b.h ∧ b.h ≤ 4096)) => (show t = false by rw [← ht]; exact Bool.eq_false_iff.2 (fun e => h (okB_iff.1 e)))
 rw [ht]
 clear ht
 go_enter Try.func25, Try.ntmps25
 go_upto_region 1 with fail
 refine enterR (P := fun u => Code.wp _ _ _ _ u) (c := [.int .i64 b.x, .int .i64 b.y, .int .i64 b.w, .int .i64 b.h]) ?_
 intro u HB r0 zn0 hsz
 clear hsz zn0
 have c0 : (u).cell? ⟨w.heap.size, 0, none⟩ = some (.int .i64 b.x) := r0 0 _ rfl
 have c1 : (u).cell? ⟨w.heap.size, 1, none⟩ = some (.int .i64 b.y) := r0 1 _ rfl
 have c2 : (u).cell? ⟨w.heap.size, 2, none⟩ = some (.int .i64 b.w) := r0 2 _ rfl
 have c3 : (u).cell? ⟨w.heap.size, 3, none⟩ = some (.int .i64 b.h) := r0 3 _ rfl
 clear r0
 obtain ⟨x, y, bw, bh⟩ := b
 dsimp only at *
 by_cases g1 : -4096 ≤ x
 ·by_cases g2 : x ≤ 4096
  ·by_cases g3 : -4096 ≤ y
   ·by_cases g4 : y ≤ 4096
    ·by_cases g5 : 1 ≤ bw
     ·by_cases g6 : bw ≤ 4096
      ·by_cases g7 : 1 ≤ bh
       ·by_cases g8 : bh ≤ 4096
        ·obtain rfl := h1.out ⟨g1, g2, g3, g4, g5, g6, g7, g8⟩
         clear h0
         clear h1
         go_wp2
         go_ret
         exact ⟨rfl, HB⟩
        ·obtain rfl := h0.out (by omega)
         clear h0
         clear h1
         go_wp2
         go_ret
         exact ⟨rfl, HB⟩
       ·obtain rfl := h0.out (by omega)
        clear h0
        clear h1
        go_wp2
        go_ret
        exact ⟨rfl, HB⟩
      ·obtain rfl := h0.out (by omega)
       clear h0
       clear h1
       go_wp2
       go_ret
       exact ⟨rfl, HB⟩
     ·obtain rfl := h0.out (by omega)
      clear h0
      clear h1
      go_wp2
      go_ret
      exact ⟨rfl, HB⟩
    ·obtain rfl := h0.out (by omega)
     clear h0
     clear h1
     go_wp2
     go_ret
     exact ⟨rfl, HB⟩
   ·obtain rfl := h0.out (by omega)
    clear h0
    clear h1
    go_wp2
    go_ret
    exact ⟨rfl, HB⟩
  ·obtain rfl := h0.out (by omega)
   clear h0
   clear h1
   go_wp2
   go_ret
   exact ⟨rfl, HB⟩
 ·obtain rfl := h0.out (by omega)
  clear h0
  clear h1
  go_wp2
  go_ret
  exact ⟨rfl, HB⟩
end Go.Proofs.Ytjdgjhaggpahkaa
/- Reading order: which of two boxes comes before. Conditions: none. -/
namespace Go.Proofs.Ytjdgjhaggpahkaa
open Go.RowKit
set_option maxHeartbeats 4000000 in
theorem GBefore_g (a b : Bx) (w : World) : Calls Try.prog 14 #[.agg #[.int .i64 a.x, .int .i64 a.y, .int .i64 a.w, .int .i64 a.h], .agg #[.int .i64 b.x, .int .i64 b.y, .int .i64 b.w, .int .i64 b.h]] w (RetB w (befB a b)) := by
 obtain ⟨t, ht⟩ : ∃ t, befB a b = t := ⟨_, rfl⟩
 obtain ⟨ta, hta⟩ : ∃ t, okB a = t := ⟨_, rfl⟩
 obtain ⟨tb, htb⟩ : ∃ t, okB b = t := ⟨_, rfl⟩
 have H1 := hid fun (W : World) => (show Calls Try.prog 29 #[.agg #[.int .i64 a.x, .int .i64 a.y, .int .i64 a.w, .int .i64 a.h]] W (RetB W ta) from by rw [← hta]; exact Gvalid_g a W)
 have H2 := hid fun (W : World) => (show Calls Try.prog 29 #[.agg #[.int .i64 b.x, .int .i64 b.y, .int .i64 b.w, .int .i64 b.h]] W (RetB W tb) from by rw [← htb]; exact Gvalid_g b W)
 have E0 := hid fun (h : ta = false ∨ tb = false) => (show t = false from by rw [← ht]; unfold befB; rw [hta, htb]; rcases h with h | h <;> simp [h])
 have E1 := hid fun (h1 : ta = true) (h2 : tb = true) (h3 : a.y < b.y + b.h) (h4 : b.y < a.y + a.h) => (show t = decide (a.x < b.x ∨ a.x = b.x ∧ a.y < b.y) from by rw [← ht]; unfold befB; rw [hta, htb, h1, h2]; simp [h3, h4])
 have E2 := hid fun (h1 : ta = true) (h2 : tb = true) (h3 : ¬ (a.y < b.y + b.h ∧ b.y < a.y + a.h)) => (show t = decide (a.y < b.y) from by rw [← ht]; unfold befB; rw [hta, htb, h1, h2]; simp only [Bool.and_self, if_true]; rw [if_neg h3])
 have V1 := hid fun (h : ta = true) => okB_iff.1 (hta.trans h)
 have V2 := hid fun (h : tb = true) => okB_iff.1 (htb.trans h)
 rw [ht]
 clear ht hta htb
 go_enter Try.func14, Try.ntmps14
 go_upto_region 1 with fail
 refine enterR2 (P := fun u => Code.wp _ _ _ _ u) (c0 := [.int .i64 a.x, .int .i64 a.y, .int .i64 a.w, .int .i64 a.h]) (c1 := [.int .i64 b.x, .int .i64 b.y, .int .i64 b.w, .int .i64 b.h]) ?_
 intro u HB r0 r1 zn0 zn1 hsz
 clear hsz zn0 zn1
 have c0 : (u).cell? ⟨w.heap.size, 0, none⟩ = some (.int .i64 a.x) := r0 0 _ rfl
 have c1 : (u).cell? ⟨w.heap.size, 1, none⟩ = some (.int .i64 a.y) := r0 1 _ rfl
 have c2 : (u).cell? ⟨w.heap.size, 2, none⟩ = some (.int .i64 a.w) := r0 2 _ rfl
 have c3 : (u).cell? ⟨w.heap.size, 3, none⟩ = some (.int .i64 a.h) := r0 3 _ rfl
 have d0 : (u).cell? ⟨w.heap.size + 1, 0, none⟩ = some (.int .i64 b.x) := r1 0 _ rfl
 have d1 : (u).cell? ⟨w.heap.size + 1, 1, none⟩ = some (.int .i64 b.y) := r1 1 _ rfl
 have d2 : (u).cell? ⟨w.heap.size + 1, 2, none⟩ = some (.int .i64 b.w) := r1 2 _ rfl
 have d3 : (u).cell? ⟨w.heap.size + 1, 3, none⟩ = some (.int .i64 b.h) := r1 3 _ rfl
 clear r0 r1
 obtain ⟨x, y, bw, bh⟩ := a
 obtain ⟨x', y', bw', bh'⟩ := b
 dsimp only at *
 cases ta
 ·obtain rfl := E0.out (Or.inl rfl)
  clear E0 V1 V2 H2
  go_wp2_with fail
  refine (H1.out _).mono ?_
  rintro e w1 ⟨rfl, hv⟩
  replace HB := bel_step HB hv
  clear hv H1 c0 c1 c2 c3 d0 d1 d2 d3
  clear E1 E2
  go_wp2
  go_ret
  first | exact ⟨rfl, HB⟩ | exact ⟨by rw [decide_eq_false (show ¬ y < y' by omega)]; rfl, HB⟩ | exact ⟨by rw [decide_eq_false (show ¬ x < x' by omega)]; rfl, HB⟩
 ·go_wp2_with fail
  refine (H1.out _).mono ?_
  rintro e w1 ⟨rfl, hv⟩
  replace HB := bel_step HB hv
  have c0 := keep_cell hv c0
  have c1 := keep_cell hv c1
  have c2 := keep_cell hv c2
  have c3 := keep_cell hv c3
  have d0 := keep_cell hv d0
  have d1 := keep_cell hv d1
  have d2 := keep_cell hv d2
  have d3 := keep_cell hv d3
  clear hv H1
  cases tb
  ·obtain rfl := E0.out (Or.inr rfl)
   clear E0 V1 V2
   go_wp2_with fail
   refine (H2.out _).mono ?_
   rintro e w2 ⟨rfl, hv⟩
   replace HB := bel_step HB hv
   clear hv H2 c0 c1 c2 c3 d0 d1 d2 d3
   clear E1 E2
   go_wp2
   go_ret
   first | exact ⟨rfl, HB⟩ | exact ⟨by rw [decide_eq_false (show ¬ y < y' by omega)]; rfl, HB⟩ | exact ⟨by rw [decide_eq_false (show ¬ x < x' by omega)]; rfl, HB⟩
  ·go_wp2_with fail
   refine (H2.out _).mono ?_
   rintro e w2 ⟨rfl, hv⟩
   replace HB := bel_step HB hv
   have c0 := keep_cell hv c0
   have c1 := keep_cell hv c1
   have c2 := keep_cell hv c2
   have c3 := keep_cell hv c3
   have d0 := keep_cell hv d0
   have d1 := keep_cell hv d1
   have d2 := keep_cell hv d2
   have d3 := keep_cell hv d3
   clear hv H2 E0
   obtain ⟨v1, v2, v3, v4, v5, v6, v7, v8⟩ := V1.out (by first | rfl | trivial)
   obtain ⟨u1, u2, u3, u4, u5, u6, u7, u8⟩ := V2.out (by first | rfl | trivial)
   have a1 : IntKind.i64.wrap (y + bh) = y + bh := by rw [IntKind.wrap_i64]; omega
   have a2 : IntKind.i64.wrap (y' + bh') = y' + bh' := by rw [IntKind.wrap_i64]; omega
   clear V1 V2 v1 v2 v3 v4 v5 v6 v7 v8 u1 u2 u3 u4 u5 u6 u7 u8
   replace E1 := hid (E1.out (by first | rfl | trivial) (by first | rfl | trivial))
   replace E2 := hid (E2.out (by first | rfl | trivial) (by first | rfl | trivial))
   by_cases g1 : y < y' + bh'
   ·by_cases g2 : y' < y + bh
    ·replace E1 := E1.out g1 g2
     clear E2
     by_cases g3 : x < x'
     ·obtain rfl : t = true := by rw [E1]; exact decide_eq_true (Or.inl g3)
      have E2 := trivial
      clear E1 E2
      go_wp2
      go_ret
      first | exact ⟨rfl, HB⟩ | exact ⟨by rw [decide_eq_false (show ¬ y < y' by omega)]; rfl, HB⟩ | exact ⟨by rw [decide_eq_false (show ¬ x < x' by omega)]; rfl, HB⟩
     ·by_cases g4 : x = x'
      ·by_cases g5 : y < y'
       ·obtain rfl : t = true := by rw [E1]; exact decide_eq_true (Or.inr ⟨g4, g5⟩)
        have E2 := trivial
        clear E1 E2
        go_wp2
        go_ret
        first | exact ⟨rfl, HB⟩ | exact ⟨by rw [decide_eq_false (show ¬ y < y' by omega)]; rfl, HB⟩ | exact ⟨by rw [decide_eq_false (show ¬ x < x' by omega)]; rfl, HB⟩
       ·obtain rfl : t = false := by rw [E1]; exact decide_eq_false (by omega)
        have E2 := trivial
        clear E1 E2
        go_wp2
        go_ret
        first | exact ⟨rfl, HB⟩ | exact ⟨by rw [decide_eq_false (show ¬ y < y' by omega)]; rfl, HB⟩ | exact ⟨by rw [decide_eq_false (show ¬ x < x' by omega)]; rfl, HB⟩
      ·obtain rfl : t = false := by rw [E1]; exact decide_eq_false (by omega)
       have E2 := trivial
       clear E1 E2
       go_wp2
       go_ret
       first | exact ⟨rfl, HB⟩ | exact ⟨by rw [decide_eq_false (show ¬ y < y' by omega)]; rfl, HB⟩ | exact ⟨by rw [decide_eq_false (show ¬ x < x' by omega)]; rfl, HB⟩
    ·replace E2 := E2.out (fun h => g2 h.2)
     clear E1
     have E1 := trivial
     by_cases g5 : y < y'
     ·obtain rfl : t = true := by rw [E2]; exact decide_eq_true g5
      clear E1 E2
      go_wp2
      go_ret
      first | exact ⟨rfl, HB⟩ | exact ⟨by rw [decide_eq_false (show ¬ y < y' by omega)]; rfl, HB⟩ | exact ⟨by rw [decide_eq_false (show ¬ x < x' by omega)]; rfl, HB⟩
     ·obtain rfl : t = false := by rw [E2]; exact decide_eq_false g5
      clear E1 E2
      go_wp2
      go_ret
      first | exact ⟨rfl, HB⟩ | exact ⟨by rw [decide_eq_false (show ¬ y < y' by omega)]; rfl, HB⟩ | exact ⟨by rw [decide_eq_false (show ¬ x < x' by omega)]; rfl, HB⟩
   ·replace E2 := E2.out (fun h => g1 h.1)
    clear E1
    have E1 := trivial
    by_cases g5 : y < y'
    ·obtain rfl : t = true := by rw [E2]; exact decide_eq_true g5
     clear E1 E2
     go_wp2
     go_ret
     first | exact ⟨rfl, HB⟩ | exact ⟨by rw [decide_eq_false (show ¬ y < y' by omega)]; rfl, HB⟩ | exact ⟨by rw [decide_eq_false (show ¬ x < x' by omega)]; rfl, HB⟩
    ·obtain rfl : t = false := by rw [E2]; exact decide_eq_false g5
     clear E1 E2
     go_wp2
     go_ret
     first | exact ⟨rfl, HB⟩ | exact ⟨by rw [decide_eq_false (show ¬ y < y' by omega)]; rfl, HB⟩ | exact ⟨by rw [decide_eq_false (show ¬ x < x' by omega)]; rfl, HB⟩
set_option maxHeartbeats 4000000 in
theorem RBefore_g (a b : Bx) (w : World) : Calls Try.prog 15 #[.agg #[.int .i64 a.x, .int .i64 a.y, .int .i64 a.w, .int .i64 a.h], .agg #[.int .i64 b.x, .int .i64 b.y, .int .i64 b.w, .int .i64 b.h]] w (RetB w (befB a b)) := by
 obtain ⟨t, ht⟩ : ∃ t, befB a b = t := ⟨_, rfl⟩
 obtain ⟨ta, hta⟩ : ∃ t, okB a = t := ⟨_, rfl⟩
 obtain ⟨tb, htb⟩ : ∃ t, okB b = t := ⟨_, rfl⟩
 have H1 := hid fun (W : World) => (show Calls Try.prog 30 #[.agg #[.int .i64 a.x, .int .i64 a.y, .int .i64 a.w, .int .i64 a.h]] W (RetB W ta) from by rw [← hta]; exact Rvalid_g a W)
 have H2 := hid fun (W : World) => (show Calls Try.prog 30 #[.agg #[.int .i64 b.x, .int .i64 b.y, .int .i64 b.w, .int .i64 b.h]] W (RetB W tb) from by rw [← htb]; exact Rvalid_g b W)
 have E0 := hid fun (h : ta = false ∨ tb = false) => (show t = false from by rw [← ht]; unfold befB; rw [hta, htb]; rcases h with h | h <;> simp [h])
 have E1 := hid fun (h1 : ta = true) (h2 : tb = true) (h3 : a.y < b.y + b.h) (h4 : b.y < a.y + a.h) => (show t = decide (a.x < b.x ∨ a.x = b.x ∧ a.y < b.y) from by rw [← ht]; unfold befB; rw [hta, htb, h1, h2]; simp [h3, h4])
 have E2 := hid fun (h1 : ta = true) (h2 : tb = true) (h3 : ¬ (a.y < b.y + b.h ∧ b.y < a.y + a.h)) => (show t = decide (a.y < b.y) from by rw [← ht]; unfold befB; rw [hta, htb, h1, h2]; simp only [Bool.and_self, if_true]; rw [if_neg h3])
 have V1 := hid fun (h : ta = true) => okB_iff.1 (hta.trans h)
 have V2 := hid fun (h : tb = true) => okB_iff.1 (htb.trans h)
 rw [ht]
 clear ht hta htb
 go_enter Try.func15, Try.ntmps15
 go_upto_region 1 with fail
 refine enterR2 (P := fun u => Code.wp _ _ _ _ u) (c0 := [.int .i64 a.x, .int .i64 a.y, .int .i64 a.w, .int .i64 a.h]) (c1 := [.int .i64 b.x, .int .i64 b.y, .int .i64 b.w, .int .i64 b.h]) ?_
 intro u HB r0 r1 zn0 zn1 hsz
 clear hsz zn0 zn1
 have c0 : (u).cell? ⟨w.heap.size, 0, none⟩ = some (.int .i64 a.x) := r0 0 _ rfl
 have c1 : (u).cell? ⟨w.heap.size, 1, none⟩ = some (.int .i64 a.y) := r0 1 _ rfl
 have c2 : (u).cell? ⟨w.heap.size, 2, none⟩ = some (.int .i64 a.w) := r0 2 _ rfl
 have c3 : (u).cell? ⟨w.heap.size, 3, none⟩ = some (.int .i64 a.h) := r0 3 _ rfl
 have d0 : (u).cell? ⟨w.heap.size + 1, 0, none⟩ = some (.int .i64 b.x) := r1 0 _ rfl
 have d1 : (u).cell? ⟨w.heap.size + 1, 1, none⟩ = some (.int .i64 b.y) := r1 1 _ rfl
 have d2 : (u).cell? ⟨w.heap.size + 1, 2, none⟩ = some (.int .i64 b.w) := r1 2 _ rfl
 have d3 : (u).cell? ⟨w.heap.size + 1, 3, none⟩ = some (.int .i64 b.h) := r1 3 _ rfl
 clear r0 r1
 obtain ⟨x, y, bw, bh⟩ := a
 obtain ⟨x', y', bw', bh'⟩ := b
 dsimp only at *
 cases ta
 ·obtain rfl := E0.out (Or.inl rfl)
  clear E0 V1 V2 H2
  go_wp2_with fail
  refine (H1.out _).mono ?_
  rintro e w1 ⟨rfl, hv⟩
  replace HB := bel_step HB hv
  clear hv H1 c0 c1 c2 c3 d0 d1 d2 d3
  clear E1 E2
  go_wp2
  go_ret
  first | exact ⟨rfl, HB⟩ | exact ⟨by rw [decide_eq_false (show ¬ y < y' by omega)]; rfl, HB⟩ | exact ⟨by rw [decide_eq_false (show ¬ x < x' by omega)]; rfl, HB⟩
 ·go_wp2_with fail
  refine (H1.out _).mono ?_
  rintro e w1 ⟨rfl, hv⟩
  replace HB := bel_step HB hv
  have c0 := keep_cell hv c0
  have c1 := keep_cell hv c1
  have c2 := keep_cell hv c2
  have c3 := keep_cell hv c3
  have d0 := keep_cell hv d0
  have d1 := keep_cell hv d1
  have d2 := keep_cell hv d2
  have d3 := keep_cell hv d3
  clear hv H1
  cases tb
  ·obtain rfl := E0.out (Or.inr rfl)
   clear E0 V1 V2
   go_wp2_with fail
   refine (H2.out _).mono ?_
   rintro e w2 ⟨rfl, hv⟩
   replace HB := bel_step HB hv
   clear hv H2 c0 c1 c2 c3 d0 d1 d2 d3
   clear E1 E2
   go_wp2
   go_ret
   first | exact ⟨rfl, HB⟩ | exact ⟨by rw [decide_eq_false (show ¬ y < y' by omega)]; rfl, HB⟩ | exact ⟨by rw [decide_eq_false (show ¬ x < x' by omega)]; rfl, HB⟩
  ·go_wp2_with fail
   refine (H2.out _).mono ?_
   rintro e w2 ⟨rfl, hv⟩
   replace HB := bel_step HB hv
   have c0 := keep_cell hv c0
   have c1 := keep_cell hv c1
   have c2 := keep_cell hv c2
   have c3 := keep_cell hv c3
   have d0 := keep_cell hv d0
   have d1 := keep_cell hv d1
   have d2 := keep_cell hv d2
   have d3 := keep_cell hv d3
   clear hv H2 E0
   obtain ⟨v1, v2, v3, v4, v5, v6, v7, v8⟩ := V1.out (by first | rfl | trivial)
   obtain ⟨u1, u2, u3, u4, u5, u6, u7, u8⟩ := V2.out (by first | rfl | trivial)
   have a1 : IntKind.i64.wrap (y + bh) = y + bh := by rw [IntKind.wrap_i64]; omega
   have a2 : IntKind.i64.wrap (y' + bh') = y' + bh' := by rw [IntKind.wrap_i64]; omega
   clear V1 V2 v1 v2 v3 v4 v5 v6 v7 v8 u1 u2 u3 u4 u5 u6 u7 u8
   replace E1 := hid (E1.out (by first | rfl | trivial) (by first | rfl | trivial))
   replace E2 := hid (E2.out (by first | rfl | trivial) (by first | rfl | trivial))
   by_cases g1 : y < y' + bh'
   ·by_cases g2 : y' < y + bh
    ·replace E1 := E1.out g1 g2
     clear E2
     by_cases g3 : x < x'
     ·obtain rfl : t = true := by rw [E1]; exact decide_eq_true (Or.inl g3)
      have E2 := trivial
      clear E1 E2
      go_wp2
      go_ret
      first | exact ⟨rfl, HB⟩ | exact ⟨by rw [decide_eq_false (show ¬ y < y' by omega)]; rfl, HB⟩ | exact ⟨by rw [decide_eq_false (show ¬ x < x' by omega)]; rfl, HB⟩
     ·by_cases g4 : x = x'
      ·by_cases g5 : y < y'
       ·obtain rfl : t = true := by rw [E1]; exact decide_eq_true (Or.inr ⟨g4, g5⟩)
        have E2 := trivial
        clear E1 E2
        go_wp2
        go_ret
        first | exact ⟨rfl, HB⟩ | exact ⟨by rw [decide_eq_false (show ¬ y < y' by omega)]; rfl, HB⟩ | exact ⟨by rw [decide_eq_false (show ¬ x < x' by omega)]; rfl, HB⟩
       ·obtain rfl : t = false := by rw [E1]; exact decide_eq_false (by omega)
        have E2 := trivial
        clear E1 E2
        go_wp2
        go_ret
        first | exact ⟨rfl, HB⟩ | exact ⟨by rw [decide_eq_false (show ¬ y < y' by omega)]; rfl, HB⟩ | exact ⟨by rw [decide_eq_false (show ¬ x < x' by omega)]; rfl, HB⟩
      ·obtain rfl : t = false := by rw [E1]; exact decide_eq_false (by omega)
       have E2 := trivial
       clear E1 E2
       go_wp2
       go_ret
       first | exact ⟨rfl, HB⟩ | exact ⟨by rw [decide_eq_false (show ¬ y < y' by omega)]; rfl, HB⟩ | exact ⟨by rw [decide_eq_false (show ¬ x < x' by omega)]; rfl, HB⟩
    ·replace E2 := E2.out (fun h => g2 h.2)
     clear E1
     have E1 := trivial
     by_cases g5 : y < y'
     ·obtain rfl : t = true := by rw [E2]; exact decide_eq_true g5
      clear E1 E2
      go_wp2
      go_ret
      first | exact ⟨rfl, HB⟩ | exact ⟨by rw [decide_eq_false (show ¬ y < y' by omega)]; rfl, HB⟩ | exact ⟨by rw [decide_eq_false (show ¬ x < x' by omega)]; rfl, HB⟩
     ·obtain rfl : t = false := by rw [E2]; exact decide_eq_false g5
      clear E1 E2
      go_wp2
      go_ret
      first | exact ⟨rfl, HB⟩ | exact ⟨by rw [decide_eq_false (show ¬ y < y' by omega)]; rfl, HB⟩ | exact ⟨by rw [decide_eq_false (show ¬ x < x' by omega)]; rfl, HB⟩
   ·replace E2 := E2.out (fun h => g1 h.1)
    clear E1
    have E1 := trivial
    by_cases g5 : y < y'
    ·obtain rfl : t = true := by rw [E2]; exact decide_eq_true g5
     clear E1 E2
     go_wp2
     go_ret
     first | exact ⟨rfl, HB⟩ | exact ⟨by rw [decide_eq_false (show ¬ y < y' by omega)]; rfl, HB⟩ | exact ⟨by rw [decide_eq_false (show ¬ x < x' by omega)]; rfl, HB⟩
    ·obtain rfl : t = false := by rw [E2]; exact decide_eq_false g5
     clear E1 E2
     go_wp2
     go_ret
     first | exact ⟨rfl, HB⟩ | exact ⟨by rw [decide_eq_false (show ¬ y < y' by omega)]; rfl, HB⟩ | exact ⟨by rw [decide_eq_false (show ¬ x < x' by omega)]; rfl, HB⟩
end Go.Proofs.Ytjdgjhaggpahkaa
/- Reading order: lists of boxes in memory; the errors of a list and a gap. Conditions: none. -/
namespace Go.Proofs.Ytjdgjhaggpahkaa
open Go.RowKit
/-- a box's four cells -/
def BxAt (w : World) (b o : Nat) (q : Bx) : Prop := w.cell? ⟨b, o, none⟩ = some (.int .i64 q.x) ∧ w.cell? ⟨b, o + 1, none⟩ = some (.int .i64 q.y) ∧ w.cell? ⟨b, o + 2, none⟩ = some (.int .i64 q.w) ∧ w.cell? ⟨b, o + 3, none⟩ = some (.int .i64 q.h)
theorem BxAt.keep {W w' : World} {b o : Nat} {q : Bx} (h : Below W.heap.size W w') (hc : BxAt W b o q) : BxAt w' b o q :=
 ⟨keep_cell h hc.1, keep_cell h hc.2.1, keep_cell h hc.2.2.1, keep_cell h hc.2.2.2⟩
/-- a slice of boxes -/
structure Qb (w : World) (A : Option Addr) (c : Nat) (l : List Bx) : Prop where
 cap : l.length ≤ c
 max : c ≤ 9223372036854775807
 rd : 0 < l.length → ∃ b o, A = some ⟨b, o, none⟩ ∧ b < w.heap.size ∧ ∀ j (h : j < l.length), BxAt w b (o + j * 4) l[j]
theorem Qb.below {w w' : World} {A : Option Addr} {c : Nat} {l : List Bx} (h : Qb w A c l) (hb : Below w.heap.size w w') : Qb w' A c l :=
 ⟨h.cap, h.max, fun hl => by
  obtain ⟨b, o, e, hlt, hc⟩ := h.rd hl
  exact ⟨b, o, e, Nat.lt_of_lt_of_le hlt hb.size, fun j hj => (hc j hj).keep hb⟩⟩
theorem Qb.at_ {w : World} {A : Option Addr} {c : Nat} {l : List Bx} (h : Qb w A c l) {k : Nat} (hk : k < l.length) : ∃ b o, A = some ⟨b, o, none⟩ ∧ BxAt w b (o + k * 4) l[k] := by
 obtain ⟨b, o, e, _, hc⟩ := h.rd (by omega)
 exact ⟨b, o, e, hc k hk⟩
theorem Qb.nil (w : World) : Qb w none 0 [] := ⟨Nat.le_refl _, by omega, fun h => by simp at h⟩
set_option maxHeartbeats 1000000 in
theorem ck1_g (b : Bx) (w : World) : Calls Try.prog 38 #[.agg #[.int .i64 b.x, .int .i64 b.y, .int .i64 b.w, .int .i64 b.h]] w (RetB w (!okB b)) := by
 obtain ⟨t, ht⟩ : ∃ t, okB b = t := ⟨_, rfl⟩
 have H1 := hid fun (W : World) => (show Calls Try.prog 29 #[.agg #[.int .i64 b.x, .int .i64 b.y, .int .i64 b.w, .int .i64 b.h]] W (RetB W t) from by rw [← ht]; exact Gvalid_g b W)
 rw [ht]
 clear ht
 go_enter Try.func38, Try.ntmps38
 go_upto_region 1 with fail
 refine enterR (P := fun u => Code.wp _ _ _ _ u) (c := [.int .i64 b.x, .int .i64 b.y, .int .i64 b.w, .int .i64 b.h]) ?_
 intro u HB r0 zn0 hsz
 clear hsz zn0
 have c0 : (u).cell? ⟨w.heap.size, 0, none⟩ = some (.int .i64 b.x) := r0 0 _ rfl
 have c1 : (u).cell? ⟨w.heap.size, 1, none⟩ = some (.int .i64 b.y) := r0 1 _ rfl
 have c2 : (u).cell? ⟨w.heap.size, 2, none⟩ = some (.int .i64 b.w) := r0 2 _ rfl
 have c3 : (u).cell? ⟨w.heap.size, 3, none⟩ = some (.int .i64 b.h) := r0 3 _ rfl
 clear r0
 go_wp2_with fail
 refine (H1.out _).mono ?_
 rintro e w1 ⟨rfl, hv⟩
 replace HB := bel_step HB hv
 clear hv H1 c0 c1 c2 c3
 go_wp2
 go_ret
 exact ⟨rfl, HB⟩
set_option maxHeartbeats 2000000 in
theorem ixf_g (l : List Bx) (A : Option Addr) (c : Nat) {w : World} (hl : Qb w A c l) :
  Calls Try.prog 46 #[.slice A l.length c, .func (.func 38) #[] #[]] w fun e w' => ∃ k : Int, e = .returned (.int .i64 k) ∧ decide (0 ≤ k) = (l.any fun b => !okB b) ∧ Below w.heap.size w w' := by
 obtain ⟨n, hn⟩ : ∃ n, l.length = n := ⟨_, rfl⟩
 have hM := hid fun (j : Nat) (hj : j < n) (W : World) (hb : Below w.heap.size w W) => (hl.below hb).at_ (k := j) (by omega)
 have cc := Nat.le_trans hl.cap hl.max
 obtain ⟨R, hR⟩ : ∃ R, (l.any fun b => !okB b) = R := ⟨_, rfl⟩
 have hT := hid fun (j : Nat) (h1 : j < l.length) (h : okB l[j] = false) => (show R = true from by
  rw [← hR, List.any_eq_true]; exact ⟨l[j], List.getElem_mem h1, by rw [h]; rfl⟩)
 have hF := hid fun (h : ∀ j (h1 : j < l.length), okB l[j] = true) => (show R = false from by
  rw [← hR, List.any_eq_false]
  intro x hx
  obtain ⟨j, hj, e⟩ := List.getElem_of_mem hx
  rw [← e, h j hj]; simp)
 rw [hn] at cc ⊢
 rw [hR]
 replace hn := hid hn
 clear hl hR
 have HB := Below.refl w.heap.size w
 go_enter Try.func46, Try.ntmps46
 go_wp2
 go_loopw [8, 5] (fun s8 s5 wr => ∃ i : Nat, s8 = .int .i64 i ∧ i ≤ n ∧ Hid (∀ j (h1 : j < l.length), j < i → okB l[j] = true) ∧ Below w.heap.size w wr) (fun s8 _ _ => n - (intOf s8).toNat)
 case atStart => exact ⟨0, rfl, by omega, fun j _ h => by omega, HB⟩
 case round =>
  clear HB
  obtain ⟨i, rfl, hi, hA, HB⟩ := hrel
  by_cases hin : i < n
  ·have hii : (i : Int) < (n : Int) := by omega
   have hil : i < l.length := by have := hn.out; omega
   obtain ⟨b, o, hA3, e0, e1, e2, e3⟩ := hM.out i hin wr HB
   subst hA3
   obtain ⟨t, ht⟩ : ∃ t, okB l[i] = t := ⟨_, rfl⟩
   have H1 := hid fun (W : World) => (show Calls Try.prog 38 #[.agg #[.int .i64 l[i].x, .int .i64 l[i].y, .int .i64 l[i].w, .int .i64 l[i].h]] W (RetB W (!t)) from by rw [← ht]; exact ck1_g l[i] W)
   have hb1 := hid fun (h : t = false) => hT.out i hil (ht.trans h)
   have hb2 := hid fun (h : t = true) (j : Nat) (h1 : j < l.length) (hj : j < i + 1) => (show okB l[j] = true from by
    by_cases e : j = i
    ·subst e; exact ht.trans h
    ·exact hA.out j h1 (by omega))
   generalize l[i] = q at *
   obtain ⟨x, y, bw, bh⟩ := q
   dsimp only at e0 e1 e2 e3 H1
   clear hM hA hT hF ht
   go_wp2_with fail
   refine (H1.out _).mono ?_
   rintro e w1 ⟨rfl, hv⟩
   replace HB := bel_step HB hv
   clear hv H1 e0 e1 e2 e3
   cases t
   ·obtain rfl := hb1.out (by first | rfl | trivial)
    clear hb1 hb2
    go_wp2
    go_ret
    exact ⟨(i : Int), rfl, decide_eq_true (by omega), HB⟩
   ·have hA2 := hid (hb2.out (by first | rfl | trivial))
    clear hb1 hb2
    go_wp2
    go_roundw
    case rel => exact ⟨i + 1, by go_num, by omega, hA2, HB⟩
    case measure => simp [intOf]; omega
  ·obtain rfl : i = n := by omega
   obtain rfl := hF.out (fun j h1 => hA.out j h1 (by have := hn.out; omega))
   have hii : ¬ (i : Int) < (i : Int) := by omega
   clear hM hA hT hF
   go_wp2
   go_ret
   exact ⟨-1, rfl, by first | rfl | omega | decide, HB⟩
set_option maxHeartbeats 1000000 in
theorem ctf_g (l : List Bx) (A : Option Addr) (c : Nat) {w : World} (hl : Qb w A c l) :
  Calls Try.prog 37 #[.slice A l.length c, .func (.func 38) #[] #[]] w (RetB w (l.any fun b => !okB b)) := by
 have H1 := hid (ixf_g l A c hl)
 generalize (l.any fun b => !okB b) = R at *
 generalize l.length = n at *
 clear hl
 go_enter Try.func37, Try.ntmps37
 go_wp2_with fail
 refine H1.out.mono ?_
 rintro e w1 ⟨k, rfl, hk, hv⟩
 clear H1
 have hk := hid hk
 go_wp2
 go_ret
 exact ⟨by rw [← hk.out]; rfl, hv⟩
theorem chkB_4 {l : List Bx} {g : Int} (h : 4096 < l.length) : chkB l g = 4 := by unfold chkB; rw [if_pos h]
theorem chkB_3 {l : List Bx} {g : Int} (h : ¬ 4096 < l.length) (h' : g < 0 ∨ 4096 < g ∨ (l.any fun b => !okB b) = true) : chkB l g = 3 := by unfold chkB; rw [if_neg h, if_pos h']
theorem chkB_0 {l : List Bx} {g : Int} (h : ¬ 4096 < l.length) (h1 : ¬ g < 0) (h2 : ¬ 4096 < g) (h3 : (l.any fun b => !okB b) = false) : chkB l g = 0 := by
 unfold chkB; rw [if_neg h, if_neg]
 rintro (h | h | h)
 ·exact h1 h
 ·exact h2 h
 ·rw [h3] at h; cases h
set_option maxHeartbeats 2000000 in
theorem Gchk_g (l : List Bx) (A : Option Addr) (c : Nat) (g : Int) {w : World} (hl : Qb w A c l) :
  Calls Try.prog 26 #[.slice A l.length c, .int .i64 g] w (RetI w (chkB l g)) := by
 obtain ⟨k, hk⟩ : ∃ k, chkB l g = k := ⟨_, rfl⟩
 have HC := hid (ctf_g l A c hl)
 have h4 := hid fun (h : 4096 < l.length) => hk.symm.trans (chkB_4 (g := g) h)
 have h3 := hid fun (h : ¬ 4096 < l.length) (h' : g < 0 ∨ 4096 < g ∨ (l.any fun b => !okB b) = true) => hk.symm.trans (chkB_3 h h')
 have h0 := hid fun (h : ¬ 4096 < l.length) (h1 : ¬ g < 0) (h2 : ¬ 4096 < g) (h3 : (l.any fun b => !okB b) = false) => hk.symm.trans (chkB_0 h h1 h2 h3)
 have cc := Nat.le_trans hl.cap hl.max
 rw [hk]
 clear hk hl
 generalize (l.any fun b => !okB b) = R at *
 generalize l.length = n at *
 go_enter Try.func26, Try.ntmps26
 by_cases g1 : 4096 < n
 ·have gi : (4096 : Int) < (n : Int) := by omega
  obtain rfl := h4.out g1
  clear HC h4 h3 h0
  go_wp2
  go_ret
  exact ⟨rfl, Below.refl _ _⟩
 ·have gi : ¬ (4096 : Int) < (n : Int) := by omega
  by_cases g2 : g < 0
  ·obtain rfl := h3.out g1 (Or.inl g2)
   clear HC h4 h3 h0
   go_wp2
   go_ret
   exact ⟨rfl, Below.refl _ _⟩
  ·by_cases g3 : 4096 < g
   ·obtain rfl := h3.out g1 (Or.inr (Or.inl g3))
    clear HC h4 h3 h0
    go_wp2
    go_ret
    exact ⟨rfl, Below.refl _ _⟩
   ·go_wp2_with fail
    refine HC.out.mono ?_
    rintro e w1 ⟨rfl, hv⟩
    cases R
    ·obtain rfl := h0.out g1 g2 g3 (by first | rfl | trivial)
     clear HC h4 h3 h0
     go_wp2
     go_ret
     exact ⟨rfl, hv⟩
    ·obtain rfl := h3.out g1 (Or.inr (Or.inr (by first | rfl | trivial)))
     clear HC h4 h3 h0
     go_wp2
     go_ret
     exact ⟨rfl, hv⟩
end Go.Proofs.Ytjdgjhaggpahkaa
/- Reading order: the reference's check. Conditions: none. -/
namespace Go.Proofs.Ytjdgjhaggpahkaa
open Go.RowKit
set_option maxHeartbeats 2000000 in
theorem Rchk_g (l : List Bx) (A : Option Addr) (c : Nat) (g : Int) {w : World} (hl : Qb w A c l) :
  Calls Try.prog 27 #[.slice A l.length c, .int .i64 g] w (RetI w (chkB l g)) := by
 obtain ⟨k, hk⟩ : ∃ k, chkB l g = k := ⟨_, rfl⟩
 obtain ⟨n, hn⟩ : ∃ n, l.length = n := ⟨_, rfl⟩
 have hM := hid fun (j : Nat) (hj : j < n) (W : World) (hb : Below w.heap.size w W) => (hl.below hb).at_ (k := j) (by omega)
 have h4 := hid fun (h : 4096 < n) => hk.symm.trans (chkB_4 (g := g) (by omega))
 have h3 := hid fun (h : ¬ 4096 < n) (h' : g < 0 ∨ 4096 < g) => hk.symm.trans (chkB_3 (l := l) (by omega) (h'.imp_right Or.inl))
 have hT := hid fun (h : ¬ 4096 < n) (j : Nat) (h1 : j < l.length) (h2 : okB l[j] = false) => hk.symm.trans (chkB_3 (l := l) (by omega) (Or.inr (Or.inr (by
  rw [List.any_eq_true]; exact ⟨l[j], List.getElem_mem h1, by rw [h2]; rfl⟩))))
 have h0 := hid fun (h : ¬ 4096 < n) (h1 : ¬ g < 0) (h2 : ¬ 4096 < g) (h3 : ∀ j (h1 : j < l.length), okB l[j] = true) => hk.symm.trans (chkB_0 (l := l) (by omega) h1 h2 (by
  rw [List.any_eq_false]
  intro x hx
  obtain ⟨j, hj, e⟩ := List.getElem_of_mem hx
  rw [← e, h3 j hj]; simp))
 have cc := Nat.le_trans hl.cap hl.max
 rw [hk]
 rw [hn] at cc ⊢
 replace hn := hid hn
 clear hk hl
 have HB := Below.refl w.heap.size w
 go_enter Try.func27, Try.ntmps27
 by_cases g1 : 4096 < n
 ·have gi : (4096 : Int) < (n : Int) := by omega
  obtain rfl := h4.out g1
  clear h4 h3 h0 hT hM
  go_wp2
  go_ret
  exact ⟨rfl, HB⟩
 ·have gi : ¬ (4096 : Int) < (n : Int) := by omega
  replace hT := hid (hT.out g1)
  replace h3 := hid (h3.out g1)
  replace h0 := hid (h0.out g1)
  clear h4
  go_wp2
  go_loopw [5] (fun s5 wr => ∃ i : Nat, s5 = .int .i64 i ∧ i ≤ n ∧ Hid (∀ j (h1 : j < l.length), j < i → okB l[j] = true) ∧ Below w.heap.size w wr) (fun s5 _ => n - (intOf s5).toNat)
  case atStart => exact ⟨0, rfl, by omega, fun j _ h => by omega, HB⟩
  case round =>
   clear HB
   obtain ⟨i, rfl, hi, hA, HB⟩ := hrel
   by_cases hin : i < n
   ·have hii : (i : Int) < (n : Int) := by omega
    have hil : i < l.length := by have := hn.out; omega
    obtain ⟨b, o, hA3, e0, e1, e2, e3⟩ := hM.out i hin wr HB
    subst hA3
    obtain ⟨t, ht⟩ : ∃ t, okB l[i] = t := ⟨_, rfl⟩
    have H1 := hid fun (W : World) => (show Calls Try.prog 30 #[.agg #[.int .i64 l[i].x, .int .i64 l[i].y, .int .i64 l[i].w, .int .i64 l[i].h]] W (RetB W t) from by rw [← ht]; exact Rvalid_g l[i] W)
    have hb1 := hid fun (h : t = false) => hT.out i hil (ht.trans h)
    have hb2 := hid fun (h : t = true) (j : Nat) (h1 : j < l.length) (hj : j < i + 1) => (show okB l[j] = true from by
     by_cases e : j = i
     ·subst e; exact ht.trans h
     ·exact hA.out j h1 (by omega))
    generalize l[i] = q at *
    obtain ⟨x, y, bw, bh⟩ := q
    dsimp only at e0 e1 e2 e3 H1
    clear hM hA hT h0 h3 ht
    go_wp2_with fail
    refine (H1.out _).mono ?_
    rintro e w1 ⟨rfl, hv⟩
    replace HB := bel_step HB hv
    clear hv H1 e0 e1 e2 e3
    cases t
    ·obtain rfl := hb1.out (by first | rfl | trivial)
     clear hb1 hb2
     go_wp2
     go_ret
     exact ⟨rfl, HB⟩
    ·have hA2 := hid (hb2.out (by first | rfl | trivial))
     clear hb1 hb2
     go_wp2
     go_roundw
     case rel => exact ⟨i + 1, by go_num, by omega, hA2, HB⟩
     case measure => simp [intOf]; omega
   ·obtain rfl : i = n := by omega
    have hii : ¬ (i : Int) < (i : Int) := by omega
    have hall := hid fun j h1 => hA.out j h1 (by have := hn.out; omega)
    by_cases g2 : g < 0
    ·obtain rfl := h3.out (Or.inl (by omega))
     clear hM hA hT h0 h3 hall
     go_wp2
     go_ret
     exact ⟨rfl, HB⟩
    ·by_cases g3 : 4096 < g
     ·obtain rfl := h3.out (Or.inr (by omega))
      clear hM hA hT h0 h3 hall
      go_wp2
      go_ret
      exact ⟨rfl, HB⟩
     ·obtain rfl := h0.out (by omega) (by omega) hall.out
      clear hM hA hT h0 h3 hall
      go_wp2
      go_ret
      exact ⟨rfl, HB⟩
end Go.Proofs.Ytjdgjhaggpahkaa
