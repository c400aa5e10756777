/- Reading order: the statements on columns, paragraphs, the relation. Conditions: none. -/
import Derived.Test.YtjdgjhaggpahkaaZRe2
set_option linter.unusedVariables false
set_option linter.unusedSimpArgs false
namespace Go.Proofs.Ytjdgjhaggpahkaa
open Go.RowKit Go.Deep
theorem lists_same (L : List (List Nat)) (v u : Value) {w : World} (hl : Zls w v L) (hm : Zls w u L) : Calls Try.prog 19 #[v, u] w (RetB w true) := by
 have := Llists_g L L v u hl hm
 rwa [beq_self_eq_true] at this
set_option maxHeartbeats 4000000 in
theorem Columns_law (l : List Bx) (A : Option Addr) (c : Nat) (gap : Int) {w : World} (hl : Qb w A c l) :
  Calls Try.prog 4 #[.slice A l.length c, .int .i64 gap] w (RetB w true) := by
 obtain ⟨f, hf⟩ : ∃ f, fewB l.length = f := ⟨_, rfl⟩
 have H1 := hid fun (W : World) => (show Calls Try.prog 10 #[.slice A l.length c] W (RetB W f) from by rw [← hf]; exact Lfew_g l.length A c hl.cap hl.max W)
 obtain ⟨L, hL⟩ : ∃ L, colC l gap = L := ⟨_, rfl⟩
 obtain ⟨k, hk⟩ : ∃ k, chkB l gap = k := ⟨_, rfl⟩
 have HG := hid fun (W : World) (hb : Below w.heap.size w W) => (show Calls Try.prog 17 #[.slice A l.length c, .int .i64 gap] W (RetLE W L k) from by rw [← hL, ← hk]; exact GCol_c l A c gap (hl.below hb))
 have HR := hid fun (W : World) (hb : Below w.heap.size w W) => (show Calls Try.prog 18 #[.slice A l.length c, .int .i64 gap] W (RetLE W L k) from by rw [← hL, ← hk]; exact RCol_g l A c gap (hl.below hb))
 have HB := Below.refl w.heap.size w
 clear hL hk hf hl
 generalize l.length = n at *
 go_enter Try.func4, Try.ntmps4
 go_wp2_with fail
 refine (H1.out _).mono ?_
 rintro e w1 ⟨rfl, hb⟩
 replace HB := bel_step HB hb
 clear hb H1
 cases f
 ·clear HG HR
  go_wp2_with fail
  refine (examples_ok _).mono ?_
  rintro e w2 ⟨rfl, hb⟩
  replace HB := bel_step HB hb
  clear hb
  go_wp2
  go_ret
  exact ⟨rfl, HB⟩
 ·go_wp2_with fail
  refine (HG.out _ HB).mono ?_
  rintro e w2 ⟨v1, rfl, z1, hb⟩
  replace HB := bel_step HB hb
  clear hb HG
  go_wp2_with fail
  refine (HR.out _ HB).mono ?_
  rintro e w3 ⟨v2, rfl, z2, hb⟩
  replace HB := bel_step HB hb
  replace z1 := z1.below hb
  clear hb HR
  go_wp2_with fail
  refine (lists_same L _ _ z1 z2).mono ?_
  rintro e w4 ⟨rfl, hb⟩
  replace HB := bel_step HB hb
  clear hb z1 z2
  go_wp2_with fail
  refine (examples_ok _).mono ?_
  rintro e w5 ⟨rfl, hb⟩
  replace HB := bel_step HB hb
  clear hb
  go_wp2
  go_ret
  exact ⟨rfl, HB⟩
set_option maxHeartbeats 4000000 in
theorem Paragraphs_law (l : List Bx) (A : Option Addr) (c : Nat) (gap : Int) {w : World} (hl : Qb w A c l) :
  Calls Try.prog 5 #[.slice A l.length c, .int .i64 gap] w (RetB w true) := by
 obtain ⟨f, hf⟩ : ∃ f, fewB l.length = f := ⟨_, rfl⟩
 have H1 := hid fun (W : World) => (show Calls Try.prog 10 #[.slice A l.length c] W (RetB W f) from by rw [← hf]; exact Lfew_g l.length A c hl.cap hl.max W)
 obtain ⟨L, hL⟩ : ∃ L, (parE l gap).1 = L := ⟨_, rfl⟩
 obtain ⟨k, hk⟩ : ∃ k, (parE l gap).2 = k := ⟨_, rfl⟩
 have HG := hid fun (W : World) (hb : Below w.heap.size w W) => (show Calls Try.prog 20 #[.slice A l.length c, .int .i64 gap] W (RetLE W L k) from by rw [← hL, ← hk]; exact GPar_g l A c gap (hl.below hb))
 have HR := hid fun (W : World) (hb : Below w.heap.size w W) => (show Calls Try.prog 21 #[.slice A l.length c, .int .i64 gap] W (RetLE W L k) from by rw [← hL, ← hk]; exact RPar_g l A c gap (hl.below hb))
 have HB := Below.refl w.heap.size w
 clear hL hk hf hl
 generalize l.length = n at *
 go_enter Try.func5, Try.ntmps5
 go_wp2_with fail
 refine (H1.out _).mono ?_
 rintro e w1 ⟨rfl, hb⟩
 replace HB := bel_step HB hb
 clear hb H1
 cases f
 ·clear HG HR
  go_wp2_with fail
  refine (examples_ok _).mono ?_
  rintro e w2 ⟨rfl, hb⟩
  replace HB := bel_step HB hb
  clear hb
  go_wp2
  go_ret
  exact ⟨rfl, HB⟩
 ·go_wp2_with fail
  refine (HG.out _ HB).mono ?_
  rintro e w2 ⟨v1, rfl, z1, hb⟩
  replace HB := bel_step HB hb
  clear hb HG
  go_wp2_with fail
  refine (HR.out _ HB).mono ?_
  rintro e w3 ⟨v2, rfl, z2, hb⟩
  replace HB := bel_step HB hb
  replace z1 := z1.below hb
  clear hb HR
  go_wp2_with fail
  refine (lists_same L _ _ z1 z2).mono ?_
  rintro e w4 ⟨rfl, hb⟩
  replace HB := bel_step HB hb
  clear hb z1 z2
  go_wp2_with fail
  refine (examples_ok _).mono ?_
  rintro e w5 ⟨rfl, hb⟩
  replace HB := bel_step HB hb
  clear hb
  go_wp2
  go_ret
  exact ⟨rfl, HB⟩
end Go.Proofs.Ytjdgjhaggpahkaa
/- Reading order: the statement on the relation. Conditions: none. -/
namespace Go.Proofs.Ytjdgjhaggpahkaa
open Go.RowKit Go.Deep
theorem bef_bad {a b : Bx} (h : okB a = false ∨ okB b = false) : befB a b = false := by
 unfold befB
 rcases h with h | h <;> simp [h]
theorem bef_same {a b : Bx} (h1 : a.x = b.x) (h2 : a.y = b.y) : befB a b = false := by
 unfold befB
 split
 ·split <;> simp <;> omega
 ·rfl
theorem bef_one {a b : Bx} (ha : okB a = true) (hb : okB b = true) (h : ¬ (a.x = b.x ∧ a.y = b.y)) : (befB a b = true ∧ befB b a = false) ∨ (befB a b = false ∧ befB b a = true ∧ b.y < a.y + a.h) := by
 have h1 := okB_b ha
 have h2 := okB_b hb
 unfold befB
 rw [ha, hb]
 simp only [Bool.and_self, if_true]
 by_cases c : a.y < b.y + b.h ∧ b.y < a.y + a.h
 ·rw [if_pos c, if_pos ⟨c.2, c.1⟩]
  simp
  omega
 ·rw [if_neg c, if_neg (by omega)]
  simp
  omega
set_option maxHeartbeats 8000000 in
theorem Relation_law (a b : Bx) {w : World} : Calls Try.prog 9 #[.agg #[.int .i64 a.x, .int .i64 a.y, .int .i64 a.w, .int .i64 a.h], .agg #[.int .i64 b.x, .int .i64 b.y, .int .i64 b.w, .int .i64 b.h]] w (RetB w true) := by
 obtain ⟨x, hx⟩ : ∃ t, befB a b = t := ⟨_, rfl⟩
 obtain ⟨y, hy⟩ : ∃ t, befB b a = t := ⟨_, rfl⟩
 obtain ⟨ta, hta⟩ : ∃ t, okB a = t := ⟨_, rfl⟩
 obtain ⟨tb, htb⟩ : ∃ t, okB b = t := ⟨_, rfl⟩
 have H1 := hid fun (W : World) => (show Calls Try.prog 14 #[.agg #[.int .i64 a.x, .int .i64 a.y, .int .i64 a.w, .int .i64 a.h], .agg #[.int .i64 b.x, .int .i64 b.y, .int .i64 b.w, .int .i64 b.h]] W (RetB W x) from by rw [← hx]; exact GBefore_g a b W)
 have H2 := hid fun (W : World) => (show Calls Try.prog 14 #[.agg #[.int .i64 b.x, .int .i64 b.y, .int .i64 b.w, .int .i64 b.h], .agg #[.int .i64 a.x, .int .i64 a.y, .int .i64 a.w, .int .i64 a.h]] W (RetB W y) from by rw [← hy]; exact GBefore_g b a W)
 have V1 := hid fun (W : World) => (show Calls Try.prog 25 #[.agg #[.int .i64 a.x, .int .i64 a.y, .int .i64 a.w, .int .i64 a.h]] W (RetB W ta) from by rw [← hta]; exact Lvalid_g a W)
 have V2 := hid fun (W : World) => (show Calls Try.prog 25 #[.agg #[.int .i64 b.x, .int .i64 b.y, .int .i64 b.w, .int .i64 b.h]] W (RetB W tb) from by rw [← htb]; exact Lvalid_g b W)
 have F0 := hid fun (h : ta = false ∨ tb = false) => (show x = false ∧ y = false from by rw [← hx, ← hy]; rw [← hta, ← htb] at h; exact ⟨bef_bad h, bef_bad h.symm⟩)
 have F1 := hid fun (h1 : a.x = b.x) (h2 : a.y = b.y) => (show x = false ∧ y = false from by rw [← hx, ← hy]; exact ⟨bef_same h1 h2, bef_same h1.symm h2.symm⟩)
 have F2 := hid fun (h1 : ta = true) (h2 : tb = true) (h : ¬ (a.x = b.x ∧ a.y = b.y)) => (show (x = true ∧ y = false) ∨ (x = false ∧ y = true ∧ b.y < a.y + a.h) from by rw [← hx, ← hy]; exact bef_one (hta.trans h1) (htb.trans h2) h)
 have F3 := hid fun (h1 : ta = true) => okB_b (hta.trans h1)
 clear hx hy hta htb
 go_enter Try.func9, Try.ntmps9
 go_upto_region 1 with fail
 refine enterR2 (P := fun u => Code.wp _ _ _ _ u) (c0 := [.int .i64 a.x, .int .i64 a.y, .int .i64 a.w, .int .i64 a.h]) (c1 := [.int .i64 b.x, .int .i64 b.y, .int .i64 b.w, .int .i64 b.h]) ?_
 intro u HB r0 r1 zn0 zn1 hsz
 clear hsz zn0 zn1
 have c0 : (u).cell? ⟨w.heap.size, 0, none⟩ = some (.int .i64 a.x) := r0 0 _ rfl
 have c1 : (u).cell? ⟨w.heap.size, 1, none⟩ = some (.int .i64 a.y) := r0 1 _ rfl
 have c2 : (u).cell? ⟨w.heap.size, 2, none⟩ = some (.int .i64 a.w) := r0 2 _ rfl
 have c3 : (u).cell? ⟨w.heap.size, 3, none⟩ = some (.int .i64 a.h) := r0 3 _ rfl
 have d0 : (u).cell? ⟨w.heap.size + 1, 0, none⟩ = some (.int .i64 b.x) := r1 0 _ rfl
 have d1 : (u).cell? ⟨w.heap.size + 1, 1, none⟩ = some (.int .i64 b.y) := r1 1 _ rfl
 have d2 : (u).cell? ⟨w.heap.size + 1, 2, none⟩ = some (.int .i64 b.w) := r1 2 _ rfl
 have d3 : (u).cell? ⟨w.heap.size + 1, 3, none⟩ = some (.int .i64 b.h) := r1 3 _ rfl
 clear r0 r1
 obtain ⟨ax, ay, aw, ah⟩ := a
 obtain ⟨bx, by', bw, bh⟩ := b
 dsimp only at *
 go_region_held3 (fun w' => (w'.cell? ⟨w.heap.size, 0, none⟩ = some (.int .i64 ax) ∧ w'.cell? ⟨w.heap.size, 1, none⟩ = some (.int .i64 ay) ∧ w'.cell? ⟨w.heap.size, 2, none⟩ = some (.int .i64 aw) ∧ w'.cell? ⟨w.heap.size, 3, none⟩ = some (.int .i64 ah)) ∧ (w'.cell? ⟨w.heap.size + 1, 0, none⟩ = some (.int .i64 bx) ∧ w'.cell? ⟨w.heap.size + 1, 1, none⟩ = some (.int .i64 by') ∧ w'.cell? ⟨w.heap.size + 1, 2, none⟩ = some (.int .i64 bw) ∧ w'.cell? ⟨w.heap.size + 1, 3, none⟩ = some (.int .i64 bh))) (first | ((try dsimp only); repeat' (first | with_reducible assumption | apply And.intro | (with_reducible refine keep_alloc ?_) | (with_reducible refine keep_drew ?_) | (with_reducible refine keep_set (by omega) ?_) | (with_reducible refine keep_sets (by omega) ?_) | (with_reducible refine keep_cell (W := u) ?_ ?_) | fail))) (first | (go_at_call 14; (with_reducible refine (H1.out _).mono ?_); rintro e v1 ⟨rfl, hq_⟩; have qv1 : Below u.heap.size u v1 := bel_step BG hq_) | (go_at_call 14; (with_reducible refine (H2.out _).mono ?_); rintro e v2 ⟨rfl, hq_⟩; have qv2 : Below u.heap.size u v2 := bel_step BG hq_))
 all_goals
  replace HB := bel_step HB qv2
  have c0 := keep_cell qv2 c0
  have c1 := keep_cell qv2 c1
  have c2 := keep_cell qv2 c2
  have c3 := keep_cell qv2 c3
  have d0 := keep_cell qv2 d0
  have d1 := keep_cell qv2 d1
  have d2 := keep_cell qv2 d2
  have d3 := keep_cell qv2 d3
  clear H1 H2
  clear qv2 qv1
  cases ta
  ·obtain ⟨rfl, rfl⟩ := F0.out (.inl rfl)
   clear F0 F1 F2 F3
   go_wp2_with fail
   refine (V1.out _).mono ?_
   rintro e w3 ⟨rfl, hb⟩
   replace HB := bel_step HB hb
   have c0 := keep_cell hb c0
   have c1 := keep_cell hb c1
   have c2 := keep_cell hb c2
   have c3 := keep_cell hb c3
   have d0 := keep_cell hb d0
   have d1 := keep_cell hb d1
   have d2 := keep_cell hb d2
   have d3 := keep_cell hb d3
   clear hb V1 V2
   go_wp2_with fail
   refine (examples_ok _).mono ?_
   rintro e w5 ⟨rfl, hb⟩
   replace HB := bel_step HB hb
   clear hb c0 c1 c2 c3 d0 d1 d2 d3
   go_wp2
   go_ret
   exact ⟨rfl, HB⟩
  ·go_wp2_with fail
   refine (V1.out _).mono ?_
   rintro e w3 ⟨rfl, hb⟩
   replace HB := bel_step HB hb
   have c0 := keep_cell hb c0
   have c1 := keep_cell hb c1
   have c2 := keep_cell hb c2
   have c3 := keep_cell hb c3
   have d0 := keep_cell hb d0
   have d1 := keep_cell hb d1
   have d2 := keep_cell hb d2
   have d3 := keep_cell hb d3
   clear hb V1
   cases tb
   ·obtain ⟨rfl, rfl⟩ := F0.out (.inr rfl)
    clear F0 F1 F2 F3
    go_wp2_with fail
    refine (V2.out _).mono ?_
    rintro e w4 ⟨rfl, hb⟩
    replace HB := bel_step HB hb
    have c0 := keep_cell hb c0
    have c1 := keep_cell hb c1
    have c2 := keep_cell hb c2
    have c3 := keep_cell hb c3
    have d0 := keep_cell hb d0
    have d1 := keep_cell hb d1
    have d2 := keep_cell hb d2
    have d3 := keep_cell hb d3
    clear hb V2
    go_wp2_with fail
    refine (examples_ok _).mono ?_
    rintro e w5 ⟨rfl, hb⟩
    replace HB := bel_step HB hb
    clear hb c0 c1 c2 c3 d0 d1 d2 d3
    go_wp2
    go_ret
    exact ⟨rfl, HB⟩
   ·obtain ⟨b1, b2, b3, b4, b5, b6, b7, b8⟩ := F3.out (by trivial)
    clear F0 F3
    go_wp2_with fail
    refine (V2.out _).mono ?_
    rintro e w4 ⟨rfl, hb⟩
    replace HB := bel_step HB hb
    have c0 := keep_cell hb c0
    have c1 := keep_cell hb c1
    have c2 := keep_cell hb c2
    have c3 := keep_cell hb c3
    have d0 := keep_cell hb d0
    have d1 := keep_cell hb d1
    have d2 := keep_cell hb d2
    have d3 := keep_cell hb d3
    clear hb V2
    by_cases hx : ax = bx
    ·by_cases hy : ay = by'
     ·obtain ⟨rfl, rfl⟩ := F1.out hx hy
      subst hx hy
      clear F1 F2
      go_wp2_with fail
      refine (examples_ok _).mono ?_
      rintro e w5 ⟨rfl, hb⟩
      replace HB := bel_step HB hb
      clear hb c0 c1 c2 c3 d0 d1 d2 d3
      go_wp2
      go_ret
      exact ⟨rfl, HB⟩
     ·have G2 := F2.out (by trivial) (by trivial) (fun h => hy h.2)
      subst hx
      clear F1 F2
      rcases show (x = true ∧ y = false ∧ by' < ay + ah) ∨ (x = true ∧ y = false ∧ ¬ by' < ay + ah) ∨ (x = false ∧ y = true ∧ by' < ay + ah) from (by rcases G2 with ⟨g1, g2⟩ | g; (· by_cases g3 : by' < ay + ah; (· exact .inl ⟨g1, g2, g3⟩); exact .inr (.inl ⟨g1, g2, g3⟩)); exact .inr (.inr g)) with ⟨rfl, rfl, h3⟩ | ⟨rfl, rfl, h3⟩ | ⟨rfl, rfl, h3⟩
      all_goals
       clear G2
       go_wp2_with fail
       refine (examples_ok _).mono ?_
       rintro e w5 ⟨rfl, hb⟩
       replace HB := bel_step HB hb
       clear hb c0 c1 c2 c3 d0 d1 d2 d3
       go_wp2
       go_ret
       exact ⟨rfl, HB⟩
    ·have G2 := F2.out (by trivial) (by trivial) (fun h => hx h.1)
     clear F1 F2
     rcases show (x = true ∧ y = false ∧ by' < ay + ah) ∨ (x = true ∧ y = false ∧ ¬ by' < ay + ah) ∨ (x = false ∧ y = true ∧ by' < ay + ah) from (by rcases G2 with ⟨g1, g2⟩ | g; (· by_cases g3 : by' < ay + ah; (· exact .inl ⟨g1, g2, g3⟩); exact .inr (.inl ⟨g1, g2, g3⟩)); exact .inr (.inr g)) with ⟨rfl, rfl, h3⟩ | ⟨rfl, rfl, h3⟩ | ⟨rfl, rfl, h3⟩
     all_goals
      clear G2
      go_wp2_with fail
      refine (examples_ok _).mono ?_
      rintro e w5 ⟨rfl, hb⟩
      replace HB := bel_step HB hb
      clear hb c0 c1 c2 c3 d0 d1 d2 d3
      go_wp2
      go_ret
      exact ⟨rfl, HB⟩
end Go.Proofs.Ytjdgjhaggpahkaa
