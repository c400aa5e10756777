/- Integers: walks of sum, Add, Sub, Mul. Conditions: none. -/
import Derived.Test.YtkfpcohdbbhmaaaDoorBi14
namespace Go.Proofs.YtkfpcohdbbhmaaaDoor
set_option linter.unusedVariables false
set_option linter.unusedSimpArgs false
open Go.RowKit Big

/-- a block that the call laid first keeps what it holds over what follows -/
theorem box_keep {w w1 : World} {X : Array Value} {t : TypeId} (hb : Below (w.alloc (.cells X t)).heap.size (w.alloc (.cells X t)) w1) :
    (∀ i, w1.cell? ⟨w.heap.size, i, none⟩ = X[i]?) ∧ (∀ i, w1.frozen? ⟨w.heap.size, i, none⟩ = false) ∧ w.heap.size < w1.heap.size :=
  ⟨fun i => (hb.cell (p := ⟨w.heap.size, i, none⟩) (by simp)).trans (World.cell?_alloc_at _ _ _ _ rfl), fun i => (hb.frozen (p := ⟨w.heap.size, i, none⟩) (by simp)).trans (World.frozen?_alloc_at _ _ _ _ rfl), by have := hb.size; simp at this; omega⟩

theorem sg_same (b : Bool) (n m : Nat) : sg b n + sg b m = sg b (n + m) := by unfold sg; split <;> omega
theorem sg_lt (a b : Bool) (n m : Nat) (h : a ≠ b) (hl : n < m) : sg a n + sg b m = sg b (m - n) := by
  unfold sg; cases a <;> cases b <;> simp_all <;> omega
theorem sg_ge (a b : Bool) (n m : Nat) (h : a ≠ b) (hl : m ≤ n) : sg a n + sg b m = sg a (n - m) := by
  unfold sg; cases a <;> cases b <;> simp_all <;> omega
theorem sg_not (z : Int) : sg (!decide (z < 0)) z.natAbs = -z := by unfold sg; split <;> simp_all <;> omega
theorem sg_cases (x : Int) : (∃ n : Nat, x = n ∧ decide (x < 0) = false ∧ x.natAbs = n) ∨ (∃ n : Nat, x = -(n : Int) ∧ decide (x < 0) = true ∧ x.natAbs = n) := by
  by_cases h : x < 0
  · exact .inr ⟨x.natAbs, by omega, by simpa using h, rfl⟩
  · exact .inl ⟨x.natAbs, by omega, by simpa using h, rfl⟩
theorem sg_mul (x y : Int) : sg (decide (x < 0) != decide (y < 0)) (x.natAbs * y.natAbs) = x * y := by
  rcases sg_cases x with ⟨n, e, h1, h2⟩ | ⟨n, e, h1, h2⟩ <;> rcases sg_cases y with ⟨m, f, h3, h4⟩ | ⟨m, f, h3, h4⟩ <;> rw [h1, h2, h3, h4] <;> subst e <;> subst f <;> simp [sg, Int.neg_mul, Int.mul_neg]

set_option maxHeartbeats 1000000 in
theorem sum_any (an bn : Bool) (A B : Option Addr) (c d n m : Nat) (w : World) (ha : Mg w A c (limbs n)) (hb : Mg w B d (limbs m)) (hs : (limbs n).length ≤ 512) (ht : (limbs m).length ≤ 512) :
    Calls Tryd.prog 81 #[.bool an, .slice A (limbs n).length c, .bool bn, .slice B (limbs m).length d] w (RetF w (sg an n + sg bn m)) := by
  by_cases h : an = bn
  · subst h
    rw [sg_same]
    have hadd := fun (w1 : World) (h1 : Below w.heap.size w w1) => add_n A B c d n m w1 (ha.below h1) (hb.below h1) (by omega) (by omega)
    have H1 := hid hadd
    have H2 := hid fun (w1 : World) (A1 : Option Addr) (c1 : Nat) (h1 : Mg w1 A1 c1 (limbs (n + m))) => bounded_any an A1 c1 (n + m) w1 h1
    clear hadd ha hb hs ht
    go_enter Tryd.func81, Tryd.ntmps81
    go_wp2_with (first | (go_at_call 52; refine (H1.out _ (by exact (Below.refl _ _).alloc (Nat.le_refl _) _)).mono ?_; rintro e w1 ⟨R, cc, rfl, hr, hb1⟩; obtain ⟨hc1, hf1⟩ := bcell hb1; have hz1 := hb1.size; simp only [World.size_alloc] at hz1) | (go_at_call 74; refine (H2.out _ _ _ hr).mono ?_; rintro e w2 ⟨R2, cc2, rfl, hr2, hb2⟩; have hb12 := hb1.trans (hb2.mono hb1.size); obtain ⟨kc, kf, kz⟩ := box_keep hb12))
    have k0 := kc 0
    have k1 := kc 1
    simp at k0 k1
    refine bodyPost_ret (v := .tuple #[.agg #[.bool (decide (((fitE (sg an (n + m))).1) < 0)), .slice R2 (limbs (Int.natAbs ((fitE (sg an (n + m))).1))).length cc2], .int .i64 (fitE (sg an (n + m))).2]) ?_ rfl ?_
    · simp [results, Tryd.results81, go_sem, k0, k1]
    · exact fin_ze hr2 (((Below.refl _ _).alloc (Nat.le_refl _) _).trans (hb12.mono (by simp))) (Nat.le_refl _) k0 k1 _ _
  · by_cases hl : n < m
    · rw [sg_lt an bn n m h hl]
      have H1 := hid fun (w1 : World) (h1 : Below w.heap.size w w1) => sub_n B A d c m n w1 (hb.below h1) (ha.below h1) (by omega) (by omega) (by omega)
      have H2 := hid fun (w1 : World) (A1 : Option Addr) (c1 : Nat) (h1 : Mg w1 A1 c1 (limbs (m - n))) => bounded_any bn A1 c1 (m - n) w1 h1
      have H3 := hid fun (w1 : World) (h1 : Below w.heap.size w w1) => cmp_n A B c d n m w1 (ha.below h1) (hb.below h1)
      have ho := ord_lt hl
      rw [ho] at H3
      have hne : (an == bn) = false := by simp [h]
      clear ha hb hs ht ho hl h
      go_enter Tryd.func81, Tryd.ntmps81
      go_wp2_with (first | (go_at_call 82; refine (H3.out _ (by exact (Below.refl _ _).alloc (Nat.le_refl _) _)).mono ?_; rintro e w0 ⟨rfl, hb0⟩; obtain ⟨hc0, hf0⟩ := bcell hb0; have hz0 := hb0.size; simp only [World.size_alloc] at hz0) | (go_at_call 53; refine (H1.out _ (((Below.refl _ _).alloc (Nat.le_refl _) _).trans (hb0.mono (by simp)))).mono ?_; rintro e w1 ⟨R, cc, rfl, hr, hb1'⟩; have hb1 := hb0.trans (hb1'.mono hb0.size); obtain ⟨hc1, hf1⟩ := bcell hb1; have hz1 := hb1.size; simp only [World.size_alloc] at hz1) | (go_at_call 74; refine (H2.out _ _ _ hr).mono ?_; rintro e w2 ⟨R2, cc2, rfl, hr2, hb2⟩; have hb12 := hb1.trans (hb2.mono hb1.size); obtain ⟨kc, kf, kz⟩ := box_keep hb12))
      have k0 := kc 0
      have k1 := kc 1
      simp at k0 k1
      refine bodyPost_ret (v := .tuple #[.agg #[.bool (decide (((fitE (sg bn (m - n))).1) < 0)), .slice R2 (limbs (Int.natAbs ((fitE (sg bn (m - n))).1))).length cc2], .int .i64 (fitE (sg bn (m - n))).2]) ?_ rfl ?_
      · simp [results, Tryd.results81, go_sem, k0, k1]
      · exact fin_ze hr2 (((Below.refl _ _).alloc (Nat.le_refl _) _).trans (hb12.mono (by simp))) (Nat.le_refl _) k0 k1 _ _
    · rw [sg_ge an bn n m h (by omega)]
      have H1 := hid fun (w1 : World) (h1 : Below w.heap.size w w1) => sub_n A B c d n m w1 (ha.below h1) (hb.below h1) (by omega) (by omega) (by omega)
      have H2 := hid fun (w1 : World) (A1 : Option Addr) (c1 : Nat) (h1 : Mg w1 A1 c1 (limbs (n - m))) => bounded_any an A1 c1 (n - m) w1 h1
      have H3 := hid fun (w1 : World) (h1 : Below w.heap.size w w1) => cmp_n A B c d n m w1 (ha.below h1) (hb.below h1)
      have ho : 0 ≤ ord n m := by unfold ord; rw [if_neg hl]; split <;> omega
      generalize ord n m = ov at *
      have hne : (an == bn) = false := by simp [h]
      clear ha hb hs ht hl h
      go_enter Tryd.func81, Tryd.ntmps81
      go_wp2_with (first | (go_at_call 82; refine (H3.out _ (by exact (Below.refl _ _).alloc (Nat.le_refl _) _)).mono ?_; rintro e w0 ⟨rfl, hb0⟩; obtain ⟨hc0, hf0⟩ := bcell hb0; have hz0 := hb0.size; simp only [World.size_alloc] at hz0) | (go_at_call 53; refine (H1.out _ (((Below.refl _ _).alloc (Nat.le_refl _) _).trans (hb0.mono (by simp)))).mono ?_; rintro e w1 ⟨R, cc, rfl, hr, hb1'⟩; have hb1 := hb0.trans (hb1'.mono hb0.size); obtain ⟨hc1, hf1⟩ := bcell hb1; have hz1 := hb1.size; simp only [World.size_alloc] at hz1) | (go_at_call 74; refine (H2.out _ _ _ hr).mono ?_; rintro e w2 ⟨R2, cc2, rfl, hr2, hb2⟩; have hb12 := hb1.trans (hb2.mono hb1.size); obtain ⟨kc, kf, kz⟩ := box_keep hb12))
      have k0 := kc 0
      have k1 := kc 1
      simp at k0 k1
      refine bodyPost_ret (v := .tuple #[.agg #[.bool (decide (((fitE (sg an (n - m))).1) < 0)), .slice R2 (limbs (Int.natAbs ((fitE (sg an (n - m))).1))).length cc2], .int .i64 (fitE (sg an (n - m))).2]) ?_ rfl ?_
      · simp [results, Tryd.results81, go_sem, k0, k1]
      · exact fin_ze hr2 (((Below.refl _ _).alloc (Nat.le_refl _) _).trans (hb12.mono (by simp))) (Nat.le_refl _) k0 k1 _ _

end Go.Proofs.YtkfpcohdbbhmaaaDoor
