/- Reading order: lists of lists compared, the examples. Conditions: none. -/
import Derived.Test.YtjdgjhaggpahkaaZRx5
set_option linter.unusedVariables false
set_option linter.unusedSimpArgs false
namespace Go.Proofs.Ytjdgjhaggpahkaa
open Go.RowKit Go.Deep
theorem eqs_no {L M : List (List Nat)} {i : Nat} (h1 : i < L.length) (h2 : i < M.length) (h : (L[i] == M[i]) = false) : (L == M) = false := beq_eq_false_iff_ne.2 fun e => by
 subst e
 rw [beq_self_eq_true] at h
 cases h
theorem eqs_yes {L M : List (List Nat)} (hn : L.length = M.length) (h : ∀ i (h1 : i < L.length) (h2 : i < M.length), (L[i] == M[i]) = true) : (L == M) = true := beq_iff_eq.2 (List.ext_getElem hn fun i h1 h2 => eq_of_beq (h i h1 h2))
set_option maxHeartbeats 4000000 in
theorem Llists_g (L M : List (List Nat)) (v u : Value) {w : World} (hl : Zls w v L) (hm : Zls w u M) :
  Calls Try.prog 19 #[v, u] w (RetB w (L == M)) := by
 obtain ⟨A, c, rfl, hc1, hc2⟩ := hl.form
 obtain ⟨B, d, rfl, hd1, hd2⟩ := hm.form
 obtain ⟨R, hR⟩ : ∃ R, (L == M) = R := ⟨_, rfl⟩
 obtain ⟨n, hn⟩ : ∃ n, L.length = n := ⟨_, rfl⟩
 obtain ⟨k, hk⟩ : ∃ k, M.length = k := ⟨_, rfl⟩
 have hM := hid fun (j : Nat) (hj : j < n) (W : World) (hb : Below w.heap.size w W) => (hl.below hb).at_ (j := j) (by omega)
 have hN := hid fun (j : Nat) (hj : j < k) (W : World) (hb : Below w.heap.size w W) => (hm.below hb).at_ (j := j) (by omega)
 have E0 := hid fun (h : n ≠ k) => (show R = false from by rw [← hR]; exact beq_eq_false_iff_ne.2 fun e => h (by rw [← hn, ← hk, e]))
 have E1 := hid fun (j : Nat) (h1 : j < L.length) (h2 : j < M.length) (h : (L[j] == M[j]) = false) => (show R = false from by rw [← hR]; exact eqs_no h1 h2 h)
 have E2 := hid fun (h : n = k) (h : ∀ i (h1 : i < L.length) (h2 : i < M.length), (L[i] == M[i]) = true) => (show R = true from by rw [← hR]; exact eqs_yes (by omega) h)
 rw [hn] at hc1 ⊢
 rw [hk] at hd1 ⊢
 rw [hR]
 have HB := Below.refl w.heap.size w
 replace hn := hid hn
 replace hk := hid hk
 clear hl hm hR
 go_enter Try.func19, Try.ntmps19
 by_cases hnk : n = k
 ·subst hnk
  replace E2 := hid (E2.out rfl)
  clear E0
  go_wp2
  go_loopw [13] (fun s13 wr => ∃ j : Nat, s13 = .int .i64 j ∧ j ≤ n ∧ Hid (∀ i (h1 : i < L.length) (h2 : i < M.length), i < j → (L[i] == M[i]) = true) ∧ Below w.heap.size w wr) (fun s13 _ => n - (intOf s13).toNat)
  case atStart => exact ⟨0, rfl, by omega, fun i _ _ h => by omega, HB⟩
  case round =>
   clear HB
   obtain ⟨j, rfl, hj, hA, HB⟩ := hrel
   by_cases hjn : j < n
   ·have hjj : (j : Int) < (n : Int) := by omega
    have hjl : j < L.length := by have := hn.out; omega
    have hjm : j < M.length := by have := hk.out; omega
    obtain ⟨b, o, u1, hA1, e0, z1⟩ := hM.out j hjn wr HB
    subst hA1
    obtain ⟨b2, o2, u2, hA2, f0, z2⟩ := hN.out j hjn wr HB
    subst hA2
    have hC := hid fun (W : World) (hb : Below wr.heap.size wr W) => Lints_g L[j] M[j] u1 u2 (z1.below hb) (z2.below hb)
    obtain ⟨t, ht⟩ : ∃ t, (L[j] == M[j]) = t := ⟨_, rfl⟩
    have hno := hid fun (h : t = false) => E1.out j hjl hjm (ht.trans h)
    have hst := hid fun (h : t = true) (i : Nat) (h1 : i < L.length) (h2 : i < M.length) (hi : i < j + 1) => (show (L[i] == M[i]) = true from by
     by_cases e : i = j
     ·subst e; exact ht.trans h
     ·exact hA.out i h1 h2 (by omega))
    rw [ht] at hC
    clear hM hN hA ht z1 z2
    go_upto_region 6 with fail
    go_region_held3 (fun w' => w'.cell? ⟨b, o + j, none⟩ = some u1 ∧ w'.cell? ⟨b2, o2 + j, none⟩ = some u2) (first | ((try dsimp only); repeat' (first | with_reducible assumption | apply And.intro | (with_reducible refine keep_alloc ?_) | (with_reducible refine keep_drew ?_) | (with_reducible refine keep_set (by omega) ?_) | (with_reducible refine keep_sets (by omega) ?_) | (with_reducible refine keep_cell (W := wr) ?_ ?_) | fail))) ((go_at_call 16; (with_reducible refine (hC.out _ BG).mono ?_); rintro e v2 ⟨rfl, hq_⟩; have hv : Below wr.heap.size wr v2 := bel_step BG hq_))
    all_goals
     replace HB := bel_step HB hv
     clear hv e0 f0 hC
     cases t
     ·obtain rfl := hno.out (by first | rfl | trivial)
      clear hno hst E1 E2
      go_wp2
      go_ret
      exact ⟨rfl, HB⟩
     ·have hA2 := hid (hst.out (by first | rfl | trivial))
      clear hno hst E1 E2
      go_wp2
      go_roundw
      case rel => exact ⟨j + 1, by go_num, by omega, hA2, HB⟩
      case measure => simp [intOf]; omega
   ·obtain rfl : j = n := by omega
    have hjj : ¬ (j : Int) < (j : Int) := by omega
    obtain rfl := E2.out (fun i h1 h2 => hA.out i h1 h2 (by have := hn.out; omega))
    clear hM hN E1 E2 hA
    go_wp2
    go_ret
    exact ⟨rfl, HB⟩
 ·obtain rfl := E0.out hnk
  have hne : ((n : Int) == (k : Int)) = false := beq_eq_false_iff_ne.2 (by omega)
  have hne2 : ((n : Int) != (k : Int)) = true := by simp [bne, hne]
  clear E0 E1 E2 hM hN
  go_wp2
  go_ret
  exact ⟨rfl, HB⟩
set_option maxHeartbeats 1000000 in
theorem Lbox_g (x y a b : Int) (w : World) : Calls Try.prog 24 #[.int .i64 x, .int .i64 y, .int .i64 a, .int .i64 b] w fun e w' => e = .returned (.agg #[.int .i64 x, .int .i64 y, .int .i64 a, .int .i64 b]) ∧ Below w.heap.size w w' := by
 go_enter Try.func24, Try.ntmps24
 go_upto_region 1 with fail
 refine enterR (P := fun u => Code.wp _ _ _ _ u) (c := [.int .i64 0, .int .i64 0, .int .i64 0, .int .i64 0]) ?_
 intro u HB r0 zn hsz
 have c0 : u.cell? ⟨w.heap.size, 0, none⟩ = some (.int .i64 0) := r0 0 _ rfl
 have c1 : u.cell? ⟨w.heap.size, 1, none⟩ = some (.int .i64 0) := r0 1 _ rfl
 have c2 : u.cell? ⟨w.heap.size, 2, none⟩ = some (.int .i64 0) := r0 2 _ rfl
 have c3 : u.cell? ⟨w.heap.size, 3, none⟩ = some (.int .i64 0) := r0 3 _ rfl
 have fz := zn.fr
 have lt := zn.lt
 clear r0 zn hsz
 have hb := hid (below_set (below_set (below_set (below_set HB (Nat.le_refl _) 0 (.int .i64 x)) (Nat.le_refl _) 1 (.int .i64 y)) (Nat.le_refl _) 2 (.int .i64 a)) (Nat.le_refl _) 3 (.int .i64 b))
 clear HB
 go_wp2
 refine bodyPost_ret (v := .agg #[.int .i64 x, .int .i64 y, .int .i64 a, .int .i64 b]) ?_ rfl ?_
 ·simp [results, Try.results24, go_sem, c0, c1, c2, c3]
 ·exact ⟨rfl, hb.out⟩
end Go.Proofs.Ytjdgjhaggpahkaa
