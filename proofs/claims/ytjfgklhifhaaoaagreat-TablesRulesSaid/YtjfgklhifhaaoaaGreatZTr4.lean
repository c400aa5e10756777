/- Tables: whether two bitmaps are equal. Conditions: none. -/
import Derived.Test.YtjfgklhifhaaoaaGreatZTw4
set_option linter.unusedVariables false
set_option linter.unusedSimpArgs false
namespace Go.Proofs.YtjfgklhifhaaoaaGreat
open Go.RowKit
set_option maxHeartbeats 4000000 in
theorem R1Same_g (l m : List Bool) (A B : Option Addr) (c d : Nat) {w : World} (hl : BoK.Rd w A c l) (hm : BoK.Rd w B d m) :
  Calls Tryz.prog 35 #[.slice A l.length c, .slice B m.length d] w (RetB w (decide (l = m))) := by
 obtain ⟨t, ht⟩ : ∃ t, decide (l = m) = t := ⟨_, rfl⟩
 have hL := hid fun (h : l.length ≠ m.length) => (show t = false from by rw [← ht, decide_eq_false_iff_not]; exact fun e => h (by rw [e]))
 have hD := hid fun (i : Nat) (h1 : i < l.length) (h2 : i < m.length) (h : l[i] ≠ m[i]) => (show t = false from by rw [← ht, decide_eq_false_iff_not]; intro e; subst e; exact h rfl)
 have hS := hid fun (h0 : l.length = m.length) (h : ∀ i (h1 : i < l.length) (h2 : i < m.length), l[i] = m[i]) => (show t = true from by rw [← ht, decide_eq_true_eq]; exact List.ext_getElem h0 h)
 obtain ⟨n, hn⟩ : ∃ n, l.length = n := ⟨_, rfl⟩
 obtain ⟨k, hk⟩ : ∃ k, m.length = k := ⟨_, rfl⟩
 have hM1 := hid fun (j : Nat) (hj : j < n) (W : World) (hb : Below w.heap.size w W) => (hl.below hb).at_ (j := j) (by omega)
 have hM2 := hid fun (j : Nat) (hj : j < k) (W : World) (hb : Below w.heap.size w W) => (hm.below hb).at_ (j := j) (by omega)
 have cc := Nat.le_trans hl.cap hl.max
 have cd := Nat.le_trans hm.cap hm.max
 rw [ht]
 rw [hn] at cc ⊢
 rw [hk] at cd ⊢
 clear hl hm ht
 by_cases hnk : n = k
 ·subst hnk
  replace hn := hid hn
  replace hk := hid hk
  have hni : ((n : Int) != (n : Int)) = false := by simp
  go_enter Tryz.func35, Tryz.ntmps35
  go_wp2
  go_loopw [5] (fun s5 wr => ∃ i : Nat, s5 = .int .i64 (i : Int) ∧ i ≤ n ∧ Hid (∀ j (h1 : j < l.length) (h2 : j < m.length), j < i → l[j] = m[j]) ∧ Below w.heap.size w wr) (fun s5 _ => n - (intOf s5).toNat)
  case atStart => exact ⟨0, rfl, by omega, fun j _ _ h => by omega, Below.refl _ _⟩
  case round =>
   obtain ⟨i, rfl, hi, hq, HB⟩ := hrel
   by_cases hin : i < n
   ·have hii : (i : Int) < (n : Int) := by omega
    have hil : i < l.length := by have := hn.out; omega
    have him : i < m.length := by have := hk.out; omega
    obtain ⟨b, o, hA3, hc⟩ := hM1.out i hin wr HB
    have e0 : wr.cell? ⟨b, o + i * 1, none⟩ = some (.bool l[i]) := hc 0 _ rfl
    obtain ⟨b', o', hB3, hc'⟩ := hM2.out i hin wr HB
    have f0 : wr.cell? ⟨b', o' + i * 1, none⟩ = some (.bool m[i]) := hc' 0 _ rfl
    rw [Nat.mul_one] at e0 f0
    subst hA3 hB3
    have hs2 := hid fun (h : l[i] = m[i]) j (h1 : j < l.length) (h2 : j < m.length) (hj : j < i + 1) => (show l[j] = m[j] from by
     by_cases e : j = i
     ·subst e; exact h
     ·exact hq.out j h1 h2 (by omega))
    have hD1 := hid (hD.out i hil him)
    clear hc hc'
    generalize l[i] = x at *
    generalize m[i] = y at *
    by_cases g0 : x = y
    ·subst g0
     have hq2 := hid (hs2.out rfl)
     have hxx : (x != x) = false := by cases x <;> rfl
     clear hq hs2 hD1 hD hM1 hM2
     go_upto_region 6 with fail
     go_quiet (fail)
     have hv : Below wr.heap.size wr (wr.drewN nq) := below_drewN (Below.refl _ _) _
     generalize wr.drewN nq = w3 at hv ⊢
     replace HB := bel_step HB hv
     clear hv e0 f0
     go_wp2
     go_roundw
     case rel => exact ⟨i + 1, by go_num, by omega, hq2, HB⟩
     case measure => simp [intOf]; omega
    ·have htf := hid (hD1.out g0)
     have htt := htf.out
     subst htt
     clear hS hL hD1 hs2 hM1 hM2 hD hq htf
     obtain rfl : y = !x := by revert g0; cases x <;> cases y <;> simp
     clear g0
     cases x
     all_goals
      simp only [Bool.not_false, Bool.not_true] at f0
      go_upto_region 6 with fail
      go_quiet (fail)
      have hv : Below wr.heap.size wr (wr.drewN nq) := below_drewN (Below.refl _ _) _
      generalize wr.drewN nq = w3 at hv ⊢
      replace HB := bel_step HB hv
      clear hv e0 f0
      go_wp2
      go_ret
      exact ⟨rfl, HB⟩
   ·obtain rfl : n = i := by omega
    obtain rfl := hS.out (hn.out.trans hk.out.symm) (fun j h1 h2 => hq.out j h1 h2 (by have := hn.out; omega))
    have hii : ¬ (n : Int) < (n : Int) := by omega
    clear hM1 hM2 hq hD hS hL
    go_wp2
    go_ret
    exact ⟨rfl, HB⟩
 ·obtain rfl := hL.out (by omega)
  have hni : ((n : Int) != (k : Int)) = true := by rw [bne, beq_eq_false_iff_ne.2 (by omega)]; rfl
  clear hL hD hS hM1 hM2 hn hk
  go_enter Tryz.func35, Tryz.ntmps35
  go_wp2
  go_ret
  exact ⟨rfl, Below.refl _ _⟩
def eqB (a b : Bm) : Bool := decide (a.w = b.w ∧ a.h = b.h ∧ a.d = b.d)
theorem eqB_refl (a : Bm) : eqB a a = true := by unfold eqB; simp
set_option maxHeartbeats 4000000 in
theorem R20Same_g (a b : Bm) (A B : Option Addr) (c d : Nat) {w : World} (hl : BoK.Rd w A c a.d) (hm : BoK.Rd w B d b.d) :
  Calls Tryz.prog 13 #[.agg #[.int .i64 a.w, .int .i64 a.h, .slice A a.d.length c], .agg #[.int .i64 b.w, .int .i64 b.h, .slice B b.d.length d]] w (RetB w (eqB a b)) := by
 obtain ⟨W1, h1, l⟩ := a
 obtain ⟨W2, h2, m⟩ := b
 dsimp only at hl hm ⊢
 obtain ⟨t, ht⟩ : ∃ t, eqB ⟨W1, h1, l⟩ ⟨W2, h2, m⟩ = t := ⟨_, rfl⟩
 have q1 := hid fun (h : ¬ W1 = W2) => (show t = false from by rw [← ht]; exact decide_eq_false fun e => h e.1)
 have q2 := hid fun (h : ¬ h1 = h2) => (show t = false from by rw [← ht]; exact decide_eq_false fun e => h e.2.1)
 have q3 := hid fun (ha : W1 = W2) (hb : h1 = h2) => (show decide (l = m) = t from by rw [← ht]; unfold eqB; simp [ha, hb])
 have H1 := hid fun (W : World) (hb : Below w.heap.size w W) => R1Same_g l m A B c d (hl.below hb) (hm.below hb)
 rw [ht]
 clear ht hl hm
 generalize decide (l = m) = s at *
 generalize l.length = n at *
 generalize m.length = k at *
 go_enter Tryz.func13, Tryz.ntmps13
 go_upto_region 1 with fail
 refine enterR2 (P := fun u => Code.wp _ _ _ _ u) (c0 := [.int .i64 W1, .int .i64 h1, .slice A n c]) (c1 := [.int .i64 W2, .int .i64 h2, .slice B k d]) ?_
 intro u HB r0 r1 zn0 zn1 hsz
 have a0 : u.cell? ⟨w.heap.size, 0, none⟩ = some (.int .i64 W1) := r0 0 _ rfl
 have a1 : u.cell? ⟨w.heap.size, 1, none⟩ = some (.int .i64 h1) := r0 1 _ rfl
 have a2 : u.cell? ⟨w.heap.size, 2, none⟩ = some (.slice A n c) := r0 2 _ rfl
 have b0 : u.cell? ⟨w.heap.size + 1, 0, none⟩ = some (.int .i64 W2) := r1 0 _ rfl
 have b1 : u.cell? ⟨w.heap.size + 1, 1, none⟩ = some (.int .i64 h2) := r1 1 _ rfl
 have b2 : u.cell? ⟨w.heap.size + 1, 2, none⟩ = some (.slice B k d) := r1 2 _ rfl
 clear r0 r1 zn0 zn1 hsz
 by_cases g1 : W1 = W2
 ·have g1b : (W1 == W2) = true := beq_iff_eq.2 g1
  by_cases g2 : h1 = h2
  ·have g2b : (h1 == h2) = true := beq_iff_eq.2 g2
   obtain rfl := q3.out g1 g2
   clear q1 q2 q3 g1 g2
   go_wp2_with fail
   refine (H1.out _ HB).mono ?_
   rintro e v ⟨rfl, hv⟩
   replace HB := bel_step HB hv
   clear H1
   go_wp2
   go_ret
   exact ⟨rfl, HB⟩
  ·have g2b : (h1 == h2) = false := beq_eq_false_iff_ne.2 g2
   obtain rfl := q2.out g2
   clear q1 q2 q3 g1 g2
   clear H1
   go_wp2
   go_ret
   exact ⟨rfl, HB⟩
 ·have g1b : (W1 == W2) = false := beq_eq_false_iff_ne.2 g1
  obtain rfl := q1.out g1
  clear q1 q2 q3 g1
  clear H1
  go_wp2
  go_ret
  exact ⟨rfl, HB⟩
end Go.Proofs.YtjfgklhifhaaoaaGreat
