/- Tables: orderly spans. Conditions: at most 100000 spans and bands. -/
import Derived.Test.YtjfgklhifhaaoaaZTw17
import Derived.Test.YtjfgklhifhaaoaaZPB
set_option linter.unusedVariables false
set_option linter.unusedSimpArgs false
namespace Go.Proofs.Ytjfgklhifhaaoaa
open Go.RowKit
theorem ordW_iff {n k : Nat} {s : Sp} : ordW n k s = true ↔ (s.n = 0 ∨ s.n + 1 = n) ∧ ¬ (s.f = 0 ∧ s.o + 1 = k) := by
 unfold ordW
 rw [Bool.and_eq_true, decide_eq_true_eq, Bool.not_eq_true', decide_eq_false_iff_not]
set_option maxRecDepth 100000 in
set_option maxHeartbeats 8000000 in
theorem Tord_g (S : List Sp) (A : Option Addr) (c : Nat) (n k : Nat) {w : World} (hl : SpK.Rd w A c S) (h4 : S.length ≤ 100000) (hn4 : n ≤ 100000) (hk4 : k ≤ 100000) :
  Calls Try.prog 44 #[.slice A S.length c, .int .i64 (n : Int), .int .i64 (k : Int)] w (RetB w (ordE S n k)) := by
 obtain ⟨m, hm⟩ : ∃ m, S.length = m := ⟨_, rfl⟩
 obtain ⟨t, ht⟩ : ∃ t, ordE S n k = t := ⟨_, rfl⟩
 have hM := hid fun (j : Nat) (hj : j < m) (W : World) (hb : Below w.heap.size w W) => (hl.below hb).at_ (j := j) (by omega)
 have cc := Nat.le_trans hl.cap hl.max
 have hP := hid fun (i : Nat) (h : i + 1 < S.length) (hx : S[i].n = S[i + 1].n ∧ S[i + 1].f < S[i].o) => ht.symm.trans (ordE_pair (n := n) (k := k) h hx)
 have hW := hid fun (i : Nat) (h : i < S.length) (hx : ordW n k S[i] = true) => ht.symm.trans (ordE_wide h hx)
 have hE := hid fun (h : OrdI S S.length) (hw : ∀ i (h : i < S.length), ordW n k S[i] = false) => ht.symm.trans (ordE_end h hw)
 have hc0 := hid fun (i : Nat) (h : i < S.length) => cnt0_succ h
 have hcN := hid fun (i : Nat) (h : i < S.length) => cntN_succ (n := n) h
 have hb0 := hid fun (i : Nat) => (show cnt0 S i ≤ i from cnt_le)
 have hbN := hid fun (i : Nat) => (show cntN n S i ≤ i from cnt_le)
 have he0 := hid (show S.countP (fun s => s.n == 0) = cnt0 S S.length from by unfold cnt0; rw [List.take_length])
 have heN := hid (show S.countP (fun s => s.n + 1 == n) = cntN n S S.length from by unfold cntN; rw [List.take_length])
 have hz0 : cnt0 S 0 = 0 := rfl
 have hzN : cntN n S 0 = 0 := rfl
 rw [ht]
 rw [hm] at cc h4 ⊢
 replace hm := hid hm
 generalize cnt0 S = C0 at *
 generalize cntN n S = CN at *
 clear hl ht
 go_enter Try.func44, Try.ntmps44
 go_wp2
 go_loopw [14, 7, 8] (fun s14 s7 s8 wr => ∃ i : Nat, s14 = .int .i64 (i : Int) ∧ s7 = .int .i64 (C0 i : Int) ∧ s8 = .int .i64 (CN i : Int) ∧ i ≤ m ∧ Hid (OrdI S i ∧ ∀ j (h : j < S.length), j < i → ordW n k S[j] = false) ∧ Below w.heap.size w wr) (fun s14 _ _ _ => m - (intOf s14).toNat)
 case atStart => exact ⟨0, rfl, by rw [hz0]; rfl, by rw [hzN]; rfl, by omega, hid ⟨fun i _ h => by omega, fun j _ h => by omega⟩, Below.refl _ _⟩
 case round =>
  clear hz0 hzN
  obtain ⟨i, rfl, rfl, rfl, hi, hA, HB⟩ := hrel
  by_cases hin : i < m
  ·have hii : (i : Int) < (m : Int) := by omega
   have hil : i < S.length := by have := hm.out; omega
   obtain ⟨b, o, hA3, hc⟩ := hM.out i hin wr HB
   have f0 : wr.cell? ⟨b, o + i * 3, none⟩ = some (.int .i64 (S[i].n : Int)) := hc 0 _ rfl
   have f1 : wr.cell? ⟨b, o + i * 3 + 1, none⟩ = some (.int .i64 (S[i].f : Int)) := hc 1 _ rfl
   have f2 : wr.cell? ⟨b, o + i * 3 + 2, none⟩ = some (.int .i64 (S[i].o : Int)) := hc 2 _ rfl
   subst hA3
   have hprev := hid fun (h0 : 0 < i) (W : World) (hb : Below wr.heap.size wr W) => (show W.cell? ⟨b, o + (i - 1) * 3, none⟩ = some (.int .i64 ((S[i - 1]'(by omega)).n : Int)) ∧ W.cell? ⟨b, o + (i - 1) * 3 + 2, none⟩ = some (.int .i64 ((S[i - 1]'(by omega)).o : Int)) from by
    obtain ⟨b', o', hA4, hc'⟩ := hM.out (i - 1) (by omega) W (bel_step HB hb)
    injection hA4 with hA4
    injection hA4 with e1 e2
    subst e1 e2
    exact ⟨hc' 0 _ rfl, hc' 2 _ rfl⟩)
   have hq1 := hid fun (h0 : 0 < i) (hx : (S[i - 1]'(by omega)).n = S[i].n ∧ S[i].f < (S[i - 1]'(by omega)).o) => (show t = false from by
    obtain ⟨j, rfl⟩ : ∃ j, i = j + 1 := ⟨i - 1, by omega⟩
    exact hP.out j hil hx)
   have hq2 := hid fun (hx : ∀ (h0 : 0 < i), ¬ ((S[i - 1]'(by omega)).n = S[i].n ∧ S[i].f < (S[i - 1]'(by omega)).o)) => (show OrdI S (i + 1) from fun j h1 h2 => by
    by_cases e : j + 1 = i
    ·subst e
     exact hx (by omega)
    ·exact hA.out.1 j h1 (by omega))
   have hq3 := hid fun (hx : ordW n k S[i] = true) => hW.out i hil hx
   have hq4 := hid fun (hx : ordW n k S[i] = false) (j : Nat) (h1 : j < S.length) (h2 : j < i + 1) => (show ordW n k S[j] = false from by
    by_cases e : j = i
    ·subst e; exact hx
    ·exact hA.out.2 j h1 (by omega))
   have hs0 := hid (hc0.out i hil)
   have hsN := hid (hcN.out i hil)
   have l0 := hb0.out i
   have lN := hbN.out i
   obtain ⟨P, hPd⟩ : ∃ P : Bool, decide (∃ h0 : 0 < i, (S[i - 1]'(by omega)).n = S[i].n ∧ S[i].f < (S[i - 1]'(by omega)).o) = P := ⟨_, rfl⟩
   have hPt := hid fun (h : P = true) => (show t = false from by
    rw [h, decide_eq_true_eq] at hPd
    obtain ⟨h0, hx⟩ := hPd
    exact hq1.out h0 hx)
   have hPf := hid fun (h : P = false) => (show OrdI S (i + 1) from by
    rw [h, decide_eq_false_iff_not] at hPd
    exact hq2.out fun h0 hx => hPd ⟨h0, hx⟩)
   have hPy := hid fun (h0 : 0 < i) (hx : (S[i - 1]'(by omega)).n = S[i].n ∧ S[i].f < (S[i - 1]'(by omega)).o) => (show P = true from hPd.symm.trans (decide_eq_true ⟨h0, hx⟩))
   have hPn := hid fun (hx : ∀ h0 : 0 < i, ¬ ((S[i - 1]'(by omega)).n = S[i].n ∧ S[i].f < (S[i - 1]'(by omega)).o)) => (show P = false from hPd.symm.trans (decide_eq_false fun ⟨h0, h1⟩ => hx h0 h1))
   clear hPd hq1 hq2 hc hM hP hW hE hc0 hcN hb0 hbN he0 heN
   generalize hz : S[i] = z at *
   obtain ⟨z0, z1, z2⟩ := z
   dsimp only at f0 f1 f2 hprev hq3 hq4 hPy hPn hs0 hsN
   replace hz := hid hz
   go_upto_region 5 with fail
   refine enterR (P := fun u => Code.wp _ _ _ _ u) (c := [.int .i64 (z0 : Int), .int .i64 (z1 : Int), .int .i64 (z2 : Int)]) ?_
   intro x hbx s0 zx hsx
   have d0 : x.cell? ⟨wr.heap.size, 0, none⟩ = some (.int .i64 (z0 : Int)) := s0 0 _ rfl
   have d1 : x.cell? ⟨wr.heap.size, 1, none⟩ = some (.int .i64 (z1 : Int)) := s0 1 _ rfl
   have d2 : x.cell? ⟨wr.heap.size, 2, none⟩ = some (.int .i64 (z2 : Int)) := s0 2 _ rfl
   replace hprev := hid fun (h0 : 0 < i) => hprev.out h0 x hbx
   replace HB := bel_step HB hbx
   clear s0 zx hsx f0 f1 f2 hbx
   go_cut [42] (fun s42 wx => s42 = .bool P ∧ Below x.heap.size x wx)
   case first =>
    clear hPt hPf hq3 hq4 hs0 hsN hA HB
    by_cases hi0 : i = 0
    ·obtain rfl : P = false := hPn.out (fun h0 => by omega)
     subst hi0
     clear hprev hPy hPn
     go_wp2_with fail
     go_quiet (fail)
     have hv : Below x.heap.size x (x.drewN nq) := below_drewN (Below.refl _ _) _
     generalize x.drewN nq = x3 at hv ⊢
     go_wp2_with fail
     go_meet
     go_light
     exact ⟨rfl, hv⟩
    ·have h0 : 0 < i := by omega
     have h0i : (0 : Int) < (i : Int) := by omega
     obtain ⟨e0, e2⟩ := hprev.out h0
     have hPy2 := hid (hPy.out h0)
     have hPn2 := hid fun (hx : ¬ ((S[i - 1]'(by omega)).n = z0 ∧ z1 < (S[i - 1]'(by omega)).o)) => hPn.out fun _ => hx
     generalize S[i - 1]'(by omega) = y at *
     obtain ⟨y0, y1, y2⟩ := y
     dsimp only at e0 e2 hPy2 hPn2
     have hw1 : IntKind.i64.wrap ((i : Int) - 1) = ((i - 1 : Nat) : Int) := by rw [IntKind.wrap_i64]; omega
     have hji : ((i - 1 : Nat) : Int) < (m : Int) := by omega
     obtain ⟨j, hj⟩ : ∃ j, i - 1 = j := ⟨_, rfl⟩
     rw [hj] at e0 e2 hw1 hji
     clear hprev hPy hPn hj
     by_cases hy : y0 = z0
     ·subst hy
      by_cases hx : z1 < y2
      ·have hxi : (z1 : Int) < (y2 : Int) := by omega
       obtain rfl := hPy2.out ⟨rfl, hx⟩
       clear hPy2 hPn2
       go_wp2_with fail
       go_quiet (fail)
       have hv : Below x.heap.size x (x.drewN nq) := below_drewN (Below.refl _ _) _
       generalize x.drewN nq = x3 at hv ⊢
       go_wp2_with fail
       go_meet
       go_light
       exact ⟨rfl, hv⟩
      ·have hxi : ¬ (z1 : Int) < (y2 : Int) := by omega
       obtain rfl := hPn2.out (fun h => hx h.2)
       clear hPy2 hPn2
       go_wp2_with fail
       go_quiet (fail)
       have hv : Below x.heap.size x (x.drewN nq) := below_drewN (Below.refl _ _) _
       generalize x.drewN nq = x3 at hv ⊢
       go_wp2_with fail
       go_meet
       go_light
       exact ⟨rfl, hv⟩
     ·have hyi : ((y0 : Int) == (z0 : Int)) = false := beq_eq_false_iff_ne.2 (by omega)
      obtain rfl := hPn2.out (fun h => hy h.1)
      clear hPy2 hPn2
      go_wp2_with fail
      go_quiet (fail)
      have hv : Below x.heap.size x (x.drewN nq) := below_drewN (Below.refl _ _) _
      generalize x.drewN nq = x3 at hv ⊢
      go_wp2_with fail
      go_meet
      go_light
      exact ⟨rfl, hv⟩
   case rest =>
    obtain ⟨rfl, hbx⟩ := hcut
    have d0 := keep_cell hbx d0
    have d1 := keep_cell hbx d1
    have d2 := keep_cell hbx d2
    replace HB := bel_step HB hbx
    clear hbx hprev hPy hPn
    cases P
    ·have hI := hPf.out (by first | rfl | trivial)
     obtain ⟨kk, hkk⟩ : ∃ kk : Int, (k : Int) - 1 = kk := ⟨_, rfl⟩
     obtain ⟨nn, hnn⟩ : ∃ nn : Int, (n : Int) - 1 = nn := ⟨_, rfl⟩
     have hwk : IntKind.i64.wrap ((k : Int) - 1) = kk := by rw [← hkk, IntKind.wrap_i64]; omega
     have hwn : IntKind.i64.wrap ((n : Int) - 1) = nn := by rw [← hnn, IntKind.wrap_i64]; omega
     have hWi := hid (ordW_iff (n := n) (k := k) (s := ⟨z0, z1, z2⟩))
     have g0 : ((z0 : Int) == 0) = decide (z0 = 0) := by by_cases h : z0 = 0 <;> simp [h]
     have g1 : ((z0 : Int) == nn) = decide (z0 + 1 = n) := by
      by_cases h : z0 + 1 = n
      ·rw [decide_eq_true h]; exact beq_iff_eq.2 (by omega)
      ·rw [decide_eq_false h]; exact beq_eq_false_iff_ne.2 (by omega)
     have g2 : ((z1 : Int) == 0) = decide (z1 = 0) := by by_cases h : z1 = 0 <;> simp [h]
     have g3 : ((z2 : Int) == kk) = decide (z2 + 1 = k) := by
      by_cases h : z2 + 1 = k
      ·rw [decide_eq_true h]; exact beq_iff_eq.2 (by omega)
      ·rw [decide_eq_false h]; exact beq_eq_false_iff_ne.2 (by omega)
     have hwc0 : IntKind.i64.wrap ((C0 i : Int) + 1) = (C0 i : Int) + 1 := by rw [IntKind.wrap_i64]; omega
     have hwcN : IntKind.i64.wrap ((CN i : Int) + 1) = (CN i : Int) + 1 := by rw [IntKind.wrap_i64]; omega
     have p1 := hid hs0.out
     have p2 := hid hsN.out
     clear hkk hnn hPf hPt hs0 hsN
     obtain ⟨b0, hb0'⟩ : ∃ b, decide (z0 = 0) = b := ⟨_, rfl⟩
     obtain ⟨b1, hb1'⟩ : ∃ b, decide (z0 + 1 = n) = b := ⟨_, rfl⟩
     obtain ⟨b2, hb2'⟩ : ∃ b, decide (z1 = 0) = b := ⟨_, rfl⟩
     obtain ⟨b3, hb3'⟩ : ∃ b, decide (z2 + 1 = k) = b := ⟨_, rfl⟩
     rw [hb0'] at g0
     rw [hb1'] at g1
     rw [hb2'] at g2
     rw [hb3'] at g3
     have q1 := hid (show C0 (i + 1) = C0 i + (if b0 then 1 else 0) from by rw [p1.out, ← hb0']; by_cases h : z0 = 0 <;> simp [h])
     have q2 := hid (show CN (i + 1) = CN i + (if b1 then 1 else 0) from by rw [p2.out, ← hb1']; by_cases h : z0 + 1 = n <;> simp [h])
     have q3 := hid (show ordW n k ⟨z0, z1, z2⟩ = ((b0 || b1) && !(b2 && b3)) from by
      rw [Bool.eq_iff_iff, hWi.out, ← hb0', ← hb1', ← hb2', ← hb3']
      by_cases a0 : z0 = 0 <;> by_cases a1 : z0 + 1 = n <;> by_cases a2 : z1 = 0 <;> by_cases a3 : z2 + 1 = k <;> simp [a0, a1, a2, a3])
     clear hb0' hb1' hb2' hb3' hWi p1 p2
     cases hwv : ((b0 || b1) && !(b2 && b3))
     ·have hA2 := hid (show OrdI S (i + 1) ∧ ∀ j (h : j < S.length), j < i + 1 → ordW n k S[j] = false from ⟨hI, hq4.out (q3.out.trans hwv)⟩)
      clear hq3 hq4 hI q3 hA
      cases b0 <;> cases b1 <;> cases b2 <;> cases b3 <;> first | (exfalso; revert hwv; decide) | skip
      all_goals
       clear hwv
       go_wp2
       go_roundw
       case rel => exact ⟨i + 1, by go_num, by rw [q1.out]; first | rfl | go_num, by rw [q2.out]; first | rfl | go_num, by omega, hA2, HB⟩
       case measure => simp [intOf]; omega
     ·obtain rfl := hq3.out (q3.out.trans hwv)
      clear hq3 hq4 hI q1 q2 q3 hA
      cases b0 <;> cases b1 <;> cases b2 <;> cases b3 <;> first | (exfalso; revert hwv; decide) | skip
      all_goals
       clear hwv
       go_wp2
       go_ret
       exact ⟨rfl, HB⟩
    ·obtain rfl := hPt.out (by first | rfl | trivial)
     clear hPt hPf hq3 hq4 hs0 hsN hA
     go_wp2
     go_ret
     exact ⟨rfl, HB⟩
  ·obtain rfl : m = i := by omega
   have hii : ¬ (m : Int) < (m : Int) := by omega
   have hEE := hE.out (fun i h1 h2 => hA.out.1 i h1 (by have := hm.out; omega)) (fun j h => hA.out.2 j h (by have := hm.out; omega))
   rw [he0.out, heN.out, hm.out] at hEE
   have l0 := hb0.out m
   have lN := hbN.out m
   have g0 : ((C0 m : Int) == 1) = decide (C0 m = 1) := by
    by_cases h : C0 m = 1
    ·rw [h]; rfl
    ·rw [decide_eq_false h]; exact beq_eq_false_iff_ne.2 (by omega)
   have g1 : ((CN m : Int) == 1) = decide (CN m = 1) := by
    by_cases h : CN m = 1
    ·rw [h]; rfl
    ·rw [decide_eq_false h]; exact beq_eq_false_iff_ne.2 (by omega)
   generalize decide (C0 m = 1) = b0 at *
   generalize decide (CN m = 1) = b1 at *
   subst hEE
   clear hM hP hW hE hc0 hcN hb0 hbN he0 heN hA
   cases b0 <;> cases b1
   all_goals
    go_wp2
    go_ret
    exact ⟨rfl, HB⟩
end Go.Proofs.Ytjfgklhifhaaoaa
