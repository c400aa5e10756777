/- Tables: Weight, and whether two lists of lines, or two tables, are equal. Conditions: at most 100000000 elements. -/
import Derived.Test.YtjfgklhifhaaoaaZTw4
set_option linter.unusedVariables false
set_option linter.unusedSimpArgs false
namespace Go.Proofs.Ytjfgklhifhaaoaa
open Go.RowKit
def wgt (d : List Bool) (i : Nat) : Nat := (d.take i).countP (· == true)
theorem wgt_succ {d : List Bool} {i : Nat} (h : i < d.length) : wgt d (i + 1) = wgt d i + if d[i] then 1 else 0 := by
 unfold wgt
 rw [List.take_succ_eq_append_getElem h, List.countP_append]
 cases d[i] <;> simp
theorem wgt_all (d : List Bool) : wgt d d.length = d.countP (· == true) := by unfold wgt; rw [List.take_length]
theorem wgt_le (d : List Bool) (i : Nat) : wgt d i ≤ i := Nat.le_trans List.countP_le_length (by rw [List.length_take]; omega)
set_option maxHeartbeats 2000000 in
theorem Weight_g (d : List Bool) (A : Option Addr) (c : Nat) {w : World} (hl : BoK.Rd w A c d) (h4 : d.length ≤ 100000000) :
  Calls Try.prog 12 #[.slice A d.length c] w (RetI w ((d.countP (· == true) : Nat) : Int)) := by
 rw [← wgt_all]
 obtain ⟨n, hn⟩ : ∃ n, d.length = n := ⟨_, rfl⟩
 have hM := hid fun (j : Nat) (hj : j < n) => hl.at_ (j := j) (by omega)
 have hs := hid fun (i : Nat) (h : i < d.length) => wgt_succ h
 have hb := hid fun (i : Nat) => wgt_le d i
 have h0 : wgt d 0 = 0 := rfl
 have cc := Nat.le_trans hl.cap hl.max
 rw [hn] at cc h4 ⊢
 replace hn := hid hn
 generalize wgt d = C at *
 clear hl
 go_enter Try.func12, Try.ntmps12
 go_wp2
 go_loopw [3, 4] (fun s3 s4 wr => ∃ i : Nat, s3 = .int .i64 (C i : Int) ∧ s4 = .int .i64 (i : Int) ∧ i ≤ n ∧ wr = w) (fun _ s4 _ => n - (intOf s4).toNat)
 case atStart => exact ⟨0, by rw [h0]; rfl, rfl, by omega, rfl⟩
 case round =>
  clear h0
  obtain ⟨i, rfl, rfl, hi, hwr⟩ := hrel
  rw [hwr]
  clear hwr wr
  by_cases hin : i < n
  ·have hii : (i : Int) < (n : Int) := by omega
   have hil : i < d.length := by have := hn.out; omega
   obtain ⟨b, o, hA3, hc⟩ := hM.out i hin
   have e0 : w.cell? ⟨b, o + i * 1, none⟩ = some (.bool d[i]) := hc 0 _ rfl
   rw [Nat.mul_one] at e0
   subst hA3
   have hs1 := hid (hs.out i hil)
   have hb1 := hb.out i
   clear hc
   generalize d[i] = t at *
   cases t
   ·have hs2 := hid (show C (i + 1) = C i from by have := hs1.out; simpa using this)
    clear hs1
    go_wp2
    go_roundw
    case rel => exact ⟨i + 1, by rw [hs2.out], by go_num, by omega, by first | rfl | trivial⟩
    case measure => simp [intOf]; omega
   ·have hs2 := hid (show C (i + 1) = C i + 1 from by have := hs1.out; simpa using this)
    have hw1 : IntKind.i64.wrap ((C i : Int) + 1) = ((C i + 1 : Nat) : Int) := by rw [IntKind.wrap_i64]; omega
    clear hs1
    generalize C i + 1 = c1 at *
    go_wp2
    go_roundw
    case rel => exact ⟨i + 1, by rw [hs2.out], by go_num, by omega, by first | rfl | trivial⟩
    case measure => simp [intOf]; omega
  ·obtain rfl : i = n := by omega
   have hii : ¬ (i : Int) < (i : Int) := by omega
   clear hM
   go_wp2
   go_ret
   exact ⟨rfl, Below.refl _ _⟩
/-! lists that are compared -/
set_option maxHeartbeats 4000000 in
theorem Lines_g (l m : List Ru) (A B : Option Addr) (c d : Nat) {w : World} (hl : RuK.Rd w A c l) (hm : RuK.Rd w B d m) :
  Calls Try.prog 14 #[.slice A l.length c, .slice B m.length d] w (RetB w (decide (l = m))) := by
 obtain ⟨t, ht⟩ : ∃ t, decide (l = m) = t := ⟨_, rfl⟩
 have hL := hid fun (h : l.length ≠ m.length) => (show t = false from by rw [← ht, decide_eq_false_iff_not]; exact fun e => h (by rw [e]))
 have hD := hid fun (i : Nat) (h1 : i < l.length) (h2 : i < m.length) (h : l[i] ≠ m[i]) => (show t = false from by rw [← ht, decide_eq_false_iff_not]; intro e; subst e; exact h rfl)
 have hS := hid fun (h0 : l.length = m.length) (h : ∀ i (h1 : i < l.length) (h2 : i < m.length), l[i] = m[i]) => (show t = true from by rw [← ht, decide_eq_true_eq]; exact List.ext_getElem h0 h)
 obtain ⟨n, hn⟩ : ∃ n, l.length = n := ⟨_, rfl⟩
 obtain ⟨k, hk⟩ : ∃ k, m.length = k := ⟨_, rfl⟩
 have hM1 := hid fun (j : Nat) (hj : j < n) (W : World) (hb : Below w.heap.size w W) => (hl.below hb).at_ (j := j) (by omega)
 have hM2 := hid fun (j : Nat) (hj : j < k) (W : World) (hb : Below w.heap.size w W) => (hm.below hb).at_ (j := j) (by omega)
 have cc := Nat.le_trans hl.cap hl.max
 have cd := Nat.le_trans hm.cap hm.max
 rw [ht]
 rw [hn] at cc ⊢
 rw [hk] at cd ⊢
 clear hl hm ht
 by_cases hnk : n = k
 ·subst hnk
  replace hn := hid hn
  replace hk := hid hk
  have hni : ((n : Int) == (n : Int)) = true := beq_self_eq_true _
  go_enter Try.func14, Try.ntmps14
  go_wp2
  go_loopw [5] (fun s5 wr => ∃ i : Nat, s5 = .int .i64 (i : Int) ∧ i ≤ n ∧ Hid (∀ j (h1 : j < l.length) (h2 : j < m.length), j < i → l[j] = m[j]) ∧ Below w.heap.size w wr) (fun s5 _ => n - (intOf s5).toNat)
  case atStart => exact ⟨0, rfl, by omega, fun j _ _ h => by omega, Below.refl _ _⟩
  case round =>
   obtain ⟨i, rfl, hi, hq, HB⟩ := hrel
   by_cases hin : i < n
   ·have hii : (i : Int) < (n : Int) := by omega
    have hil : i < l.length := by have := hn.out; omega
    have him : i < m.length := by have := hk.out; omega
    obtain ⟨b, o, hA3, hc⟩ := hM1.out i hin wr HB
    have e0 : wr.cell? ⟨b, (o + i * 5), none⟩ = some (.bool l[i].v) := hc 0 _ rfl
    have e1 : wr.cell? ⟨b, (o + i * 5) + 1, none⟩ = some (.int .i64 l[i].a) := hc 1 _ rfl
    have e2 : wr.cell? ⟨b, (o + i * 5) + 2, none⟩ = some (.int .i64 l[i].t) := hc 2 _ rfl
    have e3 : wr.cell? ⟨b, (o + i * 5) + 3, none⟩ = some (.int .i64 l[i].f) := hc 3 _ rfl
    have e4 : wr.cell? ⟨b, (o + i * 5) + 4, none⟩ = some (.int .i64 l[i].o) := hc 4 _ rfl
    obtain ⟨b', o', hB3, hc'⟩ := hM2.out i hin wr HB
    have f0 : wr.cell? ⟨b', (o' + i * 5), none⟩ = some (.bool m[i].v) := hc' 0 _ rfl
    have f1 : wr.cell? ⟨b', (o' + i * 5) + 1, none⟩ = some (.int .i64 m[i].a) := hc' 1 _ rfl
    have f2 : wr.cell? ⟨b', (o' + i * 5) + 2, none⟩ = some (.int .i64 m[i].t) := hc' 2 _ rfl
    have f3 : wr.cell? ⟨b', (o' + i * 5) + 3, none⟩ = some (.int .i64 m[i].f) := hc' 3 _ rfl
    have f4 : wr.cell? ⟨b', (o' + i * 5) + 4, none⟩ = some (.int .i64 m[i].o) := hc' 4 _ rfl
    subst hA3 hB3
    have hs2 := hid fun (h : l[i] = m[i]) j (h1 : j < l.length) (h2 : j < m.length) (hj : j < i + 1) => (show l[j] = m[j] from by
     by_cases e : j = i
     ·subst e; exact h
     ·exact hq.out j h1 h2 (by omega))
    have hD1 := hid (hD.out i hil him)
    clear hc hc'
    generalize l[i] = x at *
    generalize m[i] = y at *
    obtain ⟨xv, xa, xt, xf, xo⟩ := x
    obtain ⟨yv, ya, yt, yf, yo⟩ := y
    dsimp only at e0 e1 e2 e3 e4 f0 f1 f2 f3 f4
    by_cases g0 : xv = yv
    ·subst g0
     by_cases g1 : xa = ya
     ·subst g1
      by_cases g2 : xt = yt
      ·subst g2
       by_cases g3 : xf = yf
       ·subst g3
        by_cases g4 : xo = yo
        ·subst g4
         have hq2 := hid (hs2.out rfl)
         clear hq hs2 hD1 hD hM1 hM2
         go_upto_region 6 with fail
         go_quiet (fail)
         have hv : Below wr.heap.size wr (wr.drewN nq) := below_drewN (Below.refl _ _) _
         generalize wr.drewN nq = w3 at hv ⊢
         replace HB := bel_step HB hv
         clear hv e0 e1 e2 e3 e4 f0 f1 f2 f3 f4
         go_wp2
         go_roundw
         case rel => exact ⟨i + 1, by go_num, by omega, hq2, HB⟩
         case measure => simp [intOf]; omega
        ·have hdf : (⟨xv, xa, xt, xf, xo⟩ : Ru) ≠ ⟨xv, xa, xt, xf, yo⟩ := fun e => g4 (by injection e)
         have htf := hid (hD1.out hdf)
         clear hS hL hD1 hs2 hM1 hM2 hD hq
         go_upto_region 6 with fail
         go_quiet (fail)
         have hv : Below wr.heap.size wr (wr.drewN nq) := below_drewN (Below.refl _ _) _
         generalize wr.drewN nq = w3 at hv ⊢
         replace HB := bel_step HB hv
         clear hv e0 e1 e2 e3 e4 f0 f1 f2 f3 f4
         obtain rfl := htf.out
         go_wp2
         go_ret
         exact ⟨rfl, HB⟩
       ·have hdf : (⟨xv, xa, xt, xf, xo⟩ : Ru) ≠ ⟨xv, xa, xt, yf, yo⟩ := fun e => g3 (by injection e)
        have htf := hid (hD1.out hdf)
        clear hS hL hD1 hs2 hM1 hM2 hD hq
        go_upto_region 6 with fail
        go_quiet (fail)
        have hv : Below wr.heap.size wr (wr.drewN nq) := below_drewN (Below.refl _ _) _
        generalize wr.drewN nq = w3 at hv ⊢
        replace HB := bel_step HB hv
        clear hv e0 e1 e2 e3 e4 f0 f1 f2 f3 f4
        obtain rfl := htf.out
        go_wp2
        go_ret
        exact ⟨rfl, HB⟩
      ·have hdf : (⟨xv, xa, xt, xf, xo⟩ : Ru) ≠ ⟨xv, xa, yt, yf, yo⟩ := fun e => g2 (by injection e)
       have htf := hid (hD1.out hdf)
       clear hS hL hD1 hs2 hM1 hM2 hD hq
       go_upto_region 6 with fail
       go_quiet (fail)
       have hv : Below wr.heap.size wr (wr.drewN nq) := below_drewN (Below.refl _ _) _
       generalize wr.drewN nq = w3 at hv ⊢
       replace HB := bel_step HB hv
       clear hv e0 e1 e2 e3 e4 f0 f1 f2 f3 f4
       obtain rfl := htf.out
       go_wp2
       go_ret
       exact ⟨rfl, HB⟩
     ·have hdf : (⟨xv, xa, xt, xf, xo⟩ : Ru) ≠ ⟨xv, ya, yt, yf, yo⟩ := fun e => g1 (by injection e)
      have htf := hid (hD1.out hdf)
      clear hS hL hD1 hs2 hM1 hM2 hD hq
      go_upto_region 6 with fail
      go_quiet (fail)
      have hv : Below wr.heap.size wr (wr.drewN nq) := below_drewN (Below.refl _ _) _
      generalize wr.drewN nq = w3 at hv ⊢
      replace HB := bel_step HB hv
      clear hv e0 e1 e2 e3 e4 f0 f1 f2 f3 f4
      obtain rfl := htf.out
      go_wp2
      go_ret
      exact ⟨rfl, HB⟩
    ·have hdf : (⟨xv, xa, xt, xf, xo⟩ : Ru) ≠ ⟨yv, ya, yt, yf, yo⟩ := fun e => g0 (by injection e)
     have htf := hid (hD1.out hdf)
     clear hS hL hD1 hs2 hM1 hM2 hD hq
     go_upto_region 6 with fail
     go_quiet (fail)
     have hv : Below wr.heap.size wr (wr.drewN nq) := below_drewN (Below.refl _ _) _
     generalize wr.drewN nq = w3 at hv ⊢
     replace HB := bel_step HB hv
     clear hv e0 e1 e2 e3 e4 f0 f1 f2 f3 f4
     obtain rfl := htf.out
     go_wp2
     go_ret
     exact ⟨rfl, HB⟩
   ·obtain rfl : n = i := by omega
    obtain rfl := hS.out (hn.out.trans hk.out.symm) (fun j h1 h2 => hq.out j h1 h2 (by have := hn.out; omega))
    have hii : ¬ (n : Int) < (n : Int) := by omega
    clear hM1 hM2 hq hD hS hL
    go_wp2
    go_ret
    exact ⟨rfl, HB⟩
 ·obtain rfl := hL.out (by omega)
  have hni : ((n : Int) == (k : Int)) = false := by rw [beq_eq_false_iff_ne]; omega
  clear hL hD hS hM1 hM2 hn hk
  go_enter Try.func14, Try.ntmps14
  go_wp2
  go_ret
  exact ⟨rfl, Below.refl _ _⟩
end Go.Proofs.Ytjfgklhifhaaoaa
