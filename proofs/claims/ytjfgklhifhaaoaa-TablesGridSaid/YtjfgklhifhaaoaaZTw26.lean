/- Tables: whether two tables are equal. Conditions: none. -/
import Derived.Test.YtjfgklhifhaaoaaZTw25
set_option linter.unusedVariables false
set_option linter.unusedSimpArgs false
namespace Go.Proofs.Ytjfgklhifhaaoaa
open Go.RowKit
set_option maxHeartbeats 8000000 in
theorem Same_g (r1 c1 r2 c2 : Int) (l m : List Ce) (A B : Option Addr) (c d : Nat) {w : World} (hl : CeK.Rd w A c l) (hm : CeK.Rd w B d m) :
  Calls Try.prog 11 #[.agg #[.int .i64 r1, .int .i64 c1, .slice A l.length c], .agg #[.int .i64 r2, .int .i64 c2, .slice B m.length d]] w (RetB w (decide (r1 = r2 ∧ c1 = c2 ∧ l = m))) := by
 obtain ⟨t, ht⟩ : ∃ t, decide (r1 = r2 ∧ c1 = c2 ∧ l = m) = t := ⟨_, rfl⟩
 have hr := hid fun (h : r1 ≠ r2) => (show t = false from by rw [← ht, decide_eq_false_iff_not]; exact fun e => h e.1)
 have hcc := hid fun (h : c1 ≠ c2) => (show t = false from by rw [← ht, decide_eq_false_iff_not]; exact fun e => h e.2.1)
 have hL := hid fun (h : l.length ≠ m.length) => (show t = false from by rw [← ht, decide_eq_false_iff_not]; exact fun e => h (by rw [e.2.2]))
 have hD := hid fun (i : Nat) (h1 : i < l.length) (h2 : i < m.length) (h : l[i] ≠ m[i]) => (show t = false from by rw [← ht, decide_eq_false_iff_not]; intro e; obtain ⟨_, _, e⟩ := e; subst e; exact h rfl)
 have hS := hid fun (hr : r1 = r2) (hc : c1 = c2) (h0 : l.length = m.length) (h : ∀ i (h1 : i < l.length) (h2 : i < m.length), l[i] = m[i]) => (show t = true from by rw [← ht, decide_eq_true_eq]; exact ⟨hr, hc, List.ext_getElem h0 h⟩)
 obtain ⟨n, hn⟩ : ∃ n, l.length = n := ⟨_, rfl⟩
 obtain ⟨k, hk⟩ : ∃ k, m.length = k := ⟨_, rfl⟩
 have hM1 := hid fun (j : Nat) (hj : j < n) (W : World) (hb : Below w.heap.size w W) => (hl.below hb).at_ (j := j) (by omega)
 have hM2 := hid fun (j : Nat) (hj : j < k) (W : World) (hb : Below w.heap.size w W) => (hm.below hb).at_ (j := j) (by omega)
 have cc := Nat.le_trans hl.cap hl.max
 have cd := Nat.le_trans hm.cap hm.max
 rw [ht]
 rw [hn] at cc ⊢
 rw [hk] at cd ⊢
 clear hl hm ht
 by_cases hrr : r1 = r2
 ·have hri : (r1 != r2) = false := by rw [bne, beq_iff_eq.2 hrr]; rfl
  by_cases hcx : c1 = c2
  ·have hci : (c1 != c2) = false := by rw [bne, beq_iff_eq.2 hcx]; rfl
   replace hS := hid (hS.out hrr hcx)
   clear hrr hcx
   by_cases hnk : n = k
   ·subst hnk
    replace hn := hid hn
    replace hk := hid hk
    have hni : ((n : Int) != (n : Int)) = false := by simp
    go_enter Try.func11, Try.ntmps11
    go_upto_region 1 with fail
    refine enterR2 (P := fun u => Code.wp _ _ _ _ u) (c0 := [.int .i64 r1, .int .i64 c1, .slice A n c]) (c1 := [.int .i64 r2, .int .i64 c2, .slice B n d]) ?_
    intro u HB q0 q1 zn0 zn1 hsz
    have a0 : u.cell? ⟨w.heap.size, 0, none⟩ = some (.int .i64 r1) := q0 0 _ rfl
    have a1 : u.cell? ⟨w.heap.size, 1, none⟩ = some (.int .i64 c1) := q0 1 _ rfl
    have a2 : u.cell? ⟨w.heap.size, 2, none⟩ = some (.slice A n c) := q0 2 _ rfl
    have b0 : u.cell? ⟨w.heap.size + 1, 0, none⟩ = some (.int .i64 r2) := q1 0 _ rfl
    have b1 : u.cell? ⟨w.heap.size + 1, 1, none⟩ = some (.int .i64 c2) := q1 1 _ rfl
    have b2 : u.cell? ⟨w.heap.size + 1, 2, none⟩ = some (.slice B n d) := q1 2 _ rfl
    have hT := hid fun (W : World) (hb : Below u.heap.size u W) => (show W.cell? ⟨w.heap.size, 2, none⟩ = some (.slice A n c) ∧ W.cell? ⟨w.heap.size + 1, 2, none⟩ = some (.slice B n d) ∧ Below w.heap.size w W from ⟨keep_cell hb a2, keep_cell hb b2, bel_step HB hb⟩)
    clear q0 q1 zn0 zn1 hsz hr hcc
    go_wp2
    clear a0 a1 a2 b0 b1 b2
    go_loopw [5] (fun s5 wr => ∃ i : Nat, s5 = .int .i64 (i : Int) ∧ i ≤ n ∧ Hid (∀ j (h1 : j < l.length) (h2 : j < m.length), j < i → l[j] = m[j]) ∧ Below u.heap.size u wr) (fun s5 _ => n - (intOf s5).toNat)
    case atStart => exact ⟨0, rfl, by omega, fun j _ _ h => by omega, Below.refl _ _⟩
    case round =>
     clear HB
     obtain ⟨i, rfl, hi, hq, HU⟩ := hrel
     obtain ⟨t2, s2, HB⟩ := hT.out wr HU
     by_cases hin : i < n
     ·have hii : (i : Int) < (n : Int) := by omega
      have hil : i < l.length := by have := hn.out; omega
      have him : i < m.length := by have := hk.out; omega
      obtain ⟨b, o, hA3, hc⟩ := hM1.out i hin wr HB
      have e0 : wr.cell? ⟨b, (o + i * 8), none⟩ = some (.int .i64 l[i].r) := hc 0 _ rfl
      have e1 : wr.cell? ⟨b, (o + i * 8) + 1, none⟩ = some (.int .i64 l[i].c) := hc 1 _ rfl
      have e2 : wr.cell? ⟨b, (o + i * 8) + 2, none⟩ = some (.int .i64 l[i].rs) := hc 2 _ rfl
      have e3 : wr.cell? ⟨b, (o + i * 8) + 3, none⟩ = some (.int .i64 l[i].cs) := hc 3 _ rfl
      have e4 : wr.cell? ⟨b, (o + i * 8) + 4, none⟩ = some (.int .i64 l[i].b.x) := hc 4 _ rfl
      have e5 : wr.cell? ⟨b, (o + i * 8) + 5, none⟩ = some (.int .i64 l[i].b.y) := hc 5 _ rfl
      have e6 : wr.cell? ⟨b, (o + i * 8) + 6, none⟩ = some (.int .i64 l[i].b.w) := hc 6 _ rfl
      have e7 : wr.cell? ⟨b, (o + i * 8) + 7, none⟩ = some (.int .i64 l[i].b.h) := hc 7 _ rfl
      obtain ⟨b', o', hB3, hc'⟩ := hM2.out i hin wr HB
      have f0 : wr.cell? ⟨b', (o' + i * 8), none⟩ = some (.int .i64 m[i].r) := hc' 0 _ rfl
      have f1 : wr.cell? ⟨b', (o' + i * 8) + 1, none⟩ = some (.int .i64 m[i].c) := hc' 1 _ rfl
      have f2 : wr.cell? ⟨b', (o' + i * 8) + 2, none⟩ = some (.int .i64 m[i].rs) := hc' 2 _ rfl
      have f3 : wr.cell? ⟨b', (o' + i * 8) + 3, none⟩ = some (.int .i64 m[i].cs) := hc' 3 _ rfl
      have f4 : wr.cell? ⟨b', (o' + i * 8) + 4, none⟩ = some (.int .i64 m[i].b.x) := hc' 4 _ rfl
      have f5 : wr.cell? ⟨b', (o' + i * 8) + 5, none⟩ = some (.int .i64 m[i].b.y) := hc' 5 _ rfl
      have f6 : wr.cell? ⟨b', (o' + i * 8) + 6, none⟩ = some (.int .i64 m[i].b.w) := hc' 6 _ rfl
      have f7 : wr.cell? ⟨b', (o' + i * 8) + 7, none⟩ = some (.int .i64 m[i].b.h) := hc' 7 _ rfl
      subst hA3 hB3
      have hs2 := hid fun (h : l[i] = m[i]) j (h1 : j < l.length) (h2 : j < m.length) (hj : j < i + 1) => (show l[j] = m[j] from by
       by_cases e : j = i
       ·subst e; exact h
       ·exact hq.out j h1 h2 (by omega))
      have hD1 := hid (hD.out i hil him)
      clear hc hc'
      generalize l[i] = x at *
      generalize m[i] = y at *
      obtain ⟨xr, xc, xrs, xcs, ⟨xx, xy, xw, xh⟩⟩ := x
      obtain ⟨yr, yc, yrs, ycs, ⟨yx, yy, yw, yh⟩⟩ := y
      dsimp only at e0 e1 e2 e3 e4 e5 e6 e7 f0 f1 f2 f3 f4 f5 f6 f7
      by_cases g0 : xr = yr
      ·subst g0
       by_cases g1 : xc = yc
       ·subst g1
        by_cases g2 : xrs = yrs
        ·subst g2
         by_cases g3 : xcs = ycs
         ·subst g3
          by_cases g4 : xx = yx
          ·subst g4
           by_cases g5 : xy = yy
           ·subst g5
            by_cases g6 : xw = yw
            ·subst g6
             by_cases g7 : xh = yh
             ·subst g7
              have hq2 := hid (hs2.out rfl)
              clear hq hs2 hD1 hD hM1 hM2
              go_upto_region 6 with fail
              go_quiet (fail)
              have hv : Below wr.heap.size wr (wr.drewN nq) := below_drewN (Below.refl _ _) _
              generalize wr.drewN nq = w3 at hv ⊢
              replace HU := bel_step HU hv
              clear hv e0 e1 e2 e3 e4 e5 e6 e7 f0 f1 f2 f3 f4 f5 f6 f7 t2 s2 HB
              go_wp2
              go_roundw
              case rel => exact ⟨i + 1, by go_num, by omega, hq2, HU⟩
              case measure => simp [intOf]; omega
             ·have hdf : (⟨xr, xc, xrs, xcs, ⟨xx, xy, xw, xh⟩⟩ : Ce) ≠ ⟨xr, xc, xrs, xcs, ⟨xx, xy, xw, yh⟩⟩ := fun e => g7 (by injection e with _ _ _ _ e; injection e)
              have htf := hid (hD1.out hdf)
              clear hS hL hD1 hs2 hM1 hM2 hD hq hT HU
              go_upto_region 6 with fail
              go_quiet (fail)
              have hv : Below wr.heap.size wr (wr.drewN nq) := below_drewN (Below.refl _ _) _
              generalize wr.drewN nq = w3 at hv ⊢
              replace HB := bel_step HB hv
              clear hv e0 e1 e2 e3 e4 e5 e6 e7 f0 f1 f2 f3 f4 f5 f6 f7 t2 s2
              obtain rfl := htf.out
              go_wp2
              go_ret
              exact ⟨rfl, HB⟩
            ·have hdf : (⟨xr, xc, xrs, xcs, ⟨xx, xy, xw, xh⟩⟩ : Ce) ≠ ⟨xr, xc, xrs, xcs, ⟨xx, xy, yw, yh⟩⟩ := fun e => g6 (by injection e with _ _ _ _ e; injection e)
             have htf := hid (hD1.out hdf)
             clear hS hL hD1 hs2 hM1 hM2 hD hq hT HU
             go_upto_region 6 with fail
             go_quiet (fail)
             have hv : Below wr.heap.size wr (wr.drewN nq) := below_drewN (Below.refl _ _) _
             generalize wr.drewN nq = w3 at hv ⊢
             replace HB := bel_step HB hv
             clear hv e0 e1 e2 e3 e4 e5 e6 e7 f0 f1 f2 f3 f4 f5 f6 f7 t2 s2
             obtain rfl := htf.out
             go_wp2
             go_ret
             exact ⟨rfl, HB⟩
           ·have hdf : (⟨xr, xc, xrs, xcs, ⟨xx, xy, xw, xh⟩⟩ : Ce) ≠ ⟨xr, xc, xrs, xcs, ⟨xx, yy, yw, yh⟩⟩ := fun e => g5 (by injection e with _ _ _ _ e; injection e)
            have htf := hid (hD1.out hdf)
            clear hS hL hD1 hs2 hM1 hM2 hD hq hT HU
            go_upto_region 6 with fail
            go_quiet (fail)
            have hv : Below wr.heap.size wr (wr.drewN nq) := below_drewN (Below.refl _ _) _
            generalize wr.drewN nq = w3 at hv ⊢
            replace HB := bel_step HB hv
            clear hv e0 e1 e2 e3 e4 e5 e6 e7 f0 f1 f2 f3 f4 f5 f6 f7 t2 s2
            obtain rfl := htf.out
            go_wp2
            go_ret
            exact ⟨rfl, HB⟩
          ·have hdf : (⟨xr, xc, xrs, xcs, ⟨xx, xy, xw, xh⟩⟩ : Ce) ≠ ⟨xr, xc, xrs, xcs, ⟨yx, yy, yw, yh⟩⟩ := fun e => g4 (by injection e with _ _ _ _ e; injection e)
           have htf := hid (hD1.out hdf)
           clear hS hL hD1 hs2 hM1 hM2 hD hq hT HU
           go_upto_region 6 with fail
           go_quiet (fail)
           have hv : Below wr.heap.size wr (wr.drewN nq) := below_drewN (Below.refl _ _) _
           generalize wr.drewN nq = w3 at hv ⊢
           replace HB := bel_step HB hv
           clear hv e0 e1 e2 e3 e4 e5 e6 e7 f0 f1 f2 f3 f4 f5 f6 f7 t2 s2
           obtain rfl := htf.out
           go_wp2
           go_ret
           exact ⟨rfl, HB⟩
         ·have hdf : (⟨xr, xc, xrs, xcs, ⟨xx, xy, xw, xh⟩⟩ : Ce) ≠ ⟨xr, xc, xrs, ycs, ⟨yx, yy, yw, yh⟩⟩ := fun e => g3 (by injection e)
          have htf := hid (hD1.out hdf)
          clear hS hL hD1 hs2 hM1 hM2 hD hq hT HU
          go_upto_region 6 with fail
          go_quiet (fail)
          have hv : Below wr.heap.size wr (wr.drewN nq) := below_drewN (Below.refl _ _) _
          generalize wr.drewN nq = w3 at hv ⊢
          replace HB := bel_step HB hv
          clear hv e0 e1 e2 e3 e4 e5 e6 e7 f0 f1 f2 f3 f4 f5 f6 f7 t2 s2
          obtain rfl := htf.out
          go_wp2
          go_ret
          exact ⟨rfl, HB⟩
        ·have hdf : (⟨xr, xc, xrs, xcs, ⟨xx, xy, xw, xh⟩⟩ : Ce) ≠ ⟨xr, xc, yrs, ycs, ⟨yx, yy, yw, yh⟩⟩ := fun e => g2 (by injection e)
         have htf := hid (hD1.out hdf)
         clear hS hL hD1 hs2 hM1 hM2 hD hq hT HU
         go_upto_region 6 with fail
         go_quiet (fail)
         have hv : Below wr.heap.size wr (wr.drewN nq) := below_drewN (Below.refl _ _) _
         generalize wr.drewN nq = w3 at hv ⊢
         replace HB := bel_step HB hv
         clear hv e0 e1 e2 e3 e4 e5 e6 e7 f0 f1 f2 f3 f4 f5 f6 f7 t2 s2
         obtain rfl := htf.out
         go_wp2
         go_ret
         exact ⟨rfl, HB⟩
       ·have hdf : (⟨xr, xc, xrs, xcs, ⟨xx, xy, xw, xh⟩⟩ : Ce) ≠ ⟨xr, yc, yrs, ycs, ⟨yx, yy, yw, yh⟩⟩ := fun e => g1 (by injection e)
        have htf := hid (hD1.out hdf)
        clear hS hL hD1 hs2 hM1 hM2 hD hq hT HU
        go_upto_region 6 with fail
        go_quiet (fail)
        have hv : Below wr.heap.size wr (wr.drewN nq) := below_drewN (Below.refl _ _) _
        generalize wr.drewN nq = w3 at hv ⊢
        replace HB := bel_step HB hv
        clear hv e0 e1 e2 e3 e4 e5 e6 e7 f0 f1 f2 f3 f4 f5 f6 f7 t2 s2
        obtain rfl := htf.out
        go_wp2
        go_ret
        exact ⟨rfl, HB⟩
      ·have hdf : (⟨xr, xc, xrs, xcs, ⟨xx, xy, xw, xh⟩⟩ : Ce) ≠ ⟨yr, yc, yrs, ycs, ⟨yx, yy, yw, yh⟩⟩ := fun e => g0 (by injection e)
       have htf := hid (hD1.out hdf)
       clear hS hL hD1 hs2 hM1 hM2 hD hq hT HU
       go_upto_region 6 with fail
       go_quiet (fail)
       have hv : Below wr.heap.size wr (wr.drewN nq) := below_drewN (Below.refl _ _) _
       generalize wr.drewN nq = w3 at hv ⊢
       replace HB := bel_step HB hv
       clear hv e0 e1 e2 e3 e4 e5 e6 e7 f0 f1 f2 f3 f4 f5 f6 f7 t2 s2
       obtain rfl := htf.out
       go_wp2
       go_ret
       exact ⟨rfl, HB⟩
     ·obtain rfl : n = i := by omega
      obtain rfl := hS.out (hn.out.trans hk.out.symm) (fun j h1 h2 => hq.out j h1 h2 (by have := hn.out; omega))
      have hii : ¬ (n : Int) < (n : Int) := by omega
      clear hM1 hM2 hq hD hS hL hT
      go_wp2
      go_ret
      exact ⟨rfl, HB⟩
   ·obtain rfl := hL.out (by omega)
    have hni : ((n : Int) != (k : Int)) = true := by rw [bne, beq_eq_false_iff_ne.2 (by omega)]; rfl
    clear hL hD hS hM1 hM2 hn hk hr hcc
    go_enter Try.func11, Try.ntmps11
    go_upto_region 1 with fail
    refine enterR2 (P := fun u => Code.wp _ _ _ _ u) (c0 := [.int .i64 r1, .int .i64 c1, .slice A n c]) (c1 := [.int .i64 r2, .int .i64 c2, .slice B k d]) ?_
    intro u HB q0 q1 zn0 zn1 hsz
    have a0 : u.cell? ⟨w.heap.size, 0, none⟩ = some (.int .i64 r1) := q0 0 _ rfl
    have a1 : u.cell? ⟨w.heap.size, 1, none⟩ = some (.int .i64 c1) := q0 1 _ rfl
    have a2 : u.cell? ⟨w.heap.size, 2, none⟩ = some (.slice A n c) := q0 2 _ rfl
    have b0 : u.cell? ⟨w.heap.size + 1, 0, none⟩ = some (.int .i64 r2) := q1 0 _ rfl
    have b1 : u.cell? ⟨w.heap.size + 1, 1, none⟩ = some (.int .i64 c2) := q1 1 _ rfl
    have b2 : u.cell? ⟨w.heap.size + 1, 2, none⟩ = some (.slice B k d) := q1 2 _ rfl
    clear q0 q1 zn0 zn1 hsz
    go_wp2
    go_ret
    exact ⟨rfl, HB⟩
  ·obtain rfl := hcc.out hcx
   have hci : (c1 != c2) = true := by rw [bne, beq_eq_false_iff_ne.2 hcx]; rfl
   clear hL hD hS hM1 hM2 hn hk hr hcc
   clear hrr hcx
   go_enter Try.func11, Try.ntmps11
   go_upto_region 1 with fail
   refine enterR2 (P := fun u => Code.wp _ _ _ _ u) (c0 := [.int .i64 r1, .int .i64 c1, .slice A n c]) (c1 := [.int .i64 r2, .int .i64 c2, .slice B k d]) ?_
   intro u HB q0 q1 zn0 zn1 hsz
   have a0 : u.cell? ⟨w.heap.size, 0, none⟩ = some (.int .i64 r1) := q0 0 _ rfl
   have a1 : u.cell? ⟨w.heap.size, 1, none⟩ = some (.int .i64 c1) := q0 1 _ rfl
   have a2 : u.cell? ⟨w.heap.size, 2, none⟩ = some (.slice A n c) := q0 2 _ rfl
   have b0 : u.cell? ⟨w.heap.size + 1, 0, none⟩ = some (.int .i64 r2) := q1 0 _ rfl
   have b1 : u.cell? ⟨w.heap.size + 1, 1, none⟩ = some (.int .i64 c2) := q1 1 _ rfl
   have b2 : u.cell? ⟨w.heap.size + 1, 2, none⟩ = some (.slice B k d) := q1 2 _ rfl
   clear q0 q1 zn0 zn1 hsz
   go_wp2
   go_ret
   exact ⟨rfl, HB⟩
 ·obtain rfl := hr.out hrr
  have hri : (r1 != r2) = true := by rw [bne, beq_eq_false_iff_ne.2 hrr]; rfl
  clear hL hD hS hM1 hM2 hn hk hr hcc hrr
  go_enter Try.func11, Try.ntmps11
  go_upto_region 1 with fail
  refine enterR2 (P := fun u => Code.wp _ _ _ _ u) (c0 := [.int .i64 r1, .int .i64 c1, .slice A n c]) (c1 := [.int .i64 r2, .int .i64 c2, .slice B k d]) ?_
  intro u HB q0 q1 zn0 zn1 hsz
  have a0 : u.cell? ⟨w.heap.size, 0, none⟩ = some (.int .i64 r1) := q0 0 _ rfl
  have a1 : u.cell? ⟨w.heap.size, 1, none⟩ = some (.int .i64 c1) := q0 1 _ rfl
  have a2 : u.cell? ⟨w.heap.size, 2, none⟩ = some (.slice A n c) := q0 2 _ rfl
  have b0 : u.cell? ⟨w.heap.size + 1, 0, none⟩ = some (.int .i64 r2) := q1 0 _ rfl
  have b1 : u.cell? ⟨w.heap.size + 1, 1, none⟩ = some (.int .i64 c2) := q1 1 _ rfl
  have b2 : u.cell? ⟨w.heap.size + 1, 2, none⟩ = some (.slice B k d) := q1 2 _ rfl
  clear q0 q1 zn0 zn1 hsz
  go_wp2
  go_ret
  exact ⟨rfl, HB⟩
end Go.Proofs.Ytjfgklhifhaaoaa
