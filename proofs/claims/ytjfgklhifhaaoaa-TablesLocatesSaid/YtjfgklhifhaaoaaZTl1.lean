/- Tables: the law Locates. Conditions: none. -/
import Derived.Test.YtjfgklhifhaaoaaZTw27
set_option linter.unusedVariables false
set_option linter.unusedSimpArgs false
namespace Go.Proofs.Ytjfgklhifhaaoaa
open Go.RowKit
theorem hit_out {b : Bx} {x y : Int} (h : ¬ ((-1073741824 ≤ x ∧ x ≤ 1073741824) ∧ -1073741824 ≤ y ∧ y ≤ 1073741824)) : hitB b x y = false := hitB_no fun hh => by
 obtain ⟨h1, -⟩ := hh
 simp only [Bool.and_eq_true, nrB_iff] at h1
 omega
theorem hit_not {b : Bx} {x y : Int} (h : ¬ (0 < b.w ∧ 0 < b.h ∧ b.x ≤ x ∧ x < b.x + b.w ∧ b.y ≤ y ∧ y < b.y + b.h)) : hitB b x y = false := hitB_no fun hh => by
 obtain ⟨-, h1⟩ := hh
 omega
theorem hit_yes {b : Bx} {x y : Int} (hx : -1073741824 ≤ x ∧ x ≤ 1073741824) (hy : -1073741824 ≤ y ∧ y ≤ 1073741824) (h1 : -1073741824 ≤ b.x ∧ b.x ≤ 1073741824) (h2 : -1073741824 ≤ b.y ∧ b.y ≤ 1073741824) (h3 : b.w ≤ 1073741824) (h4 : b.h ≤ 1073741824)
  (h : 0 < b.w ∧ 0 < b.h ∧ b.x ≤ x ∧ x < b.x + b.w ∧ b.y ≤ y ∧ y < b.y + b.h) : hitB b x y = true := hitB_yes ⟨by
 simp only [Bool.and_eq_true, nrB_iff]
 omega, by omega⟩
set_option maxRecDepth 100000 in
set_option maxHeartbeats 8000000 in
theorem Locates_law (r k : Int) (l : List Ce) (A : Option Addr) (c : Nat) (x y : Int) {w : World} (hl : CeK.Rd w A c l) :
  Calls Try.prog 4 #[.agg #[.int .i64 r, .int .i64 k, .slice A l.length c], .agg #[.int .i64 x, .int .i64 y]] w (RetB w true) := by
 obtain ⟨E, hE⟩ : ∃ q, locE l x y = q := ⟨_, rfl⟩
 have hE0 := hid fun (h4 : l.length ≤ 100) (i : Nat) (hi : i < l.length) (ht : hitB l[i].b x y = true) (hb : ∀ j (hj : j < l.length), j < i → hitB l[j].b x y = false) => hE.symm.trans (locE_at (by omega) hi ht hb)
 have hE1 := hid fun (h4 : l.length ≤ 100) (hb : ∀ j (hj : j < l.length), hitB l[j].b x y = false) => hE.symm.trans (locE_no (by omega) hb)
 have hC := hid fun (W : World) (hb : Below w.heap.size w W) => (show Calls Try.prog 13 #[.agg #[.int .i64 r, .int .i64 k, .slice A l.length c], .agg #[.int .i64 x, .int .i64 y]] W (RetNE W E) from by rw [← hE]; exact TLoc_g r k l A c x y (hl.below hb))
 obtain ⟨n, hn⟩ : ∃ n, l.length = n := ⟨_, rfl⟩
 have hM := hid fun (j : Nat) (hj : j < n) (W : World) (hb : Below w.heap.size w W) => (hl.below hb).at_ (j := j) (by omega)
 have cc := Nat.le_trans hl.cap hl.max
 rw [hn] at cc hC ⊢
 have hE1' := hid fun (h4 : n ≤ 100) hb => hE1.out (by omega) hb
 have hE0' := hid fun (h4 : n ≤ 100) i hi ht hb => hE0.out (by omega) i hi ht hb
 replace hn := hid hn
 clear hl hE hE0 hE1
 go_enter Try.func4, Try.ntmps4
 go_upto_region 1 with fail
 refine enterR2 (P := fun u => Code.wp _ _ _ _ u) (c0 := [.int .i64 r, .int .i64 k, .slice A n c]) (c1 := [.int .i64 x, .int .i64 y]) ?_
 intro u HB r0 r1 zn0 zn1 hsz
 have a0 : u.cell? ⟨w.heap.size, 0, none⟩ = some (.int .i64 r) := r0 0 _ rfl
 have a1 : u.cell? ⟨w.heap.size, 1, none⟩ = some (.int .i64 k) := r0 1 _ rfl
 have a2 : u.cell? ⟨w.heap.size, 2, none⟩ = some (.slice A n c) := r0 2 _ rfl
 have b0 : u.cell? ⟨w.heap.size + 1, 0, none⟩ = some (.int .i64 x) := r1 0 _ rfl
 have b1 : u.cell? ⟨w.heap.size + 1, 1, none⟩ = some (.int .i64 y) := r1 1 _ rfl
 clear r0 r1 zn0 zn1 hsz
 by_cases h4 : 100 < n
 ·have h4i : (100 : Int) < (n : Int) := by omega
  clear hE0' hE1' hM hC
  go_wp2_with fail
  refine (alive_ok _).mono ?_
  rintro e wa ⟨rfl, hva⟩
  replace HB := bel_step HB hva
  go_wp2
  go_ret
  exact ⟨rfl, HB⟩
 ·have h4i : ¬ (100 : Int) < (n : Int) := by omega
  have hE0 := hid (hE0'.out (by omega))
  have hE1 := hid (hE1'.out (by omega))
  have hC2 := hid (hC.out u HB)
  clear hE0' hE1' hC
  go_wp2_with fail
  refine hC2.out.mono ?_
  rintro e u2 ⟨rfl, hv⟩
  replace HB := bel_step HB hv
  replace a2 := keep_cell hv a2
  replace b0 := keep_cell hv b0
  replace b1 := keep_cell hv b1
  clear hC2 hv a0 a1
  obtain ⟨E1, E2⟩ := E
  dsimp only
  by_cases hr : (-1073741824 ≤ x ∧ x ≤ 1073741824) ∧ -1073741824 ≤ y ∧ y ≤ 1073741824
  ·obtain ⟨⟨hx1, hx2⟩, hy1, hy2⟩ := hr
   have nx1 : ¬ x < -1073741824 := by omega
   have nx2 : ¬ 1073741824 < x := by omega
   have ny1 : ¬ y < -1073741824 := by omega
   have ny2 : ¬ 1073741824 < y := by omega
   have hG := hid fun (W : World) (hb : Below u2.heap.size u2 W) => (show W.cell? ⟨w.heap.size, 2, none⟩ = some (.slice A n c) ∧ (W.cell? ⟨w.heap.size + 1, 0, none⟩ = some (.int .i64 x) ∧ W.cell? ⟨w.heap.size + 1, 1, none⟩ = some (.int .i64 y)) ∧ Below w.heap.size w W from ⟨keep_cell hb a2, ⟨keep_cell hb b0, keep_cell hb b1⟩, bel_step HB hb⟩)
   clear HB
   go_wp2
   clear a2 b0 b1
   go_loopw [51] (fun s51 wr => ∃ i : Nat, s51 = .int .i64 (i : Int) ∧ i ≤ n ∧ Hid (∀ j (hj : j < l.length), j < i → hitB l[j].b x y = false) ∧ Below u2.heap.size u2 wr) (fun s51 _ => n - (intOf s51).toNat)
   case atStart => exact ⟨0, rfl, by omega, fun j _ h => by omega, Below.refl _ _⟩
   case round =>
    obtain ⟨i, rfl, hi, hA, HU⟩ := hrel
    obtain ⟨a2, ⟨b0, b1⟩, HB⟩ := hG.out wr HU
    by_cases hin : i < n
    ·have hii : (i : Int) < (n : Int) := by omega
     have hil : i < l.length := by have := hn.out; omega
     obtain ⟨b, o, hA3, hc⟩ := hM.out i hin wr HB
     have e4 : wr.cell? ⟨b, o + i * 8 + 4, none⟩ = some (.int .i64 l[i].b.x) := hc 4 _ rfl
     have e5 : wr.cell? ⟨b, o + i * 8 + 5, none⟩ = some (.int .i64 l[i].b.y) := hc 5 _ rfl
     have e6 : wr.cell? ⟨b, o + i * 8 + 6, none⟩ = some (.int .i64 l[i].b.w) := hc 6 _ rfl
     have e7 : wr.cell? ⟨b, o + i * 8 + 7, none⟩ = some (.int .i64 l[i].b.h) := hc 7 _ rfl
     subst hA3
     have hst := hid fun (h : hitB l[i].b x y = false) j (hj : j < l.length) (hji : j < i + 1) => (show hitB l[j].b x y = false from by
      by_cases e : j = i
      ·subst e; exact h
      ·exact hA.out j hj (by omega))
     have hyes0 := hid fun (h : hitB l[i].b x y = true) => hE0.out i hil h (fun j hj hji => hA.out j hj hji)
     clear hc
     generalize l[i].b = q at *
     obtain ⟨bx, by_, bw, bh⟩ := q
     dsimp only at e4 e5 e6 e7
     have hno := hid fun (h : ¬ (0 < bw ∧ 0 < bh ∧ bx ≤ x ∧ x < bx + bw ∧ by_ ≤ y ∧ y < by_ + bh)) => hst.out (hit_not (b := ⟨bx, by_, bw, bh⟩) (x := x) (y := y) h)
     have hyes := hid fun (h1 : -1073741824 ≤ bx ∧ bx ≤ 1073741824) (h2 : -1073741824 ≤ by_ ∧ by_ ≤ 1073741824) (h3 : bw ≤ 1073741824) (h4 : bh ≤ 1073741824) h => hyes0.out (hit_yes (b := ⟨bx, by_, bw, bh⟩) ⟨hx1, hx2⟩ ⟨hy1, hy2⟩ h1 h2 h3 h4 h)
     clear hst hyes0
     go_upto_region 10 with fail
     refine enterR (P := fun u => Code.wp _ _ _ _ u) (c := [.int .i64 bx, .int .i64 by_, .int .i64 bw, .int .i64 bh]) ?_
     intro v hv s0 zv hsv
     have d0 : v.cell? ⟨wr.heap.size, 0, none⟩ = some (.int .i64 bx) := s0 0 _ rfl
     have d1 : v.cell? ⟨wr.heap.size, 1, none⟩ = some (.int .i64 by_) := s0 1 _ rfl
     have d2 : v.cell? ⟨wr.heap.size, 2, none⟩ = some (.int .i64 bw) := s0 2 _ rfl
     have d3 : v.cell? ⟨wr.heap.size, 3, none⟩ = some (.int .i64 bh) := s0 3 _ rfl
     replace b0 := keep_cell hv b0
     replace b1 := keep_cell hv b1
     replace HU := bel_step HU hv
     replace HB := bel_step HB hv
     clear s0 zv hsv hv a2 e4 e5 e6 e7
     by_cases g1 : bx < -1073741824
     ·skip
      clear hA hno hyes hE0 hE1 hM hG HU
      go_wp2_with fail
      refine (alive_ok _).mono ?_
      rintro e wa ⟨rfl, hva⟩
      replace HB := bel_step HB hva
      go_wp2
      go_ret
      exact ⟨rfl, HB⟩
     ·have g1n : ¬ bx < -1073741824 := g1
      by_cases g2 : 1073741824 < bx
      ·skip
       clear hA hno hyes hE0 hE1 hM hG HU
       go_wp2_with fail
       refine (alive_ok _).mono ?_
       rintro e wa ⟨rfl, hva⟩
       replace HB := bel_step HB hva
       go_wp2
       go_ret
       exact ⟨rfl, HB⟩
      ·have g2n : ¬ 1073741824 < bx := g2
       by_cases g3 : by_ < -1073741824
       ·skip
        clear hA hno hyes hE0 hE1 hM hG HU
        go_wp2_with fail
        refine (alive_ok _).mono ?_
        rintro e wa ⟨rfl, hva⟩
        replace HB := bel_step HB hva
        go_wp2
        go_ret
        exact ⟨rfl, HB⟩
       ·have g3n : ¬ by_ < -1073741824 := g3
        by_cases g4 : 1073741824 < by_
        ·skip
         clear hA hno hyes hE0 hE1 hM hG HU
         go_wp2_with fail
         refine (alive_ok _).mono ?_
         rintro e wa ⟨rfl, hva⟩
         replace HB := bel_step HB hva
         go_wp2
         go_ret
         exact ⟨rfl, HB⟩
        ·have g4n : ¬ 1073741824 < by_ := g4
         by_cases g5 : 1073741824 < bw
         ·skip
          clear hA hno hyes hE0 hE1 hM hG HU
          go_wp2_with fail
          refine (alive_ok _).mono ?_
          rintro e wa ⟨rfl, hva⟩
          replace HB := bel_step HB hva
          go_wp2
          go_ret
          exact ⟨rfl, HB⟩
         ·have g5n : ¬ 1073741824 < bw := g5
          by_cases g6 : 1073741824 < bh
          ·skip
           clear hA hno hyes hE0 hE1 hM hG HU
           go_wp2_with fail
           refine (alive_ok _).mono ?_
           rintro e wa ⟨rfl, hva⟩
           replace HB := bel_step HB hva
           go_wp2
           go_ret
           exact ⟨rfl, HB⟩
          ·have g6n : ¬ 1073741824 < bh := g6
           clear g1 g2 g3 g4 g5 g6
           by_cases q1 : 0 < bw
           ·skip
            have w1 : IntKind.i64.wrap (bx + bw) = bx + bw := by rw [IntKind.wrap_i64]; omega
            by_cases q2 : 0 < bh
            ·skip
             have w2 : IntKind.i64.wrap (by_ + bh) = by_ + bh := by rw [IntKind.wrap_i64]; omega
             by_cases q3 : bx ≤ x
             ·skip
              by_cases q4 : x < bx + bw
              ·skip
               by_cases q5 : by_ ≤ y
               ·skip
                by_cases q6 : y < by_ + bh
                ·skip
                 obtain ⟨rfl, rfl⟩ := Prod.mk.inj (hyes.out (by omega) (by omega) (by omega) (by omega) ⟨q1, q2, q3, q4, q5, q6⟩)
                 have hiq : ((i : Int) == (i : Int)) = true := beq_self_eq_true _
                 clear hA hno hyes hE0 hE1 hM hG HU
                 go_wp2_with fail
                 refine (alive_ok _).mono ?_
                 rintro e wa ⟨rfl, hva⟩
                 replace HB := bel_step HB hva
                 go_wp2
                 go_ret
                 exact ⟨rfl, HB⟩
                ·skip
                 have hA2 := hid (hno.out (by omega))
                 clear hA hno hyes hE0 hE1 hM hG HB
                 go_wp2
                 go_roundw
                 case rel => exact ⟨i + 1, by go_num, by omega, hA2, HU⟩
                 case measure => simp [intOf]; omega
               ·skip
                have hA2 := hid (hno.out (by omega))
                clear hA hno hyes hE0 hE1 hM hG HB
                go_wp2
                go_roundw
                case rel => exact ⟨i + 1, by go_num, by omega, hA2, HU⟩
                case measure => simp [intOf]; omega
              ·skip
               have hA2 := hid (hno.out (by omega))
               clear hA hno hyes hE0 hE1 hM hG HB
               go_wp2
               go_roundw
               case rel => exact ⟨i + 1, by go_num, by omega, hA2, HU⟩
               case measure => simp [intOf]; omega
             ·skip
              have hA2 := hid (hno.out (by omega))
              clear hA hno hyes hE0 hE1 hM hG HB
              go_wp2
              go_roundw
              case rel => exact ⟨i + 1, by go_num, by omega, hA2, HU⟩
              case measure => simp [intOf]; omega
            ·skip
             have hA2 := hid (hno.out (by omega))
             clear hA hno hyes hE0 hE1 hM hG HB
             go_wp2
             go_roundw
             case rel => exact ⟨i + 1, by go_num, by omega, hA2, HU⟩
             case measure => simp [intOf]; omega
           ·skip
            have hA2 := hid (hno.out (by omega))
            clear hA hno hyes hE0 hE1 hM hG HB
            go_wp2
            go_roundw
            case rel => exact ⟨i + 1, by go_num, by omega, hA2, HU⟩
            case measure => simp [intOf]; omega
    ·obtain rfl : n = i := by omega
     obtain ⟨rfl, rfl⟩ := Prod.mk.inj (hE1.out fun j hj => hA.out j hj (by have := hn.out; omega))
     have hii : ¬ (n : Int) < (n : Int) := by omega
     clear hA hE0 hE1 hM hG
     go_wp2_with fail
     refine (alive_ok _).mono ?_
     rintro e wa ⟨rfl, hva⟩
     replace HB := bel_step HB hva
     go_wp2
     go_ret
     exact ⟨rfl, HB⟩
  ·obtain ⟨rfl, rfl⟩ := Prod.mk.inj (hE1.out fun j hj => hit_out hr)
   clear hE0 hE1 hM
   by_cases g1 : x < -1073741824
   ·skip
    go_wp2_with fail
    refine (alive_ok _).mono ?_
    rintro e wa ⟨rfl, hva⟩
    replace HB := bel_step HB hva
    go_wp2
    go_ret
    exact ⟨rfl, HB⟩
   ·by_cases g2 : 1073741824 < x
    ·skip
     go_wp2_with fail
     refine (alive_ok _).mono ?_
     rintro e wa ⟨rfl, hva⟩
     replace HB := bel_step HB hva
     go_wp2
     go_ret
     exact ⟨rfl, HB⟩
    ·by_cases g3 : y < -1073741824
     ·skip
      go_wp2_with fail
      refine (alive_ok _).mono ?_
      rintro e wa ⟨rfl, hva⟩
      replace HB := bel_step HB hva
      go_wp2
      go_ret
      exact ⟨rfl, HB⟩
     ·have g4 : 1073741824 < y := by omega
      go_wp2_with fail
      refine (alive_ok _).mono ?_
      rintro e wa ⟨rfl, hva⟩
      replace HB := bel_step HB hva
      go_wp2
      go_ret
      exact ⟨rfl, HB⟩
end Go.Proofs.Ytjfgklhifhaaoaa
