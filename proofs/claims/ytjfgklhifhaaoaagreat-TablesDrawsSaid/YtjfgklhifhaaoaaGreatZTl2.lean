/- Tables: the law Draws. Conditions: none. -/
import Derived.Test.YtjfgklhifhaaoaaGreatZTw27
import Derived.Test.YtjfgklhifhaaoaaGreatZTr2
import Derived.Test.YtjfgklhifhaaoaaGreatZTr3
import Derived.Test.YtjfgklhifhaaoaaGreatZTr4
import Derived.Test.YtjfgklhifhaaoaaGreatZTr5
set_option linter.unusedVariables false
set_option linter.unusedSimpArgs false
namespace Go.Proofs.YtjfgklhifhaaoaaGreat
open Go.RowKit
theorem own_none {u : World} : InK.Own (u.alloc (.cells #[] 3)) u.heap.size (.slice (some ⟨u.heap.size, 0, none⟩) 0 0) [] :=
 ⟨rfl, .inr ⟨u.heap.size, 0, #[], rfl, Nat.le_refl _, by show (u.heap.push _)[u.heap.size]? = _; simp; rfl, Nat.le_refl _, by unfold maxLen; omega, rfl, rfl⟩⟩
set_option maxRecDepth 100000 in
set_option maxHeartbeats 8000000 in
theorem Draws_law (ws hs : List Int) (A B : Option Addr) (ca cb : Nat) (t r k : Int) (l : List Ce) (C : Option Addr) (cc : Nat) (x y : Int) {w : World} (hws : InK.Rd w A ca ws) (hhs : InK.Rd w B cb hs) (hl : CeK.Rd w C cc l) :
  Calls Tryz.prog 5 #[.slice A ws.length ca, .slice B hs.length cb, .agg #[.int .i64 t, .int .i64 r, .int .i64 k, .slice C l.length cc, .int .i64 x, .int .i64 y]] w (RetB w true) := by
 obtain ⟨n, hn⟩ : ∃ n, ws.length = n := ⟨_, rfl⟩
 obtain ⟨m, hm⟩ : ∃ n, hs.length = n := ⟨_, rfl⟩
 obtain ⟨q, hq⟩ : ∃ n, l.length = n := ⟨_, rfl⟩
 obtain ⟨X, hX⟩ : ∃ q, drwE ws hs t = q := ⟨_, rfl⟩
 obtain ⟨Y, hY⟩ : ∃ q, locE l x y = q := ⟨_, rfl⟩
 have hc1 := Nat.le_trans hws.cap hws.max
 have hc2 := Nat.le_trans hhs.cap hhs.max
 have hc3 := Nat.le_trans hl.cap hl.max
 have H1 := hid fun (h1 : n ≤ 20) (h2 : m ≤ 20) (W : World) (hb : Below w.heap.size w W) => (show Calls Tryz.prog 17 #[.slice A n ca, .slice B m cb, .int .i64 t] W (RetBE W X) from by
  rw [← hn, ← hm, ← hX]; exact TDraw_g ws hs A B ca cb t (hws.below hb) (hhs.below hb) (by omega))
 have H2 := hid fun (h1 : n ≤ 20) (h2 : m ≤ 20) (W : World) (hb : Below w.heap.size w W) => (show Calls Tryz.prog 18 #[.slice A n ca, .slice B m cb, .int .i64 t] W (RetBE W X) from by
  rw [← hn, ← hm, ← hX, drwE_R]; exact RDraw_g ws hs A B ca cb t (hws.below hb) (hhs.below hb) (by omega))
 have H3 := hid fun (W : World) (hb : Below w.heap.size w W) => (show Calls Tryz.prog 19 #[.agg #[.int .i64 r, .int .i64 k, .slice C q cc], .agg #[.int .i64 x, .int .i64 y]] W (RetNE W Y) from by
  rw [← hq, ← hY]; exact TLoc_g r k l C cc x y (hl.below hb))
 have H4 := hid fun (W : World) (hb : Below w.heap.size w W) => (show Calls Tryz.prog 20 #[.agg #[.int .i64 r, .int .i64 k, .slice C q cc], .agg #[.int .i64 x, .int .i64 y]] W (RetNE W Y) from by
  rw [← hq, ← hY]; exact RLoc_g r k l C cc x y (hl.below hb))
 have hR1 := hid fun (W : World) (hb : Below w.heap.size w W) => hws.below hb
 have hR2 := hid fun (W : World) (hb : Below w.heap.size w W) => hhs.below hb
 obtain ⟨⟨W0, H0, D0⟩, E0⟩ := X
 obtain ⟨Y1, Y2⟩ := Y
 rw [hn] at hc1 ⊢
 rw [hm] at hc2 ⊢
 rw [hq] at hc3 ⊢
 replace hn := hid hn
 replace hm := hid hm
 clear hws hhs hl hX hY hq
 go_enter Tryz.func5, Tryz.ntmps5
 go_upto_region 1 with fail
 refine enterR (P := fun u => Code.wp _ _ _ _ u) (c := [.int .i64 t, .int .i64 r, .int .i64 k, .slice C q cc, .int .i64 x, .int .i64 y]) ?_
 intro u HB r0 zn0 hsz
 have a0 : u.cell? ⟨w.heap.size, 0, none⟩ = some (.int .i64 t) := r0 0 _ rfl
 have a1 : u.cell? ⟨w.heap.size, 1, none⟩ = some (.int .i64 r) := r0 1 _ rfl
 have a2 : u.cell? ⟨w.heap.size, 2, none⟩ = some (.int .i64 k) := r0 2 _ rfl
 have a3 : u.cell? ⟨w.heap.size, 3, none⟩ = some (.slice C q cc) := r0 3 _ rfl
 have a4 : u.cell? ⟨w.heap.size, 4, none⟩ = some (.int .i64 x) := r0 4 _ rfl
 have a5 : u.cell? ⟨w.heap.size, 5, none⟩ = some (.int .i64 y) := r0 5 _ rfl
 clear r0 zn0 hsz
 by_cases g1 : 20 < n
 ·have g1i : (20 : Int) < (n : Int) := by omega
  clear H1 H2 H3 H4 hR1 hR2
  go_wp2_with fail
  refine (alive_ok _).mono ?_
  rintro e wa ⟨rfl, hva⟩
  replace HB := bel_step HB hva
  go_wp2
  go_ret
  exact ⟨rfl, HB⟩
 ·have g1i : ¬ (20 : Int) < (n : Int) := by omega
  by_cases g2 : 20 < m
  ·have g2i : (20 : Int) < (m : Int) := by omega
   clear H1 H2 H3 H4 hR1 hR2
   go_wp2_with fail
   refine (alive_ok _).mono ?_
   rintro e wa ⟨rfl, hva⟩
   replace HB := bel_step HB hva
   go_wp2
   go_ret
   exact ⟨rfl, HB⟩
  ·have g2i : ¬ (20 : Int) < (m : Int) := by omega
   by_cases g3 : 20 < t ∧ t ≤ 4096
   ·obtain ⟨g3a, g3b⟩ := g3
    clear H1 H2 H3 H4 hR1 hR2
    go_wp2_with fail
    refine (alive_ok _).mono ?_
    rintro e wa ⟨rfl, hva⟩
    replace HB := bel_step HB hva
    go_wp2
    go_ret
    exact ⟨rfl, HB⟩
   ·by_cases g4 : 100 < q
    ·have g4i : (100 : Int) < (q : Int) := by omega
     clear H1 H2 H3 H4 hR1 hR2
     by_cases g5 : 20 < t
     ·have g6 : ¬ t ≤ 4096 := by omega
      go_wp2_with fail
      refine (alive_ok _).mono ?_
      rintro e wa ⟨rfl, hva⟩
      replace HB := bel_step HB hva
      go_wp2
      go_ret
      exact ⟨rfl, HB⟩
     ·skip
      go_wp2_with fail
      refine (alive_ok _).mono ?_
      rintro e wa ⟨rfl, hva⟩
      replace HB := bel_step HB hva
      go_wp2
      go_ret
      exact ⟨rfl, HB⟩
    ·have g4i : ¬ (100 : Int) < (q : Int) := by omega
     replace H1 := hid (H1.out (by omega) (by omega))
     replace H2 := hid (H2.out (by omega) (by omega))
     go_cut [41] (fun s41 wx => s41 = .bool false ∧ wx = u)
     case first =>
      by_cases g5 : 20 < t
      ·have g6 : ¬ t ≤ 4096 := by omega
       go_wp2_with fail
       go_meet
       exact ⟨rfl, rfl⟩
      ·go_wp2_with fail
       go_meet
       exact ⟨rfl, rfl⟩
     case rest =>
      obtain ⟨rfl, rfl⟩ := hcut
      clear g1i g2i g4i g3
      go_upto_region 3 with fail
      have hBA : Below wc.heap.size wc (wc.alloc (.cells #[] 3)) := (Below.refl _ _).alloc (Nat.le_refl _) _
      have hBA2 := bel_step HB hBA
      have hus := HB.size
      have hO0 : InK.Own (wc.alloc (.cells #[] 3)) wc.heap.size (.slice (some ⟨wc.heap.size, 0, none⟩) 0 0) [] := own_none
      have hw1 := hR1.out _ hBA2
      have hwl : ws.length ≤ 100000000 := by have := hn.out; omega
      have hhl : hs.length ≤ 100000000 := by have := hm.out; omega
      have hll : ([] ++ ws : List Int).length ≤ 100000000 := by simpa using hwl
      go_wp2_with (at_builtin; first | (refine Knd.appr InKo rfl (.tmp 43) (.tmp 44) rfl wc.heap.size _ A n ca [] ws rfl hO0 rfl hn.out hw1 (by simp) hwl (by simp) ?_; intro v1 w1 hO1 hg1 hat1; have hb1 := Knd.grown hBA hO0 hg1 (by simp) (Nat.le_refl _); have hw2 := hR2.out _ (bel_step HB hb1); have hs1 := hb1.size) | (refine Knd.appr InKo rfl (.tmp 45) (.tmp 46) rfl wc.heap.size v1 B m cb ([] ++ ws) hs rfl hO1 rfl hm.out hw2 hll hhl hs1 ?_; intro v2 w2 hO2 hg2 hat2; have hb2 := Knd.grown hb1 hO1 hg2 hs1 (Nat.le_refl _); obtain ⟨A5, c5, rfl⟩ := hO2.form InKo; obtain ⟨hr5, -⟩ := hO2.rd2 InKo; have hL5 : (([] ++ ws) ++ hs : List Int).length = n + m := (by rw [List.length_append, List.nil_append, hn.out, hm.out]); rw [hL5]))
      generalize [] ++ ws ++ hs = L at *
      have HB2 := bel_step HB hb2
      have cL := hr5.max
      have hcL := hr5.cap
      rw [hL5] at hcL
      have hM := hid fun (j : Nat) (hj : j < n + m) => hr5.at_ (j := j) (by rw [hL5]; exact hj)
      replace a0 := keep_cell hb2 a0
      replace a1 := keep_cell hb2 a1
      replace a2 := keep_cell hb2 a2
      replace a3 := keep_cell hb2 a3
      replace a4 := keep_cell hb2 a4
      replace a5 := keep_cell hb2 a5
      clear hg1 hg2 hat1 hat2 hO0 hO1 hO2 hw1 hw2 hb1 hb2 hBA hBA2 hr5 hwl hhl hll hR1 hR2 hs1 hus HB
      have hnm : n + m ≤ 40 := by omega
      replace hL5 := hid hL5
      rw [show (n : Int) + (m : Int) = ((n + m : Nat) : Int) by omega]
      generalize n + m = N at *
      go_loopw [49] (fun s49 wr => ∃ i : Nat, s49 = .int .i64 i ∧ i ≤ N ∧ wr = w2) (fun s49 _ => N - (intOf s49).toNat)
      case atStart => exact ⟨0, rfl, by omega, rfl⟩
      case round =>
       obtain ⟨i, rfl, hi, hwr⟩ := hrel
       rw [hwr]
       clear hwr wr
       by_cases hin : i < N
       ·have hii : (i : Int) < (N : Int) := by omega
        obtain ⟨b, o, hA3, hc⟩ := hM.out i hin
        have e0 : w2.cell? ⟨b, o + i * 1, none⟩ = some (.int .i64 (L[i]'(by have := hL5.out; omega))) := hc 0 _ rfl
        rw [Nat.mul_one] at e0
        subst hA3
        clear hc
        generalize L[i]'(by have := hL5.out; omega) = z at *
        have HB := HB2
        by_cases z1 : 200 < z
        ·by_cases z2 : z ≤ 4096
         ·clear H1 H2 H3 H4 hM
          go_wp2_with fail
          refine (alive_ok _).mono ?_
          rintro e wa ⟨rfl, hva⟩
          replace HB := bel_step HB hva
          go_wp2
          go_ret
          exact ⟨rfl, HB⟩
         ·clear H1 H2 H3 H4 hM HB
          go_wp2
          go_roundw
          case rel => exact ⟨i + 1, by go_num, by omega, by first | rfl | trivial⟩
          case measure => simp [intOf]; omega
        ·clear H1 H2 H3 H4 hM HB
         go_wp2
         go_roundw
         case rel => exact ⟨i + 1, by go_num, by omega, by first | rfl | trivial⟩
         case measure => simp [intOf]; omega
       ·obtain rfl : i = N := by omega
        have hii : ¬ (i : Int) < (i : Int) := by omega
        clear hM hL5
        go_wp2_with fail
        refine (H1.out w2 HB2).mono ?_
        rintro e v3 ⟨A1, c1, rfl, hr1, hv⟩
        have HB := bel_step HB2 hv
        replace a0 := keep_cell hv a0
        replace a1 := keep_cell hv a1
        replace a2 := keep_cell hv a2
        replace a3 := keep_cell hv a3
        replace a4 := keep_cell hv a4
        replace a5 := keep_cell hv a5
        clear HB2 hv H1
        dsimp only at hr1
        have hd1 := Nat.le_trans hr1.cap hr1.max
        obtain ⟨nd, hnd⟩ : ∃ x, D0.length = x := ⟨_, rfl⟩
        dsimp only
        rw [hnd] at hd1 ⊢
        go_upto_region 10 with fail
        refine enterR (P := fun u => Code.wp _ _ _ _ u) (c := [.int .i64 W0, .int .i64 H0, .slice A1 nd c1]) ?_
        intro v4 hv r0 zn0 hsz
        have HB := bel_step HB hv
        have b0 : v4.cell? ⟨v3.heap.size, 0, none⟩ = some (.int .i64 W0) := r0 0 _ rfl
        have b1 : v4.cell? ⟨v3.heap.size, 1, none⟩ = some (.int .i64 H0) := r0 1 _ rfl
        have b2 : v4.cell? ⟨v3.heap.size, 2, none⟩ = some (.slice A1 nd c1) := r0 2 _ rfl
        replace hr1 := hr1.below hv
        replace a0 := keep_cell hv a0
        replace a1 := keep_cell hv a1
        replace a2 := keep_cell hv a2
        replace a3 := keep_cell hv a3
        replace a4 := keep_cell hv a4
        replace a5 := keep_cell hv a5
        clear r0 zn0 hsz hv
        obtain ⟨g1, hg1⟩ : ∃ g, v3.heap.size = g := ⟨_, rfl⟩
        rw [hg1] at b0 b1 b2 ⊢
        clear hg1
        go_wp2_with fail
        refine (H2.out v4 HB).mono ?_
        rintro e v5 ⟨A2, c2, rfl, hr2, hv⟩
        have HB := bel_step HB hv
        replace hr1 := hr1.below hv
        replace a0 := keep_cell hv a0
        replace a1 := keep_cell hv a1
        replace a2 := keep_cell hv a2
        replace a3 := keep_cell hv a3
        replace a4 := keep_cell hv a4
        replace a5 := keep_cell hv a5
        replace b0 := keep_cell hv b0
        replace b1 := keep_cell hv b1
        replace b2 := keep_cell hv b2
        clear hv H2
        dsimp only at hr2
        have hd2 := Nat.le_trans hr2.cap hr2.max
        dsimp only
        rw [hnd] at hd2 ⊢
        go_upto_region 11 with fail
        refine enterR (P := fun u => Code.wp _ _ _ _ u) (c := [.int .i64 W0, .int .i64 H0, .slice A2 nd c2]) ?_
        intro v6 hv r0 zn0 hsz
        have HB := bel_step HB hv
        have d0 : v6.cell? ⟨v5.heap.size, 0, none⟩ = some (.int .i64 W0) := r0 0 _ rfl
        have d1 : v6.cell? ⟨v5.heap.size, 1, none⟩ = some (.int .i64 H0) := r0 1 _ rfl
        have d2 : v6.cell? ⟨v5.heap.size, 2, none⟩ = some (.slice A2 nd c2) := r0 2 _ rfl
        replace hr1 := hr1.below hv
        replace hr2 := hr2.below hv
        replace a0 := keep_cell hv a0
        replace a1 := keep_cell hv a1
        replace a2 := keep_cell hv a2
        replace a3 := keep_cell hv a3
        replace a4 := keep_cell hv a4
        replace a5 := keep_cell hv a5
        replace b0 := keep_cell hv b0
        replace b1 := keep_cell hv b1
        replace b2 := keep_cell hv b2
        clear r0 zn0 hsz hv
        obtain ⟨g2, hg2⟩ : ∃ g, v5.heap.size = g := ⟨_, rfl⟩
        rw [hg2] at d0 d1 d2 ⊢
        clear hg2
        go_wp2_with fail
        refine (H3.out v6 HB).mono ?_
        rintro e v7 ⟨rfl, hv⟩
        have HB := bel_step HB hv
        replace hr1 := hr1.below hv
        replace hr2 := hr2.below hv
        replace a0 := keep_cell hv a0
        replace a1 := keep_cell hv a1
        replace a2 := keep_cell hv a2
        replace a3 := keep_cell hv a3
        replace a4 := keep_cell hv a4
        replace a5 := keep_cell hv a5
        replace b0 := keep_cell hv b0
        replace b1 := keep_cell hv b1
        replace b2 := keep_cell hv b2
        replace d0 := keep_cell hv d0
        replace d1 := keep_cell hv d1
        replace d2 := keep_cell hv d2
        clear hv H3
        go_wp2_with fail
        refine (H4.out v7 HB).mono ?_
        rintro e v8 ⟨rfl, hv⟩
        have HB := bel_step HB hv
        replace hr1 := hr1.below hv
        replace hr2 := hr2.below hv
        replace b0 := keep_cell hv b0
        replace b1 := keep_cell hv b1
        replace b2 := keep_cell hv b2
        replace d0 := keep_cell hv d0
        replace d1 := keep_cell hv d1
        replace d2 := keep_cell hv d2
        clear hv H4 a0 a1 a2 a3 a4 a5
        have H5 := hid (show Calls Tryz.prog 13 #[.agg #[.int .i64 W0, .int .i64 H0, .slice A1 nd c1], .agg #[.int .i64 W0, .int .i64 H0, .slice A2 nd c2]] v8 (RetB v8 true) from by
         have := R20Same_g ⟨W0, H0, D0⟩ ⟨W0, H0, D0⟩ A1 A2 c1 c2 (w := v8) hr1 hr2
         rw [eqB_refl] at this
         rw [← hnd]; exact this)
        clear hr1 hr2 hnd
        go_wp2_with fail
        refine H5.out.mono ?_
        rintro e v9 ⟨rfl, hv⟩
        have HB := bel_step HB hv
        clear hv H5
        go_wp2_with fail
        refine (alive_ok _).mono ?_
        rintro e wa ⟨rfl, hva⟩
        replace HB := bel_step HB hva
        go_wp2
        go_ret
        exact ⟨rfl, HB⟩
end Go.Proofs.YtjfgklhifhaaoaaGreat
