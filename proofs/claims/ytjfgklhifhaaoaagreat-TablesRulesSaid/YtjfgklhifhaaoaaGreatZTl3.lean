/- Tables: the law Rules. Conditions: none. -/
import Derived.Test.YtjfgklhifhaaoaaGreatZTw27
import Derived.Test.YtjfgklhifhaaoaaGreatZTr4
import Derived.Test.YtjfgklhifhaaoaaGreatZTr10
set_option linter.unusedVariables false
set_option linter.unusedSimpArgs false
namespace Go.Proofs.YtjfgklhifhaaoaaGreat
open Go.RowKit
theorem Lfew_g (m : Bm) (A : Option Addr) (c : Nat) (w : World) : Calls Tryz.prog 6 #[.agg #[.int .i64 m.w, .int .i64 m.h, .slice A m.d.length c]] w (RetB w (decide (m.d.length ≤ 3000))) := by
 obtain ⟨W, H, d⟩ := m
 dsimp only
 obtain ⟨n, hn⟩ : ∃ n, d.length = n := ⟨_, rfl⟩
 rw [hn]
 clear hn
 obtain ⟨t, ht⟩ : ∃ t, decide (n ≤ 3000) = t := ⟨_, rfl⟩
 have hti : decide ((n : Int) ≤ 3000) = t := by rw [← ht]; congr 1; rw [eq_iff_iff]; omega
 rw [ht]
 clear ht
 go_enter Tryz.func6, Tryz.ntmps6
 go_upto_region 1 with fail
 refine enterR (P := fun u => Code.wp _ _ _ _ u) (c := [.int .i64 W, .int .i64 H, .slice A n c]) ?_
 intro u HB r0 zn0 hsz
 have c2 : u.cell? ⟨w.heap.size, 2, none⟩ = some (.slice A n c) := r0 2 _ rfl
 clear r0 zn0 hsz
 go_wp2
 go_ret
 exact ⟨by rw [← hti]; rfl, HB⟩
set_option maxRecDepth 100000 in
set_option maxHeartbeats 8000000 in
theorem Rules_law (m : Bm) (A : Option Addr) (c : Nat) (k : Int) (l : List Ru) (B : Option Addr) (cb : Nat) {w : World} (hm : BoK.Rd w A c m.d) (hl : RuK.Rd w B cb l) :
  Calls Tryz.prog 3 #[.agg #[.int .i64 m.w, .int .i64 m.h, .slice A m.d.length c], .int .i64 k, .slice B l.length cb] w (RetB w true) := by
 obtain ⟨X, hX⟩ : ∃ q, rulE m k = q := ⟨_, rfl⟩
 obtain ⟨Y, hY⟩ : ∃ q, witE m l = q := ⟨_, rfl⟩
 have cc := Nat.le_trans hm.cap hm.max
 have cd := Nat.le_trans hl.cap hl.max
 have H0 := hid fun (V : World) => Lfew_g m A c V
 have H1 := hid fun (V : World) (hb : Below w.heap.size w V) => (show Calls Tryz.prog 8 #[.agg #[.int .i64 m.w, .int .i64 m.h, .slice A m.d.length c], .int .i64 k] V (RetRL V X) from by rw [← hX]; exact TRul_g m A c k (hm.below hb))
 have H2 := hid fun (V : World) (hb : Below w.heap.size w V) => (show Calls Tryz.prog 9 #[.agg #[.int .i64 m.w, .int .i64 m.h, .slice A m.d.length c], .int .i64 k] V (RetRL V X) from by rw [← hX]; exact RRul_g m A c k (hm.below hb))
 have H3 := hid fun (V : World) (hb : Below w.heap.size w V) => (show Calls Tryz.prog 10 #[.agg #[.int .i64 m.w, .int .i64 m.h, .slice A m.d.length c], .slice B l.length cb] V (RetBE V Y) from by rw [← hY]; exact TWit_g m A c l B cb (hm.below hb) (hl.below hb))
 have H4 := hid fun (V : World) (hb : Below w.heap.size w V) => (show Calls Tryz.prog 11 #[.agg #[.int .i64 m.w, .int .i64 m.h, .slice A m.d.length c], .slice B l.length cb] V (RetBE V Y) from by rw [← hY]; exact RWit_g m A c l B cb (hm.below hb) (hl.below hb))
 clear hX hY hm hl
 obtain ⟨W, H, d⟩ := m
 obtain ⟨⟨W0, H0', D0⟩, E0⟩ := Y
 obtain ⟨L, E1⟩ := X
 dsimp only at *
 generalize d.length = n at *
 generalize l.length = q at *
 generalize decide (n ≤ 3000) = tf at *
 go_enter Tryz.func3, Tryz.ntmps3
 go_upto_region 1 with fail
 refine enterR (P := fun u => Code.wp _ _ _ _ u) (c := [.int .i64 W, .int .i64 H, .slice A n c]) ?_
 intro u HB r0 zn0 hsz
 have a0 : u.cell? ⟨w.heap.size, 0, none⟩ = some (.int .i64 W) := r0 0 _ rfl
 have a1 : u.cell? ⟨w.heap.size, 1, none⟩ = some (.int .i64 H) := r0 1 _ rfl
 have a2 : u.cell? ⟨w.heap.size, 2, none⟩ = some (.slice A n c) := r0 2 _ rfl
 clear r0 zn0 hsz
 go_wp2_with fail
 refine (H0.out u).mono ?_
 rintro e v ⟨rfl, hv⟩
 have HB := bel_step HB hv
 replace a0 := keep_cell hv a0
 replace a1 := keep_cell hv a1
 replace a2 := keep_cell hv a2
 clear hv H0
 cases tf
 ·clear H1 H2 H3 H4
  go_wp2_with fail
  refine (alive_ok _).mono ?_
  rintro e wa ⟨rfl, hva⟩
  replace HB := bel_step HB hva
  go_wp2
  go_ret
  exact ⟨rfl, HB⟩
 ·by_cases g2 : 50 < q
  ·have g2i : (50 : Int) < (q : Int) := by omega
   clear H1 H2 H3 H4
   go_wp2_with fail
   refine (alive_ok _).mono ?_
   rintro e wa ⟨rfl, hva⟩
   replace HB := bel_step HB hva
   go_wp2
   go_ret
   exact ⟨rfl, HB⟩
  ·have g2i : ¬ (50 : Int) < (q : Int) := by omega
   go_wp2_with fail
   refine (H1.out v HB).mono ?_
   rintro e v1 ⟨A1, c1, rfl, hr1, hv⟩
   have HB := bel_step HB hv
   replace a0 := keep_cell hv a0
   replace a1 := keep_cell hv a1
   replace a2 := keep_cell hv a2
   clear hv H1
   dsimp only at hr1
   have hd1 := Nat.le_trans hr1.cap hr1.max
   obtain ⟨nl, hnl⟩ : ∃ x, L.length = x := ⟨_, rfl⟩
   dsimp only
   rw [hnl] at hd1 ⊢
   go_wp2_with fail
   refine (H2.out v1 HB).mono ?_
   rintro e v2 ⟨A2, c2, rfl, hr2, hv⟩
   have HB := bel_step HB hv
   replace a0 := keep_cell hv a0
   replace a1 := keep_cell hv a1
   replace a2 := keep_cell hv a2
   replace hr1 := hr1.below hv
   clear hv H2
   dsimp only at hr2
   have hd2 := Nat.le_trans hr2.cap hr2.max
   dsimp only
   rw [hnl] at hd2 ⊢
   go_wp2_with fail
   refine (H3.out v2 HB).mono ?_
   rintro e v3 ⟨A3, c3, rfl, hr3, hv⟩
   have HB := bel_step HB hv
   replace a0 := keep_cell hv a0
   replace a1 := keep_cell hv a1
   replace a2 := keep_cell hv a2
   replace hr1 := hr1.below hv
   replace hr2 := hr2.below hv
   clear hv H3
   dsimp only at hr3
   have hd3 := Nat.le_trans hr3.cap hr3.max
   obtain ⟨nd, hnd⟩ : ∃ x, D0.length = x := ⟨_, rfl⟩
   dsimp only
   rw [hnd] at hd3 ⊢
   go_upto_region 6 with fail
   refine enterR (P := fun u => Code.wp _ _ _ _ u) (c := [.int .i64 W0, .int .i64 H0', .slice A3 nd c3]) ?_
   intro v4 hv r0 zn0 hsz
   have HB := bel_step HB hv
   have b0 : v4.cell? ⟨v3.heap.size, 0, none⟩ = some (.int .i64 W0) := r0 0 _ rfl
   have b1 : v4.cell? ⟨v3.heap.size, 1, none⟩ = some (.int .i64 H0') := r0 1 _ rfl
   have b2 : v4.cell? ⟨v3.heap.size, 2, none⟩ = some (.slice A3 nd c3) := r0 2 _ rfl
   replace hr1 := hr1.below hv
   replace hr2 := hr2.below hv
   replace hr3 := hr3.below hv
   replace a0 := keep_cell hv a0
   replace a1 := keep_cell hv a1
   replace a2 := keep_cell hv a2
   clear r0 zn0 hsz hv
   obtain ⟨g1, hg1⟩ : ∃ g, v3.heap.size = g := ⟨_, rfl⟩
   rw [hg1] at b0 b1 b2 ⊢
   clear hg1
   go_wp2_with fail
   refine (H4.out v4 HB).mono ?_
   rintro e v5 ⟨A4, c4, rfl, hr4, hv⟩
   have HB := bel_step HB hv
   replace hr1 := hr1.below hv
   replace hr2 := hr2.below hv
   replace hr3 := hr3.below hv
   replace b0 := keep_cell hv b0
   replace b1 := keep_cell hv b1
   replace b2 := keep_cell hv b2
   clear hv H4 a0 a1 a2
   dsimp only at hr4
   have hd4 := Nat.le_trans hr4.cap hr4.max
   dsimp only
   rw [hnd] at hd4 ⊢
   go_upto_region 7 with fail
   refine enterR (P := fun u => Code.wp _ _ _ _ u) (c := [.int .i64 W0, .int .i64 H0', .slice A4 nd c4]) ?_
   intro v6 hv r0 zn0 hsz
   have HB := bel_step HB hv
   have d0 : v6.cell? ⟨v5.heap.size, 0, none⟩ = some (.int .i64 W0) := r0 0 _ rfl
   have d1 : v6.cell? ⟨v5.heap.size, 1, none⟩ = some (.int .i64 H0') := r0 1 _ rfl
   have d2 : v6.cell? ⟨v5.heap.size, 2, none⟩ = some (.slice A4 nd c4) := r0 2 _ rfl
   replace hr1 := hr1.below hv
   replace hr2 := hr2.below hv
   replace hr3 := hr3.below hv
   replace hr4 := hr4.below hv
   replace b0 := keep_cell hv b0
   replace b1 := keep_cell hv b1
   replace b2 := keep_cell hv b2
   clear r0 zn0 hsz hv
   obtain ⟨g2, hg2⟩ : ∃ g, v5.heap.size = g := ⟨_, rfl⟩
   rw [hg2] at d0 d1 d2 ⊢
   clear hg2
   have H5 := hid (show Calls Tryz.prog 12 #[.slice A1 nl c1, .slice A2 nl c2] v6 (RetB v6 true) from by
    have := Lines_g L L A1 A2 c1 c2 (w := v6) hr1 hr2
    rw [hnl, decide_eq_true rfl] at this
    exact this)
   have H6 := hid fun (V : World) (hb : Below v6.heap.size v6 V) => (show Calls Tryz.prog 13 #[.agg #[.int .i64 W0, .int .i64 H0', .slice A3 nd c3], .agg #[.int .i64 W0, .int .i64 H0', .slice A4 nd c4]] V (RetB V true) from by
    have := R20Same_g ⟨W0, H0', D0⟩ ⟨W0, H0', D0⟩ A3 A4 c3 c4 (w := V) (hr3.below hb) (hr4.below hb)
    rw [eqB_refl] at this
    rw [← hnd]; exact this)
   clear hr1 hr2 hr3 hr4 hnd hnl
   go_wp2_with fail
   refine H5.out.mono ?_
   rintro e v7 ⟨rfl, hv⟩
   have HB := bel_step HB hv
   replace b0 := keep_cell hv b0
   replace b1 := keep_cell hv b1
   replace b2 := keep_cell hv b2
   replace d0 := keep_cell hv d0
   replace d1 := keep_cell hv d1
   replace d2 := keep_cell hv d2
   replace H6 := hid (H6.out v7 hv)
   clear hv H5
   go_wp2_with fail
   refine H6.out.mono ?_
   rintro e v9 ⟨rfl, hv⟩
   have HB := bel_step HB hv
   clear hv H6
   go_wp2_with fail
   refine (alive_ok _).mono ?_
   rintro e wa ⟨rfl, hva⟩
   replace HB := bel_step HB hva
   go_wp2
   go_ret
   exact ⟨rfl, HB⟩
end Go.Proofs.YtjfgklhifhaaoaaGreat
