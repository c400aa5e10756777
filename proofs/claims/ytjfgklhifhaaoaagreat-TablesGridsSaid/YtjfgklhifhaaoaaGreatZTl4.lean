/- Tables: the law Grids. Conditions: none. -/
import Derived.Test.YtjfgklhifhaaoaaGreatZTw27
import Derived.Test.YtjfgklhifhaaoaaGreatZGC
set_option linter.unusedVariables false
set_option linter.unusedSimpArgs false
namespace Go.Proofs.YtjfgklhifhaaoaaGreat
open Go.RowKit
set_option maxRecDepth 100000 in
set_option maxHeartbeats 8000000 in
theorem Grids_law (l : List Ru) (A : Option Addr) (c : Nat) {w : World} (hl : RuK.Rd w A c l) :
  Calls Tryz.prog 4 #[.slice A l.length c] w (RetB w true) := by
 obtain ⟨X, hX⟩ : ∃ q, grdE l = q := ⟨_, rfl⟩
 have cc := Nat.le_trans hl.cap hl.max
 have H1 := hid fun (V : World) (hb : Below w.heap.size w V) => (show Calls Tryz.prog 14 #[.slice A l.length c] V (RetGr V X) from by rw [← hX]; exact TGrid_g l A c (hl.below hb))
 have H2 := hid fun (V : World) (hb : Below w.heap.size w V) => (show Calls Tryz.prog 15 #[.slice A l.length c] V (RetGr V X) from by rw [← hX, grd_eq]; exact RGrd_g l A c (hl.below hb))
 clear hX hl
 obtain ⟨⟨R, C, L⟩, E⟩ := X
 (try dsimp only at *)
 generalize l.length = q at *
 go_enter Tryz.func4, Tryz.ntmps4
 have HB := Below.refl w.heap.size w
 by_cases g2 : 60 < q
 ·have g2i : (60 : Int) < (q : Int) := by omega
  clear H1 H2
  go_wp2_with fail
  refine (alive_ok _).mono ?_
  rintro e wa ⟨rfl, hva⟩
  replace HB := bel_step HB hva
  go_wp2
  go_ret
  exact ⟨rfl, HB⟩
 ·have g2i : ¬ (60 : Int) < (q : Int) := by omega
  go_wp2_with fail
  refine (H1.out w HB).mono ?_
  rintro e v1 ⟨A1, c1, rfl, hr1, hv⟩
  have HB := bel_step HB hv
  clear hv H1
  dsimp only at hr1
  have hd1 := Nat.le_trans hr1.cap hr1.max
  obtain ⟨nl, hnl⟩ : ∃ x, L.length = x := ⟨_, rfl⟩
  dsimp only
  rw [hnl] at hd1 ⊢
  go_upto_region 4 with fail
  refine enterR (P := fun u => Code.wp _ _ _ _ u) (c := [.int .i64 R, .int .i64 C, .slice A1 nl c1]) ?_
  intro v2 hv r0 zn0 hsz
  have HB := bel_step HB hv
  have b0 : v2.cell? ⟨v1.heap.size, 0, none⟩ = some (.int .i64 R) := r0 0 _ rfl
  have b1 : v2.cell? ⟨v1.heap.size, 1, none⟩ = some (.int .i64 C) := r0 1 _ rfl
  have b2 : v2.cell? ⟨v1.heap.size, 2, none⟩ = some (.slice A1 nl c1) := r0 2 _ rfl
  replace hr1 := hr1.below hv
  clear r0 zn0 hsz hv
  obtain ⟨g1, hg1⟩ : ∃ g, v1.heap.size = g := ⟨_, rfl⟩
  rw [hg1] at b0 b1 b2 ⊢
  clear hg1
  go_wp2_with fail
  refine (H2.out v2 HB).mono ?_
  rintro e v3 ⟨A2, c2, rfl, hr2, hv⟩
  have HB := bel_step HB hv
  replace hr1 := hr1.below hv
  replace b0 := keep_cell hv b0
  replace b1 := keep_cell hv b1
  replace b2 := keep_cell hv b2
  clear hv H2
  dsimp only at hr2
  have hd2 := Nat.le_trans hr2.cap hr2.max
  dsimp only
  rw [hnl] at hd2 ⊢
  go_upto_region 5 with fail
  refine enterR (P := fun u => Code.wp _ _ _ _ u) (c := [.int .i64 R, .int .i64 C, .slice A2 nl c2]) ?_
  intro v4 hv r0 zn0 hsz
  have HB := bel_step HB hv
  have d0 : v4.cell? ⟨v3.heap.size, 0, none⟩ = some (.int .i64 R) := r0 0 _ rfl
  have d1 : v4.cell? ⟨v3.heap.size, 1, none⟩ = some (.int .i64 C) := r0 1 _ rfl
  have d2 : v4.cell? ⟨v3.heap.size, 2, none⟩ = some (.slice A2 nl c2) := r0 2 _ rfl
  replace hr1 := hr1.below hv
  replace hr2 := hr2.below hv
  replace b0 := keep_cell hv b0
  replace b1 := keep_cell hv b1
  replace b2 := keep_cell hv b2
  clear r0 zn0 hsz hv
  obtain ⟨g2, hg2⟩ : ∃ g, v3.heap.size = g := ⟨_, rfl⟩
  rw [hg2] at d0 d1 d2 ⊢
  clear hg2
  have H5 := hid fun (V : World) (hb : Below v4.heap.size v4 V) => (show Calls Tryz.prog 16 #[.agg #[.int .i64 R, .int .i64 C, .slice A1 nl c1], .agg #[.int .i64 R, .int .i64 C, .slice A2 nl c2]] V (RetB V true) from by
   have := Same_g R C R C L L A1 A2 c1 c2 (w := V) (hr1.below hb) (hr2.below hb)
   rw [hnl, decide_eq_true ⟨rfl, rfl, rfl⟩] at this
   exact this)
  clear hr1 hr2 hnl
  replace H5 := hid (H5.out v4 (Below.refl _ _))
  go_wp2_with fail
  refine H5.out.mono ?_
  rintro e v7 ⟨rfl, hv⟩
  have HB := bel_step HB hv
  clear hv H5 b0 b1 b2 d0 d1 d2
  go_wp2_with fail
  refine (alive_ok _).mono ?_
  rintro e wa ⟨rfl, hva⟩
  replace HB := bel_step HB hva
  go_wp2
  go_ret
  exact ⟨rfl, HB⟩
end Go.Proofs.YtjfgklhifhaaoaaGreat
