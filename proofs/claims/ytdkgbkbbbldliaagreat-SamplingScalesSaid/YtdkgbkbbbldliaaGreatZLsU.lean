/- The law SamplingScales: its walk. Conditions: none. -/
import Derived.Test.YtdkgbkbbbldliaaGreatZLsX
import Derived.Test.YtdkgbkbbbldliaaGreatZSP
import Derived.Test.YtdkgbkbbbldliaaGreatZSR
set_option linter.unusedVariables false
set_option linter.unusedSimpArgs false
namespace Go.Proofs.YtdkgbkbbbldliaaGreat
open Go.RowKit Big
theorem sizeB_small {w h : Int} (hw : 1 ≤ w ∧ w ≤ 40) (hh : 1 ≤ h ∧ h ≤ 40) : J9 w h = true := by
 rw [Jj]
 have : w * h ≤ 40 * 40 := Int.mul_le_mul hw.2 hh.2 (by omega) (by omega)
 exact ⟨by omega, by omega, by omega, by omega, by omega⟩
theorem scale_M {w : World} {rf : List Rf} {k a b : Int} (h : HomS w rf [k, 0, a, 0, k, b, 0, 0, 1]) (hk : 1 ≤ k) (x y : Int) : posZ (bakZ rf) x y = some ((x - a) / k, (y - b) / k) := by
 rw [h.M, shift_adj, Eg (by omega), shift_back hk]
theorem scale_N {w : World} {rf : List Rf} {k a b : Int} (h : HomS w rf [k, 0, a, 0, k, b, 0, 0, 1]) (hk : 1 ≤ k) (x y : Int) : posZ (nrmZ rf) x y = some (a + k * x + k / 2, b + k * y + k / 2) := by
 rw [h.N, Ee hk]
theorem scale_parts {m : Bm} (hm : bmB m = true) {k a b ww hh : Int} (hk : 1 ≤ k ∧ k ≤ 6) (h12 : m.w ≤ 12 ∧ m.h ≤ 12) (ha : -30 ≤ a ∧ a ≤ 30) (hb : -30 ≤ b ∧ b ≤ 30) (hs : J9 ww hh = true) :
  J9 (k * m.w) (k * m.h) = true ∧ bmB ⟨k * m.w, k * m.h, enlL m k⟩ = true ∧
  ∃ pd1 pd2, (⟨ww, hh, crpL ⟨k * m.w, k * m.h, enlL m k⟩ (0 - a) (0 - b) ww hh⟩ : Bm) = ⟨ww, hh, pd1⟩ ∧ (⟨ww, hh, crpL m 0 0 ww hh⟩ : Bm) = ⟨ww, hh, pd2⟩ ∧
   (∀ w rf, HomS w rf [k, 0, a, 0, k, b, 0, 0, 1] → wrpE m (nrmB rf) (oneE adjZ rf).2 (bakZ rf) ww hh = (⟨ww, hh, pd1⟩, 0)) ∧
   (∀ w rf, HomS w rf [1, 0, 0, 0, 1, 0, 0, 0, 1] → smpE m (nrmB rf) (nrmZ rf) ww hh = (⟨ww, hh, pd2⟩, 0)) ∧
   (∀ w rf, HomS w rf [k, 0, a, 0, k, b, 0, 0, 1] → fthE (nrmB rf) (oneE adjZ rf).2 (nrmZ rf) (bakZ rf) m.w m.h ww hh = (decide (0 ≤ a + k / 2 ∧ 0 ≤ b + k / 2 ∧ a + k * (m.w - 1) + k / 2 < ww ∧ b + k * (m.h - 1) + k / 2 < hh), 0)) := by
 have hz := Eh hm hk h12
 obtain ⟨⟨m1, _, m3, _, _⟩, _⟩ := W5.1 hm
 have hms : J9 m.w m.h = true := by unfold bmB at hm; rw [Bool.and_eq_true] at hm; exact hm.1
 have hbig : bmB ⟨k * m.w, k * m.h, enlL m k⟩ = true := big_ok hz
 have eE : enlE m k = (⟨k * m.w, k * m.h, enlL m k⟩, 0) := by
  unfold enlE
  rw [if_pos hm, if_pos ⟨by omega, by omega⟩, if_pos hz]
  rfl
 refine ⟨hz, hbig, crpL ⟨k * m.w, k * m.h, enlL m k⟩ (0 - a) (0 - b) ww hh, crpL m 0 0 ww hh, rfl, rfl, fun w rf h => ?_, fun w rf h => ?_, fun w rf h => ?_⟩
 ·have h1 := (scale_warp hm hk h12 ha hb hs (scale_M h hk.1)).1
  rw [eE] at h1
  unfold cropE at h1
  rw [if_pos hbig, if_pos hs, Prod.mk.injEq, Bm.mk.injEq] at h1
  unfold wrpE
  rw [hm, h.v, h.q, hs, ← h1.1.2.2]
  rfl
 ·have hN : ∀ x y, posZ (nrmZ rf) x y = some (x, y) := fun x y => by
   rw [h.N, Ee (by omega)]
   congr 2 <;> omega
  obtain ⟨h1, h2⟩ := same_crop hm hs hN
  unfold cropE at h1
  rw [if_pos hm, if_pos hs, Prod.mk.injEq, Bm.mk.injEq] at h1
  unfold smpE
  rw [hm, h.v, hs, h2, ← h1.1.2.2]
  rfl
 ·have h1 := scale_faith (W := m.w) (H := m.h) (w := ww) (h := hh) hk.1 (by omega) (by omega) (scale_N h hk.1) (scale_M h hk.1)
  unfold fthE
  rw [h.v, h.q, hms, hs, h1]
  rfl
set_option maxRecDepth 100000 in
set_option maxHeartbeats 8000000 in
theorem scales_walk (m : Bm) (A : Option Addr) (c : Nat) {w : World} (hb : Mb w A c m.d) (Dv0 Dv1 Dv2 Dv3 Dv4 : Int) (r0_ : -128 ≤ Dv0 ∧ Dv0 ≤ 127) (r1_ : -128 ≤ Dv1 ∧ Dv1 ≤ 127) (r2_ : -128 ≤ Dv2 ∧ Dv2 ≤ 127) (r3_ : -128 ≤ Dv3 ∧ Dv3 ≤ 127) (r4_ : -128 ≤ Dv4 ∧ Dv4 ≤ 127) :
  Calls Tryz.prog 8 #[.agg #[.int .i64 m.w, .int .i64 m.h, .slice A m.d.length c], .agg #[.int .i8 Dv0, .int .i8 Dv1, .int .i8 Dv2, .int .i8 Dv3, .int .i8 Dv4]] w (RetB w true) := by
 obtain ⟨Kv0, hK0⟩ : ∃ z, Int.tmod (Dv0 + 128) 6 = z := ⟨_, rfl⟩
 obtain ⟨a, ha⟩ : ∃ z, Int.tmod Dv1 31 = z := ⟨_, rfl⟩
 obtain ⟨b, hb_⟩ : ∃ z, Int.tmod Dv2 31 = z := ⟨_, rfl⟩
 obtain ⟨W0, hW0⟩ : ∃ z, Int.tmod (Dv3 + 128) 40 = z := ⟨_, rfl⟩
 obtain ⟨H0, hH0⟩ : ∃ z, Int.tmod (Dv4 + 128) 40 = z := ⟨_, rfl⟩
 have lK : 0 ≤ Kv0 ∧ Kv0 < 6 := by rw [← hK0]; exact ⟨Int.tmod_nonneg _ (by omega), Int.tmod_lt_of_pos _ (by omega)⟩
 have lW : 0 ≤ W0 ∧ W0 < 40 := by rw [← hW0]; exact ⟨Int.tmod_nonneg _ (by omega), Int.tmod_lt_of_pos _ (by omega)⟩
 have lH : 0 ≤ H0 ∧ H0 < 40 := by rw [← hH0]; exact ⟨Int.tmod_nonneg _ (by omega), Int.tmod_lt_of_pos _ (by omega)⟩
 have la : -30 ≤ a ∧ a ≤ 30 := by
  have h1 := Int.tmod_lt_of_pos Dv1 (b := 31) (by omega)
  have h2 := Int.tmod_lt_of_pos (-Dv1) (b := 31) (by omega)
  rw [Int.neg_tmod] at h2
  omega
 have lb : -30 ≤ b ∧ b ≤ 30 := by
  have h1 := Int.tmod_lt_of_pos Dv2 (b := 31) (by omega)
  have h2 := Int.tmod_lt_of_pos (-Dv2) (b := 31) (by omega)
  rw [Int.neg_tmod] at h2
  omega
 obtain ⟨P0, hP0⟩ : ∃ z, Dv0 + 128 = z := ⟨_, rfl⟩
 obtain ⟨P3, hP3⟩ : ∃ z, Dv3 + 128 = z := ⟨_, rfl⟩
 obtain ⟨P4, hP4⟩ : ∃ z, Dv4 + 128 = z := ⟨_, rfl⟩
 rw [hP0] at hK0
 rw [hP3] at hW0
 rw [hP4] at hH0
 obtain ⟨K, hK⟩ : ∃ z : Nat, Kv0 = (z : Int) := ⟨Kv0.toNat, by omega⟩
 obtain ⟨k, hk⟩ : ∃ z : Nat, z = 1 + K := ⟨_, rfl⟩
 obtain ⟨ww, hww⟩ : ∃ z, 1 + W0 = z := ⟨_, rfl⟩
 obtain ⟨hh, hhh⟩ : ∃ z, 1 + H0 = z := ⟨_, rfl⟩
 have w0 : IntKind.i64.wrap Dv0 = Dv0 := by rw [IntKind.wrap_i64]; omega
 have w1 : IntKind.i64.wrap Dv1 = Dv1 := by rw [IntKind.wrap_i64]; omega
 have w2 : IntKind.i64.wrap Dv2 = Dv2 := by rw [IntKind.wrap_i64]; omega
 have w3 : IntKind.i64.wrap Dv3 = Dv3 := by rw [IntKind.wrap_i64]; omega
 have w4 : IntKind.i64.wrap Dv4 = Dv4 := by rw [IntKind.wrap_i64]; omega
 have w5 : IntKind.i64.wrap (Dv0 + 128) = P0 := by rw [IntKind.wrap_i64]; omega
 have w6 : IntKind.i64.wrap (Dv3 + 128) = P3 := by rw [IntKind.wrap_i64]; omega
 have w7 : IntKind.i64.wrap (Dv4 + 128) = P4 := by rw [IntKind.wrap_i64]; omega
 have w8 : IntKind.i64.wrap (1 + Kv0) = (k : Int) := by rw [IntKind.wrap_i64]; omega
 have w9 : IntKind.i64.wrap (1 + W0) = ww := by rw [IntKind.wrap_i64]; omega
 have w10 : IntKind.i64.wrap (1 + H0) = hh := by rw [IntKind.wrap_i64]; omega
 have lk : 1 ≤ k ∧ k ≤ 6 := by omega
 have lw : 1 ≤ ww ∧ ww ≤ 40 := by omega
 have lh : 1 ≤ hh ∧ hh ≤ 40 := by omega
 have hs := sizeB_small lw lh
 have HCk := hid fun (W : World) => U6 m A c W
 have hPa := hid fun (hm : bmB m = true) (h12 : m.w ≤ 12 ∧ m.h ≤ 12) => scale_parts (k := (k : Int)) hm ⟨by omega, by omega⟩ h12 la lb hs
 have HA0 := hid fun (W : World) => U1 (k : Int) 0 a 0 (k : Int) b 1 (by intro x hx; simp only [List.mem_cons, List.not_mem_nil, or_false] at hx; omega) (by omega) (by omega) (by
  have : (0 : Int) < (k : Int) * (k : Int) := Int.mul_pos (by omega) (by omega)
  omega) W
 have HC := hid fun (W : World) => U1 1 0 0 0 1 0 1 (by intro x hx; simp only [List.mem_cons, List.not_mem_nil, or_false] at hx; omega) (by omega) (by omega) (by omega) W
 have HMb := hid fun (W : World) (h : Below w.heap.size w W) => hb.below h
 have hsz0 := hid (W5 (m := m))
 unfold ckE at HCk
 clear hb hP0 hP3 hP4 hK hk hww hhh r0_ r1_ r2_ r3_ r4_ lK lW lH
 have hFl : ∀ (v : World) (rf : List Rf), rf.length = 9 → (storeCells ⟨v.heap.size, 0, none⟩ (Kc (zl rf))).run Tryz.prog (v.alloc (.cells (Kc Kj).toArray 32)) = .ok () (v.alloc (.cells (Kc (zl rf)).toArray 32)) := fun v rf h => Jw (P := Tryz.prog) (w := v) (l := zl rf) (zs := Kc Kj) 32 (by rw [Kf, Ky, h]; rfl) T32i
 simp only [Kj, List.replicate, Kc, ZE.cells, ZE.zero, List.cons_append, List.nil_append] at hFl
 have hFl := hid hFl
 obtain ⟨d32, hU32, row32⟩ := T32u
 go_enter Tryz.func8, Tryz.ntmps8
 go_upto_region 1 with fail
 refine Jc (P := fun u => Code.wp _ _ _ _ u) (c0 := [.int .i64 m.w, .int .i64 m.h, .slice A m.d.length c]) (c1 := [.int .i8 Dv0, .int .i8 Dv1, .int .i8 Dv2, .int .i8 Dv3, .int .i8 Dv4]) ?_
 intro u HB r0 r1 zn0 zn1 hsz
 clear hsz zn0 zn1
 have c0 : (u).cell? ⟨w.heap.size, 0, none⟩ = some (.int .i64 m.w) := r0 0 _ rfl
 have c1 : (u).cell? ⟨w.heap.size, 1, none⟩ = some (.int .i64 m.h) := r0 1 _ rfl
 have c2 : (u).cell? ⟨w.heap.size, 2, none⟩ = some (.slice A m.d.length c) := r0 2 _ rfl
 have d0 : u.cell? ⟨w.heap.size + 1, 0, none⟩ = some (.int .i8 Dv0) := r1 0 _ rfl
 have d1 : u.cell? ⟨w.heap.size + 1, 1, none⟩ = some (.int .i8 Dv1) := r1 1 _ rfl
 have d2 : u.cell? ⟨w.heap.size + 1, 2, none⟩ = some (.int .i8 Dv2) := r1 2 _ rfl
 have d3 : u.cell? ⟨w.heap.size + 1, 3, none⟩ = some (.int .i8 Dv3) := r1 3 _ rfl
 have d4 : u.cell? ⟨w.heap.size + 1, 4, none⟩ = some (.int .i8 Dv4) := r1 4 _ rfl
 clear r0 r1
 refine wp_region_held_drew (S := fun w' => w'.cell? ⟨w.heap.size + 1, 0, none⟩ = some (.int .i8 Dv0) ∧ w'.cell? ⟨w.heap.size + 1, 1, none⟩ = some (.int .i8 Dv1) ∧ w'.cell? ⟨w.heap.size + 1, 2, none⟩ = some (.int .i8 Dv2)) (by kernel_rfl) ?_ (fun hHeld => ?_)
 ·exact ⟨d0, d1, d2⟩
 have hd : Below u.heap.size u u.drew := Qj
 have c0 := Ka hd c0
 have c1 := Ka hd c1
 have c2 := Ka hd c2
 have d3 := Ka hd d3
 have d4 := Ka hd d4
 have HB := Kb HB hd
 generalize u.drew = u1 at *
 refine' TKa 0 ?_
 refine' TKa 1 ?_
 refine' TKa 2 ?_
 refine' TKa 3 ?_
 refine' TKa 4 ?_
 refine' TKa 5 ?_
 refine' TKa 6 ?_
 refine' TKa 7 ?_
 refine' TKa 8 ?_
 refine' TKa 9 ?_
 refine' TKa 10 ?_
 refine' TKa 11 ?_
 refine' TKa 12 ?_
 refine' TKa 13 ?_
 refine' TKa 14 ?_
 refine' TKa 15 ?_
 refine' TKa 16 ?_
 refine wpAnyH_done (by kernel_rfl) ?_ _
 clear hd hHeld d0 d1 d2
 go_upto_region 2 with fail
 refine wp_region_held_drew (S := fun w' => w'.cell? ⟨w.heap.size + 1, 3, none⟩ = some (.int .i8 Dv3) ∧ w'.cell? ⟨w.heap.size + 1, 4, none⟩ = some (.int .i8 Dv4)) (by kernel_rfl) ?_ (fun hHeld => ?_)
 ·exact ⟨d3, d4⟩
 have hd : Below u1.heap.size u1 u1.drew := Qj
 have c0 := Ka hd c0
 have c1 := Ka hd c1
 have c2 := Ka hd c2
 have HB := Kb HB hd
 generalize u1.drew = u2 at *
 refine' TKa 0 ?_
 refine' TKa 1 ?_
 refine' TKa 2 ?_
 refine' TKa 3 ?_
 refine' TKa 4 ?_
 refine' TKa 5 ?_
 refine' TKa 6 ?_
 refine' TKa 7 ?_
 refine' TKa 8 ?_
 refine' TKa 9 ?_
 refine' TKa 10 ?_
 refine' TKa 11 ?_
 refine' TKa 12 ?_
 refine' TKa 13 ?_
 refine wpAnyH_done (by kernel_rfl) ?_ _
 clear hd hHeld d3 d4
 go_wp2_with fail
 refine (HCk.out u2).mono ?_
 rintro e v ⟨rfl, hv⟩
 have c0 := Ka hv c0
 have c1 := Ka hv c1
 have c2 := Ka hv c2
 have HB := Kb HB hv
 clear HCk hv
 cases hbm : bmB m
 ·simp only [Bool.false_eq_true, if_false]
  clear hPa HA0 HC HMb hsz0
  go_wp2_with fail
  refine (Qw _).mono ?_
  rintro e x_ ⟨rfl, hx_⟩
  have HB := Kb HB hx_
  go_wp2
  go_ret
  exact ⟨rfl, HB⟩
 ·simp only [if_true]
  by_cases h1 : 12 < m.w
  ·clear hPa HA0 HC HMb hsz0
   go_wp2_with fail
   refine (Qw _).mono ?_
   rintro e x_ ⟨rfl, hx_⟩
   have HB := Kb HB hx_
   go_wp2
   go_ret
   exact ⟨rfl, HB⟩
  ·by_cases h2 : 12 < m.h
   ·clear hPa HA0 HC HMb hsz0
    go_wp2_with fail
    refine (Qw _).mono ?_
    rintro e x_ ⟨rfl, hx_⟩
    have HB := Kb HB hx_
    go_wp2
    go_ret
    exact ⟨rfl, HB⟩
   ·obtain ⟨⟨b1, _, b3, _, _⟩, _⟩ := hsz0.out.1 hbm
    obtain ⟨hz, hbig, pd1, pd2, q1, q2, q3, q4, q5⟩ := hPa.out hbm ⟨by omega, by omega⟩
    have HEn := hid fun (W : World) (h : Below w.heap.size w W) => S1Enlarge_g hbm (HMb.out W h) k ⟨lk.1, by omega⟩ hz
    have HC1 := hid fun (B : Option Addr) (l : Nat) (W : World) (hp : Mb W B l (enlL m k)) => (show Calls Tryz.prog 26 #[.agg #[.int .i64 ((k : Int) * m.w), .int .i64 ((k : Int) * m.h), .slice B (enlL m k).length l], .agg #[.int .i64 (0 - a), .int .i64 (0 - b), .int .i64 ww, .int .i64 hh]] W (D7 W (⟨ww, hh, pd1⟩, 0)) from by
     have := S1Crop_g (m := ⟨(k : Int) * m.w, (k : Int) * m.h, enlL m k⟩) hbig hp (0 - a) (0 - b) ww hh (by omega) (by omega) hs
     rwa [q1] at this)
    have HC2 := hid fun (W : World) (h : Below w.heap.size w W) => (show Calls Tryz.prog 26 #[.agg #[.int .i64 m.w, .int .i64 m.h, .slice A m.d.length c], .agg #[.int .i64 0, .int .i64 0, .int .i64 ww, .int .i64 hh]] W (D7 W (⟨ww, hh, pd2⟩, 0)) from by
     have := S1Crop_g hbm (HMb.out W h) 0 0 ww hh (by omega) (by omega) hs
     rwa [q2] at this)
    have HWp := hid fun (rf : List Rf) (W : World) (hS : HomS W rf [(k : Int), 0, a, 0, (k : Int), b, 0, 0, 1]) (h : Below w.heap.size w W) => (show Calls Tryz.prog 16 #[.agg #[.int .i64 m.w, .int .i64 m.h, .slice A m.d.length c], .agg (Kc (zl rf)).toArray, .int .i64 ww, .int .i64 hh] W (D7 W (⟨ww, hh, pd1⟩, 0)) from by
     have := Ef rf hS.h9 (HMb.out W h) hS.m ww hh
     rwa [q3 _ _ hS] at this)
    have HSq := hid fun (rf : List Rf) (W : World) (hS : HomS W rf [1, 0, 0, 0, 1, 0, 0, 0, 1]) (h : Below w.heap.size w W) => (show Calls Tryz.prog 13 #[.agg #[.int .i64 m.w, .int .i64 m.h, .slice A m.d.length c], .agg (Kc (zl rf)).toArray, .int .i64 ww, .int .i64 hh] W (D7 W (⟨ww, hh, pd2⟩, 0)) from by
     have := Uw rf hS.h9 (HMb.out W h) hS.m ww hh
     rwa [q4 _ _ hS] at this)
    obtain ⟨hk2, hhk⟩ : ∃ z : Nat, k / 2 = z := ⟨_, rfl⟩
    have hk3 : (k : Int) / 2 = (hk2 : Int) := by omega
    obtain ⟨ins, hins⟩ : ∃ t, decide (0 ≤ a + (k : Int) / 2 ∧ 0 ≤ b + (k : Int) / 2 ∧ a + (k : Int) * (m.w - 1) + (k : Int) / 2 < ww ∧ b + (k : Int) * (m.h - 1) + (k : Int) / 2 < hh) = t := ⟨_, rfl⟩
    have HFt := hid fun (rf : List Rf) (W : World) (hS : HomS W rf [(k : Int), 0, a, 0, (k : Int), b, 0, 0, 1]) => (show Calls Tryz.prog 21 #[.agg (Kc (zl rf)).toArray, .int .i64 m.w, .int .i64 m.h, .int .i64 ww, .int .i64 hh] W (RetTE W (ins, 0)) from by
     have := Xm rf hS.h9 hS.m m.w m.h ww hh
     rwa [q5 _ _ hS, hins] at this)
    rw [hk3] at hins
    obtain ⟨mW, hmW⟩ : ∃ z, m.w - 1 = z := ⟨_, rfl⟩
    obtain ⟨mH, hmH⟩ : ∃ z, m.h - 1 = z := ⟨_, rfl⟩
    have hmW2 : 0 ≤ mW ∧ mW ≤ 11 := by omega
    have hmH2 : 0 ≤ mH ∧ mH ≤ 11 := by omega
    obtain ⟨kW, hkW⟩ : ∃ z, (k : Int) * mW = z := ⟨_, rfl⟩
    obtain ⟨kH, hkH⟩ : ∃ z, (k : Int) * mH = z := ⟨_, rfl⟩
    have hkW2 : 0 ≤ kW ∧ kW ≤ 6 * 11 := by rw [← hkW]; exact ⟨Int.mul_nonneg (by omega) hmW2.1, Int.mul_le_mul (by omega) hmW2.2 hmW2.1 (by omega)⟩
    have hkH2 : 0 ≤ kH ∧ kH ≤ 6 * 11 := by rw [← hkH]; exact ⟨Int.mul_nonneg (by omega) hmH2.1, Int.mul_le_mul (by omega) hmH2.2 hmH2.1 (by omega)⟩
    rw [hmW, hmH, hkW, hkH] at hins
    have z1 : IntKind.i64.wrap (m.w - 1) = mW := by rw [IntKind.wrap_i64]; omega
    have z2 : IntKind.i64.wrap (m.h - 1) = mH := by rw [IntKind.wrap_i64]; omega
    have z3 : IntKind.i64.wrap ((k : Int) * mW) = kW := by rw [IntKind.wrap_i64, hkW]; omega
    have z4 : IntKind.i64.wrap ((k : Int) * mH) = kH := by rw [IntKind.wrap_i64, hkH]; omega
    have z5 : Int.tdiv (k : Int) 2 = (hk2 : Int) := by rw [Int.tdiv_eq_ediv_of_nonneg (by omega)]; omega
    have z6 : IntKind.i64.wrap (hk2 : Int) = (hk2 : Int) := by rw [IntKind.wrap_i64]; omega
    obtain ⟨aW, haW⟩ : ∃ z, a + kW = z := ⟨_, rfl⟩
    obtain ⟨bH, hbH⟩ : ∃ z, b + kH = z := ⟨_, rfl⟩
    obtain ⟨a2, ha2⟩ : ∃ z, a + (hk2 : Int) = z := ⟨_, rfl⟩
    obtain ⟨b2, hb2⟩ : ∃ z, b + (hk2 : Int) = z := ⟨_, rfl⟩
    obtain ⟨a3, ha3⟩ : ∃ z, aW + (hk2 : Int) = z := ⟨_, rfl⟩
    obtain ⟨b4, hb4⟩ : ∃ z, bH + (hk2 : Int) = z := ⟨_, rfl⟩
    have z7 : IntKind.i64.wrap (a + kW) = aW := by rw [IntKind.wrap_i64]; omega
    have z8 : IntKind.i64.wrap (b + kH) = bH := by rw [IntKind.wrap_i64]; omega
    have z9 : IntKind.i64.wrap (a + (hk2 : Int)) = a2 := by rw [IntKind.wrap_i64]; omega
    have z10 : IntKind.i64.wrap (b + (hk2 : Int)) = b2 := by rw [IntKind.wrap_i64]; omega
    have z11 : IntKind.i64.wrap (aW + (hk2 : Int)) = a3 := by rw [IntKind.wrap_i64]; omega
    have z12 : IntKind.i64.wrap (bH + (hk2 : Int)) = b4 := by rw [IntKind.wrap_i64]; omega
    rw [haW, hbH, ha2, hb2, ha3, hb4] at hins
    obtain ⟨NA, hNA⟩ : ∃ z, 0 - a = z := ⟨_, rfl⟩
    obtain ⟨NB, hNB⟩ : ∃ z, 0 - b = z := ⟨_, rfl⟩
    have z13 : IntKind.i64.wrap (0 - a) = NA := by rw [IntKind.wrap_i64]; omega
    have z14 : IntKind.i64.wrap (0 - b) = NB := by rw [IntKind.wrap_i64]; omega
    have z15 : IntKind.i64.wrap (-a) = NA := by rw [IntKind.wrap_i64]; omega
    have z16 : IntKind.i64.wrap (-b) = NB := by rw [IntKind.wrap_i64]; omega
    rw [hNA, hNB] at HC1
    obtain ⟨Lw, hLw⟩ : ∃ z, (k : Int) * m.w = z := ⟨_, rfl⟩
    obtain ⟨Lh, hLh⟩ : ∃ z, (k : Int) * m.h = z := ⟨_, rfl⟩
    obtain ⟨Ld, hLd⟩ : ∃ z, enlL m k = z := ⟨_, rfl⟩
    rw [hLw, hLh, hLd] at HEn HC1
    have hEq := hid fun (pd : List Bool) (B C : Option Addr) (i j : Nat) (W : World) (ha : Mb W B i pd) (hb : Mb W C j pd) => (show Calls Tryz.prog 15 #[.agg #[.int .i64 ww, .int .i64 hh, .slice B pd.length i], .agg #[.int .i64 ww, .int .i64 hh, .slice C pd.length j]] W (RetB W true) by
     have := Wh ⟨ww, hh, pd⟩ ⟨ww, hh, pd⟩ ha hb
     rwa [show eqM (⟨ww, hh, pd⟩ : Bm) ⟨ww, hh, pd⟩ = true by unfold eqM; simp] at this)
    have hiT := hid fun (h : 0 ≤ a2 ∧ 0 ≤ b2 ∧ a3 < ww ∧ b4 < hh) => (show ins = true by rw [← hins]; exact decide_eq_true h)
    have hiF := hid fun (h : ¬ (0 ≤ a2 ∧ 0 ≤ b2 ∧ a3 < ww ∧ b4 < hh)) => (show ins = false by rw [← hins]; exact decide_eq_false h)
    clear hz hbig q1 q2 q3 q4 q5 hsz0 hPa HMb hs hins hmW hmH hkW hkH haW hbH ha2 hb2 ha3 hb4 hNA hNB hLw hLh hLd hhk hk3 b1 b3 hbm
    go_wp2_with fail
    refine (HA0.out v).mono ?_
    rintro e x1 ⟨rf, h9, rfl, ok, hS, hx1⟩
    have F1 := hFl.out x1 rf h9
    have h36 : (Kc (zl rf)).length = 36 := by rw [Kf, Ky, h9]
    go_upto_region 6 with fail
    refine Kw (P := fun u => Code.wp _ _ _ _ u) (c := Kc (zl rf)) ?_
    intro v1 hv1 s1 z_ hsz
    have hi1 := hid (show (Tryz.prog.info? 32).map (·.size) = some (Kc (zl rf)).length by rw [h36]; exact T32i)
    have hb1 := Kb hx1 hv1
    have c0 := Ka hb1 c0
    have c1 := Ka hb1 c1
    have c2 := Ka hb1 c2
    have HB := Kb HB hb1
    have hS := hid (fun (W : World) (h : Below v1.heap.size v1 W) => hS.below (Kb hv1 h))
    have hbv := Below.refl v1.heap.size v1
    clear F1 h36 z_ hsz hx1 hv1 hb1 ok HA0
    go_wp2_with fail
    refine (HEn.out v1 HB).mono ?_
    rintro e x2 ⟨A1, k1, rfl, hM1, hx2⟩
    dsimp only at hM1 ⊢
    go_upto_region 7 with fail
    refine Kw (P := fun u => Code.wp _ _ _ _ u) (c := [.int .i64 Lw, .int .i64 Lh, .slice A1 Ld.length k1]) ?_
    intro v2 hv2 s2 z_ hsz
    have hb2 := Kb hx2 hv2
    have c0 := Ka hb2 c0
    have c1 := Ka hb2 c1
    have c2 := Ka hb2 c2
    have HB := Kb HB hb2
    have hbv := Kb hbv hb2
    have s1 := Ke s1 hb2
    have hM1 := hM1.below hv2
    have e0 : v2.cell? ⟨x2.heap.size, 0, none⟩ = some (.int .i64 Lw) := s2 0 _ rfl
    have e1 : v2.cell? ⟨x2.heap.size, 1, none⟩ = some (.int .i64 Lh) := s2 1 _ rfl
    have e2 : v2.cell? ⟨x2.heap.size, 2, none⟩ = some (.slice A1 Ld.length k1) := s2 2 _ rfl
    have HC1 := hid (HC1.out A1 k1 v2 hM1)
    clear z_ hsz hx2 hv2 hb2 s2 HEn hM1
    generalize Ld.length = Ln at *
    go_wp2_with fail
    refine HC1.out.mono ?_
    rintro e x3 ⟨A2, k2, rfl, hM2, hx3⟩
    dsimp only at hM2 ⊢
    go_upto_region 8 with fail
    refine Kw (P := fun u => Code.wp _ _ _ _ u) (c := [.int .i64 ww, .int .i64 hh, .slice A2 pd1.length k2]) ?_
    intro v3 hv3 s3 z_ hsz
    have hb3 := Kb hx3 hv3
    have c0 := Ka hb3 c0
    have c1 := Ka hb3 c1
    have c2 := Ka hb3 c2
    have HB := Kb HB hb3
    have hbv := Kb hbv hb3
    have s1 := Ke s1 hb3
    have hM2 := hM2.below hv3
    clear z_ hsz hx3 hv3 hb3 HC1 e0 e1 e2
    go_wp2_with (first | refine wpList_load_mid (by rfl) _ _ (by rfl) x1.heap.size 0 (by rfl) (Kc (zl rf)) _ s1 hU32 row32 hi1.out ?_ | fail)
    refine (HWp.out rf v3 (hS.out v3 hbv) HB).mono ?_
    rintro e x4 ⟨A3, k3, rfl, hM3, hx4⟩
    dsimp only at hM3 ⊢
    go_upto_region 9 with fail
    refine Kw (P := fun u => Code.wp _ _ _ _ u) (c := [.int .i64 ww, .int .i64 hh, .slice A3 pd1.length k3]) ?_
    intro v4 hv4 s4 z_ hsz
    have hb4 := Kb hx4 hv4
    have c0 := Ka hb4 c0
    have c1 := Ka hb4 c1
    have c2 := Ka hb4 c2
    have HB := Kb HB hb4
    have hbv := Kb hbv hb4
    have s1 := Ke s1 hb4
    have s3 := Ke s3 hb4
    have hM2 := hM2.below hb4
    have hM3 := hM3.below hv4
    clear z_ hsz hx4 hv4 hb4 HWp
    go_wp2_with (first | refine wpList_load_mid (by rfl) _ _ (by rfl) x1.heap.size 0 (by rfl) (Kc (zl rf)) _ s1 hU32 row32 hi1.out ?_ | fail)
    refine (HFt.out rf v4 (hS.out v4 hbv)).mono ?_
    rintro e v5 ⟨rfl, hb5⟩
    dsimp only
    have c0 := Ka hb5 c0
    have c1 := Ka hb5 c1
    have c2 := Ka hb5 c2
    have HB := Kb HB hb5
    have s3 := Ke s3 hb5
    have s4 := Ke s4 hb5
    have hM2 := hM2.below hb5
    have hM3 := hM3.below hb5
    clear HFt hS s1 hbv hi1 hb5
    go_upto_region 10 with fail
    go_cut [19] (fun s19 wx => s19 = .bool ins ∧ Below v5.heap.size v5 wx)
    case first =>
     have hbx := Below.refl v5.heap.size v5
     by_cases i1 : 0 ≤ a2
     ·by_cases i2 : 0 ≤ b2
      ·by_cases i3 : a3 < ww
       ·by_cases i4 : b4 < hh
        ·obtain rfl := hiT.out ⟨i1, i2, i3, i4⟩
         go_wp2_with fail
         go_meet
         exact ⟨rfl, hbx⟩
        ·obtain rfl := hiF.out fun h => i4 h.2.2.2
         go_wp2_with fail
         go_meet
         exact ⟨rfl, hbx⟩
       ·obtain rfl := hiF.out fun h => i3 h.2.2.1
        go_wp2_with fail
        go_meet
        exact ⟨rfl, hbx⟩
      ·obtain rfl := hiF.out fun h => i2 h.2.1
       go_wp2_with fail
       go_meet
       exact ⟨rfl, hbx⟩
     ·obtain rfl := hiF.out fun h => i1 h.1
      go_wp2_with fail
      go_meet
      exact ⟨rfl, hbx⟩
    case rest =>
     obtain ⟨rfl, hb6⟩ := hcut
     have c0 := Ka hb6 c0
     have c1 := Ka hb6 c1
     have c2 := Ka hb6 c2
     have HB := Kb HB hb6
     have s3 := Ke s3 hb6
     have s4 := Ke s4 hb6
     have hM2 := hM2.below hb6
     have hM3 := hM3.below hb6
     clear hb6 z1 z2 z3 z4 z5 z6 z7 z8 z9 z10 z11 z12 z13 z14 z15 z16 w0 w1 w2 w3 w4 w5 w6 w7 w8 w9 w10 hiT hiF
     go_upto_region 11 with fail
     generalize wc = vv at *
     generalize ww = qw at *
     generalize hh = qh at *
     generalize pd2 = qd at *
     have HSp := hid fun (rf : List Rf) (W : World) (hs : HomS W rf [1, 0, 0, 0, 1, 0, 0, 0, 1]) (h : Below vv.heap.size vv W) => HSq.out rf W hs (Kb HB h)
     clear HSq
     go_cut [20, 21] (fun s20 s21 wx => s21 = .int .i64 0 ∧ ∃ (g : Nat) (A7 : Option Addr) (c7 : Nat), s20 = .pointer (some ⟨g, 0, none⟩) ∧ Mb wx A7 c7 qd ∧ FilV vv g [.int .i64 qw, .int .i64 qh, .slice A7 qd.length c7] wx)
     case first =>
      have qc : Below vv.heap.size vv vv.drew := Qj
      refine wp_region_held_drew (S := fun w' => w'.cell? ⟨w.heap.size, 0, none⟩ = some (.int .i64 m.w) ∧ w'.cell? ⟨w.heap.size, 1, none⟩ = some (.int .i64 m.h) ∧ w'.cell? ⟨w.heap.size, 2, none⟩ = some (.slice A m.d.length c) ∧ Below vv.heap.size vv w') (by kernel_rfl) ?_ (fun hHeld => ?_)
      ·exact ⟨c0, c1, c2, qc⟩
      generalize vv.drew = vd at *
      refine' TKa 0 ?_
      refine' TKa 2 ?_
      refine' TKa 3 ?_
      refine br2 (i := 1) (j := 8) (by decide +kernel) rfl rfl (fun K hK => ?_) (fun K hK => ?_)
      ·go_simp
       (go_at_call 24; refine (HC.out _).mono ?_; rintro e a1 ⟨rC, h9C, rfl, okC, hsC, hq_⟩; have qc := Kb qc hq_; (try have bx := bx.below hq_))
       (try go_wp2_with fail)
       refine' HKa hK (by exact ⟨Ka qc c0, Ka qc c1, Ka qc c2, qc⟩) (fun hHeld => ?_)
       clear hK K
       refine br2 (i := 4) (j := 8) (by decide +kernel) rfl rfl (fun K hK => ?_) (fun K hK => ?_)
       ·go_simp
        (go_at_call 13; refine (HSp.out rC _ hsC qc).mono ?_; rintro e a2 ⟨A7, c7, rfl, hM7, hq_⟩; (try dsimp only); have qc := Kb qc hq_; (try have bx := bx.below hq_))
        (try go_wp2_with fail)
        refine' HKa hK (by exact ⟨Ka qc c0, Ka qc c1, Ka qc c2, qc⟩) (fun hHeld => ?_)
        clear hK K
        refine' TKa 5 ?_
        refine' TKa 6 ?_
        refine' TKa 7 ?_
        refine BRa 8 (fun K hK => ?_)
        have hal_ := (Below.refl (a2).heap.size (a2)).alloc (Nat.le_refl _) (.cells #[.int .i64 0, .int .i64 0, .slice none 0 0] 24)
        have hgv_ := qc.size
        have qc := Kb qc hal_
        have bx : FilV vv (a2).heap.size [.int .i64 0, .int .i64 0, .slice none 0 0] ((a2).alloc (.cells #[.int .i64 0, .int .i64 0, .slice none 0 0] 24)) := ⟨qc, Zn.new_, hgv_, K4⟩
        (try have hsC := hsC.below hal_)
        (try have hM7 := hM7.below hal_)
        clear hgv_
        go_simp
        skip
        (try go_wp2_with fail)
        refine' HKa hK (by exact ⟨Ka qc c0, Ka qc c1, Ka qc c2, qc⟩) (fun hHeld => ?_)
        clear hK K
        generalize (a2).alloc (.cells #[.int .i64 0, .int .i64 0, .slice none 0 0] 24) = p18 at *
        obtain ⟨f0, f1, f2⟩ := bx.three
        have ff := bx.z.fr
        have fl := bx.z.lt
        have hgx := bx.hg
        have hlm := Kd c0
        obtain ⟨hR, hMM⟩ := bx.put3 (.int .i64 qw) (.int .i64 qh) (.slice A7 qd.length c7)
        have hM7 := hid (hMM _ _ _ hM7)
        have hR := hid hR
        clear hMM
        refine BRa 9 (fun K hK => ?_)
        go_simp
        skip
        (try go_wp2_with fail)
        refine' HKa hK (by (exact ⟨Kh (by omega) (Kh (by omega) (Kh (by omega) (Ka qc c0))), Kh (by omega) (Kh (by omega) (Kh (by omega) (Ka qc c1))), Kh (by omega) (Kh (by omega) (Kh (by omega) (Ka qc c2))), hR.out.b⟩)) (fun hHeld => ?_)
        clear hK K
        refine' TKa 10 ?_
        refine wpAnyH_done (by kernel_rfl) ?_ _
        go_wp2_with fail
        go_meet
        exact ⟨rfl, _, A7, c7, rfl, hM7.out, hR.out⟩
       ·have hal_ := (Below.refl (a1).heap.size (a1)).alloc (Nat.le_refl _) (.cells #[.int .i64 0, .int .i64 0, .slice none 0 0] 24)
        have hgv_ := qc.size
        have qc := Kb qc hal_
        have bx : FilV vv (a1).heap.size [.int .i64 0, .int .i64 0, .slice none 0 0] ((a1).alloc (.cells #[.int .i64 0, .int .i64 0, .slice none 0 0] 24)) := ⟨qc, Zn.new_, hgv_, K4⟩
        (try have hsC := hsC.below hal_)
        (try have hM7 := hM7.below hal_)
        clear hgv_
        go_simp
        skip
        (try go_wp2_with fail)
        refine' HKa hK (by exact ⟨Ka qc c0, Ka qc c1, Ka qc c2, qc⟩) (fun hHeld => ?_)
        clear hK K
        generalize (a1).alloc (.cells #[.int .i64 0, .int .i64 0, .slice none 0 0] 24) = p18 at *
        refine BRa 4 (fun K hK => ?_)
        go_simp
        (go_at_call 13; refine (HSp.out rC _ hsC qc).mono ?_; rintro e a2 ⟨A7, c7, rfl, hM7, hq_⟩; (try dsimp only); have qc := Kb qc hq_; (try have bx := bx.below hq_))
        (try go_wp2_with fail)
        refine' HKa hK (by exact ⟨Ka qc c0, Ka qc c1, Ka qc c2, qc⟩) (fun hHeld => ?_)
        clear hK K
        refine' TKa 5 ?_
        refine' TKa 6 ?_
        refine' TKa 7 ?_
        obtain ⟨f0, f1, f2⟩ := bx.three
        have ff := bx.z.fr
        have fl := bx.z.lt
        have hgx := bx.hg
        have hlm := Kd c0
        obtain ⟨hR, hMM⟩ := bx.put3 (.int .i64 qw) (.int .i64 qh) (.slice A7 qd.length c7)
        have hM7 := hid (hMM _ _ _ hM7)
        have hR := hid hR
        clear hMM
        refine BRa 9 (fun K hK => ?_)
        go_simp
        skip
        (try go_wp2_with fail)
        refine' HKa hK (by (exact ⟨Kh (by omega) (Kh (by omega) (Kh (by omega) (Ka qc c0))), Kh (by omega) (Kh (by omega) (Kh (by omega) (Ka qc c1))), Kh (by omega) (Kh (by omega) (Kh (by omega) (Ka qc c2))), hR.out.b⟩)) (fun hHeld => ?_)
        clear hK K
        refine' TKa 10 ?_
        refine wpAnyH_done (by kernel_rfl) ?_ _
        go_wp2_with fail
        go_meet
        exact ⟨rfl, _, A7, c7, rfl, hM7.out, hR.out⟩
      ·have hal_ := (Below.refl (vd).heap.size (vd)).alloc (Nat.le_refl _) (.cells #[.int .i64 0, .int .i64 0, .slice none 0 0] 24)
       have hgv_ := qc.size
       have qc := Kb qc hal_
       have bx : FilV vv (vd).heap.size [.int .i64 0, .int .i64 0, .slice none 0 0] ((vd).alloc (.cells #[.int .i64 0, .int .i64 0, .slice none 0 0] 24)) := ⟨qc, Zn.new_, hgv_, K4⟩
       (try have hsC := hsC.below hal_)
       (try have hM7 := hM7.below hal_)
       clear hgv_
       go_simp
       skip
       (try go_wp2_with fail)
       refine' HKa hK (by exact ⟨Ka qc c0, Ka qc c1, Ka qc c2, qc⟩) (fun hHeld => ?_)
       clear hK K
       generalize (vd).alloc (.cells #[.int .i64 0, .int .i64 0, .slice none 0 0] 24) = p18 at *
       refine BRa 1 (fun K hK => ?_)
       go_simp
       (go_at_call 24; refine (HC.out _).mono ?_; rintro e a1 ⟨rC, h9C, rfl, okC, hsC, hq_⟩; have qc := Kb qc hq_; (try have bx := bx.below hq_))
       (try go_wp2_with fail)
       refine' HKa hK (by exact ⟨Ka qc c0, Ka qc c1, Ka qc c2, qc⟩) (fun hHeld => ?_)
       clear hK K
       refine BRa 4 (fun K hK => ?_)
       go_simp
       (go_at_call 13; refine (HSp.out rC _ hsC qc).mono ?_; rintro e a2 ⟨A7, c7, rfl, hM7, hq_⟩; (try dsimp only); have qc := Kb qc hq_; (try have bx := bx.below hq_))
       (try go_wp2_with fail)
       refine' HKa hK (by exact ⟨Ka qc c0, Ka qc c1, Ka qc c2, qc⟩) (fun hHeld => ?_)
       clear hK K
       refine' TKa 5 ?_
       refine' TKa 6 ?_
       refine' TKa 7 ?_
       obtain ⟨f0, f1, f2⟩ := bx.three
       have ff := bx.z.fr
       have fl := bx.z.lt
       have hgx := bx.hg
       have hlm := Kd c0
       obtain ⟨hR, hMM⟩ := bx.put3 (.int .i64 qw) (.int .i64 qh) (.slice A7 qd.length c7)
       have hM7 := hid (hMM _ _ _ hM7)
       have hR := hid hR
       clear hMM
       refine BRa 9 (fun K hK => ?_)
       go_simp
       skip
       (try go_wp2_with fail)
       refine' HKa hK (by (exact ⟨Kh (by omega) (Kh (by omega) (Kh (by omega) (Ka qc c0))), Kh (by omega) (Kh (by omega) (Kh (by omega) (Ka qc c1))), Kh (by omega) (Kh (by omega) (Kh (by omega) (Ka qc c2))), hR.out.b⟩)) (fun hHeld => ?_)
       clear hK K
       refine' TKa 10 ?_
       refine wpAnyH_done (by kernel_rfl) ?_ _
       go_wp2_with fail
       go_meet
       exact ⟨rfl, _, A7, c7, rfl, hM7.out, hR.out⟩
     case rest =>
      obtain ⟨rfl, g5, A7, c7, rfl, hM7, bx⟩ := hcut
      have hx := bx.b
      have c0 := Ka hx c0
      have c1 := Ka hx c1
      have c2 := Ka hx c2
      have HB := Kb HB hx
      have s3 := Ke s3 hx
      have s4 := Ke s4 hx
      have hM2 := hM2.below hx
      have hM3 := hM3.below hx
      clear hx HC HSp
      go_wp2_with fail
      refine (HC2.out wc HB).mono ?_
      rintro e x8 ⟨A8, k8, rfl, hM8, hx8⟩
      dsimp only at hM8 ⊢
      go_upto_region 13 with fail
      refine Kw (P := fun u => Code.wp _ _ _ _ u) (c := [.int .i64 qw, .int .i64 qh, .slice A8 qd.length k8]) ?_
      intro v8 hv8 s8 z_ hsz
      have hb8 := Kb hx8 hv8
      have HB := Kb HB hb8
      have s3 := Ke s3 hb8
      have s4 := Ke s4 hb8
      have bx := bx.below hb8
      have hM2 := hM2.below hb8
      have hM3 := hM3.below hb8
      have hM7 := hM7.below hb8
      have hM8 := hM8.below hv8
      obtain ⟨f0, f1, f2⟩ := bx.three
      have e0 : v8.cell? ⟨x3.heap.size, 0, none⟩ = some (.int .i64 qw) := s3 0 _ rfl
      have e1 : v8.cell? ⟨x3.heap.size, 1, none⟩ = some (.int .i64 qh) := s3 1 _ rfl
      have e2 : v8.cell? ⟨x3.heap.size, 2, none⟩ = some (.slice A2 pd1.length k2) := s3 2 _ rfl
      have g0 : v8.cell? ⟨x4.heap.size, 0, none⟩ = some (.int .i64 qw) := s4 0 _ rfl
      have g1 : v8.cell? ⟨x4.heap.size, 1, none⟩ = some (.int .i64 qh) := s4 1 _ rfl
      have g2 : v8.cell? ⟨x4.heap.size, 2, none⟩ = some (.slice A3 pd1.length k3) := s4 2 _ rfl
      have j0 : v8.cell? ⟨x8.heap.size, 0, none⟩ = some (.int .i64 qw) := s8 0 _ rfl
      have j1 : v8.cell? ⟨x8.heap.size, 1, none⟩ = some (.int .i64 qh) := s8 1 _ rfl
      have j2 : v8.cell? ⟨x8.heap.size, 2, none⟩ = some (.slice A8 qd.length k8) := s8 2 _ rfl
      have hE1 := hid (hEq.out pd1 A3 A2 k3 k2 v8 hM3 hM2)
      have hE2 := hid fun (W : World) (h : Below v8.heap.size v8 W) => hEq.out qd A7 A8 c7 k8 W (hM7.below h) (hM8.below h)
      clear z_ hsz hx8 hv8 hb8 s3 s4 s8 bx hM2 hM3 hM7 hM8 c0 c1 c2 HC2 hEq
      generalize pd1.length = n1 at *
      generalize qd.length = n2 at *
      go_wp2_with fail
      refine hE1.out.mono ?_
      rintro e y1 ⟨rfl, hy1⟩
      have f0 := Ka hy1 f0
      have f1 := Ka hy1 f1
      have f2 := Ka hy1 f2
      have j0 := Ka hy1 j0
      have j1 := Ka hy1 j1
      have j2 := Ka hy1 j2
      have HB := Kb HB hy1
      clear e0 e1 e2 g0 g1 g2 hE1
      go_wp2_with fail
      refine (hE2.out y1 hy1).mono ?_
      rintro e y2 ⟨rfl, hy2⟩
      have HB := Kb HB hy2
      clear f0 f1 f2 j0 j1 j2 hE2 hy1 hy2
      go_wp2_with fail
      refine (Qw _).mono ?_
      rintro e x_ ⟨rfl, hx_⟩
      have HB := Kb HB hx_
      go_wp2
      go_ret
      exact ⟨rfl, HB⟩
theorem Ea (m : Bm) (A : Option Addr) (c : Nat) {w : World} (hb : Mb w A c m.d) (Dv0 : Int) (h0 : (Lit.int .i8 Dv0).wf = true) (Dv1 : Int) (h1 : (Lit.int .i8 Dv1).wf = true) (Dv2 : Int) (h2 : (Lit.int .i8 Dv2).wf = true) (Dv3 : Int) (h3 : (Lit.int .i8 Dv3).wf = true) (Dv4 : Int) (h4 : (Lit.int .i8 Dv4).wf = true) :
  Calls Tryz.prog 8 #[.agg #[.int .i64 m.w, .int .i64 m.h, .slice A m.d.length c], .agg #[.int .i8 Dv0, .int .i8 Dv1, .int .i8 Dv2, .int .i8 Dv3, .int .i8 Dv4]] w (RetB w true) := by
 simp [Lit.wf, IntKind.min, IntKind.max, IntKind.signed, IntKind.bits] at h0 h1 h2 h3 h4
 exact scales_walk m A c hb Dv0 Dv1 Dv2 Dv3 Dv4 (by omega) (by omega) (by omega) (by omega) (by omega)
end Go.Proofs.YtdkgbkbbbldliaaGreat
