/- Bitmaps, the reference: Enlarge, where it makes a bitmap. Conditions: none. -/
import Derived.Test.YtdkgbkbbbldliaaGreatZSI
import Derived.Test.YtdkgbkbbbldliaaGreatZSC
import Derived.Test.YtdkgbkbbbldliaaGreatZSR
set_option linter.unusedVariables false
set_option linter.unusedSimpArgs false
namespace Go.Proofs.YtdkgbkbbbldliaaGreat
open Go.RowKit Big
theorem tab_get {f : Int × Int → Bool} {C R x y : Nat} (hx : x < C) (hy : y < R) (h : y * C + x < ((ptsB (C : Int) (R : Int)).map f).length) : ((ptsB (C : Int) (R : Int)).map f)[y * C + x] = f ((x : Int), (y : Int)) := by
 obtain ⟨h1, h2⟩ := Em (c := (C : Int)) (r := (R : Int)) (x := (x : Int)) (y := (y : Int)) ⟨by omega, by omega⟩ ⟨by omega, by omega⟩
 have e : ((y : Int) * (C : Int) + (x : Int)).toNat = y * C + x := by
  rw [← Int.natCast_mul, ← Int.natCast_add, Int.toNat_natCast]
 simp only [e] at h1 h2
 exact (List.getElem_map (l := ptsB (C : Int) (R : Int)) f).trans (congrArg _ h2)
theorem tab_len {f : Int × Int → Bool} {C R : Nat} : ((ptsB (C : Int) (R : Int)).map f).length = C * R := by
 rw [List.length_map, Hp, ← Int.natCast_mul, Int.toNat_natCast]
def enlL (m : Bm) (k : Int) : List Bool := (ptsB (k * m.w) (k * m.h)).map fun p => pixZ m (p.1 / k) (p.2 / k)
set_option maxRecDepth 100000 in
set_option maxHeartbeats 8000000 in
theorem S1Enlarge_g {m : Bm} {A : Option Addr} {c : Nat} {w : World} (hm : bmB m = true) (hb : Mb w A c m.d) (K : Nat) (hk : 1 ≤ K ∧ K ≤ 4096) (hs : J9 ((K : Int) * m.w) ((K : Int) * m.h) = true) :
  Calls Tryz.prog 25 #[.agg #[.int .i64 m.w, .int .i64 m.h, .slice A m.d.length c], .int .i64 K] w (D7 w (⟨(K : Int) * m.w, (K : Int) * m.h, enlL m K⟩, 0)) := by
 have HVa := hid fun (W : World) => (show Calls Tryz.prog 48 #[.agg #[.int .i64 m.w, .int .i64 m.h, .slice A m.d.length c]] W (RetB W true) from by
  have := D6 m A c W
  rwa [hm] at this)
 have HPo := hid fun (W : World) => (show Calls Tryz.prog 50 #[.int .i64 ((K : Int) * m.w), .int .i64 ((K : Int) * m.h)] W (RetB W true) from by
  have := S1fits ((K : Int) * m.w) ((K : Int) * m.h) W
  rwa [hs] at this)
 have HDk := hid fun (W : World) (h : Below w.heap.size w W) => S1At_g hm (hb.below h)
 have hmc := hb.cap
 have hmx := hb.max
 obtain ⟨⟨m1, m2, m3, m4, _⟩, _⟩ := W5.1 hm
 obtain ⟨a1, a2, a3, a4, a5⟩ := Jj.1 hs
 obtain ⟨C, hC⟩ := Int.eq_ofNat_of_zero_le (show 0 ≤ (K : Int) * m.w by omega)
 obtain ⟨R, hR⟩ := Int.eq_ofNat_of_zero_le (show 0 ≤ (K : Int) * m.h by omega)
 have e1 : IntKind.i64.wrap ((K : Int) * m.w) = (C : Int) := by rw [IntKind.wrap_i64]; omega
 have e2 : IntKind.i64.wrap ((K : Int) * m.h) = (R : Int) := by rw [IntKind.wrap_i64]; omega
 obtain ⟨n, hn⟩ : ∃ n, n = C * R := ⟨_, rfl⟩
 have hpn : (C : Int) * (R : Int) = (n : Int) := by rw [hn, Int.natCast_mul]
 obtain ⟨ds, hds⟩ : ∃ ds, ds = enlL m K := ⟨_, rfl⟩
 have hds' : ds = (ptsB (C : Int) (R : Int)).map fun p => pixZ m (p.1 / (K : Int)) (p.2 / (K : Int)) := by rw [hds]; unfold enlL; rw [hC, hR]
 have hdl : ds.length = n := by rw [hds', tab_len, hn]
 have hdg := hid fun (x y : Nat) (hx : x < C) (hy : y < R) (h : y * C + x < ds.length) => (show ds[y * C + x] = pixZ m ((x / K : Nat) : Int) ((y / K : Nat) : Int) by
  subst hds'
  rw [tab_get hx hy h, Int.natCast_ediv, Int.natCast_ediv])
 have hQ1 := hid (show (⟨(C : Int), (R : Int), ds⟩, 0) = ((⟨(K : Int) * m.w, (K : Int) * m.h, enlL m K⟩ : Bm), (0 : Int)) by rw [hC, hR, hds])
 simp only [hC, hR] at HPo a2 a4 a5
 rw [hpn] at a5
 have hC4 : C ≤ 4096 := by omega
 have hR4 : R ≤ 4096 := by omega
 have hn4 : n ≤ 4194304 := by omega
 have hK1 : ¬ (K : Int) < 1 := by omega
 have hK2 : ¬ (4096 : Int) < (K : Int) := by omega
 have hK0 : (K : Int) ≠ 0 := by omega
 have hK00 : ¬ K = 0 := by omega
 replace hn := hid hn
 replace hdl := hid hdl
 refine (show Calls Tryz.prog 25 #[.agg #[.int .i64 m.w, .int .i64 m.h, .slice A m.d.length c], .int .i64 K] w (D7 w (⟨(C : Int), (R : Int), ds⟩, 0)) → Calls Tryz.prog 25 #[.agg #[.int .i64 m.w, .int .i64 m.h, .slice A m.d.length c], .int .i64 K] w (D7 w (⟨(K : Int) * m.w, (K : Int) * m.h, enlL m K⟩, 0)) from fun h => by rw [hQ1.out] at h; exact h) ?_
 clear hm hb hs hpn a1 a2 a3 a4 a5 hC hR hds hds' hQ1 m1 m2 m3 m4
 go_enter Tryz.func25, Tryz.ntmps25
 go_upto_region 1 with fail
 refine Jc (P := fun u => Code.wp _ _ _ _ u) (c0 := [.int .i64 m.w, .int .i64 m.h, .slice A m.d.length c]) (c1 := [.int .i64 0, .int .i64 0, .slice none 0 0]) ?_
 intro u HB r0 r2 zn0 zn2 hsz
 clear hsz zn0
 have c0 : (u).cell? ⟨w.heap.size, 0, none⟩ = some (.int .i64 m.w) := r0 0 _ rfl
 have c1 : (u).cell? ⟨w.heap.size, 1, none⟩ = some (.int .i64 m.h) := r0 1 _ rfl
 have c2 : (u).cell? ⟨w.heap.size, 2, none⟩ = some (.slice A m.d.length c) := r0 2 _ rfl
 clear r0
 go_wp2_with fail
 refine (HVa.out u).mono ?_
 rintro e v ⟨rfl, hv⟩
 have r2 := Ke r2 hv
 have zn2 := zn2.below hv
 have HB := Kb HB hv
 have c0 := Ka hv c0
 have c1 := Ka hv c1
 have c2 := Ka hv c2
 clear HVa hv
 go_wp2_with fail
 refine (HPo.out v).mono ?_
 rintro e v3 ⟨rfl, hv3⟩
 have r2 := Ke r2 hv3
 have zn2 := zn2.below hv3
 have HB := Kb HB hv3
 have c0 := Ka hv3 c0
 have c1 := Ka hv3 c1
 have c2 := Ka hv3 c2
 clear HPo hv3
 go_upto_region 8 with fail
 refine Kw (P := fun u => Code.wp _ _ _ _ u) (c := [.int .i64 (C : Int), .int .i64 (R : Int), .slice none 0 0]) ?_
 intro v4 hv4 ro zo hsz
 have HU := hid fun (W : World) (h : Below v3.heap.size v3 W) => And.intro (Kb HB h) (And.intro (And.intro (Ka h c0) (And.intro (Ka h c1) (Ka h c2))) (And.intro (Ke r2 h) (zn2.below h)))
 have hlr := zn2.lt
 have hlm := Kd c0
 obtain ⟨gO, hgO⟩ : ∃ g, g = v3.heap.size := ⟨_, rfl⟩
 rw [← hgO] at ro zo hlr hlm ⊢
 have hF : OutP v3 gO (C : Int) (R : Int) (ds.take 0) v4 := OutP.new hv4 hgO ro zo
 clear hv4 ro zo hsz c0 c1 c2 r2 zn2 HB hgO
 go_wp2
 go_loopw [7] (fun s7 wr => ∃ y : Nat, y ≤ R ∧ s7 = .int .i64 y ∧ OutP v3 gO (C : Int) (R : Int) (ds.take (y * C)) wr) (fun s7 _ => R - (intOf s7).toNat)
 case atStart => exact ⟨0, by omega, rfl, by rw [Nat.zero_mul]; exact hF⟩
 case round =>
  obtain ⟨y, hy, rfl, hS⟩ := hrel
  clear hF
  by_cases hyR : y < R
  ·have hyi : (y : Int) < (R : Int) := by omega
   have q1 := hS.c1
   go_wp2
   clear q1
   go_loopw [8] (fun s8 wr => ∃ x : Nat, x ≤ C ∧ s8 = .int .i64 x ∧ OutP v3 gO (C : Int) (R : Int) (ds.take (y * C + x)) wr) (fun s8 _ => C - (intOf s8).toNat)
   case atStart => exact ⟨0, by omega, rfl, hS⟩
   case round =>
    obtain ⟨x, hx, rfl, hS⟩ := hrel
    have q0 := hS.c0
    by_cases hxC : x < C
    ·have hxi : (x : Int) < (C : Int) := by omega
     obtain ⟨HB, ⟨c0, c1, c2⟩, _⟩ := HU.out wr hS.b
     have hpl := place hxC hyR
     have hk' : y * C + x < ds.length := by rw [hdl.out, hn.out]; exact hpl
     have hdk := hid (hdg.out x y hxC hyR hk')
     have HDk1 := hid fun (W : World) (h : Below wr.heap.size wr W) => HDk.out W (Kb HB h) ((x / K : Nat) : Int) ((y / K : Nat) : Int)
     obtain ⟨qx, hqx⟩ : ∃ q, x / K = q := ⟨_, rfl⟩
     obtain ⟨qy, hqy⟩ : ∃ q, y / K = q := ⟨_, rfl⟩
     have lx : qx ≤ 4096 := by rw [← hqx]; exact Nat.le_trans (Nat.div_le_self _ _) (by omega)
     have ly : qy ≤ 4096 := by rw [← hqy]; exact Nat.le_trans (Nat.div_le_self _ _) (by omega)
     have d1 : Int.tdiv (x : Int) (K : Int) = (qx : Int) := by rw [Int.tdiv_eq_ediv_of_nonneg (by omega), ← hqx, Int.natCast_ediv]
     have d2 : Int.tdiv (y : Int) (K : Int) = (qy : Int) := by rw [Int.tdiv_eq_ediv_of_nonneg (by omega), ← hqy, Int.natCast_ediv]
     have d3 : (x : Int) / (K : Int) = (qx : Int) := by rw [← hqx, Int.natCast_ediv]
     have d4 : (y : Int) / (K : Int) = (qy : Int) := by rw [← hqy, Int.natCast_ediv]
     have d5 : IntKind.i64.wrap (qx : Int) = (qx : Int) := by rw [IntKind.wrap_i64]; omega
     have d6 : IntKind.i64.wrap (qy : Int) = (qy : Int) := by rw [IntKind.wrap_i64]; omega
     rw [hqx, hqy] at HDk1 hdk
     generalize pixZ m (qx : Int) (qy : Int) = pv at *
     obtain ⟨d', hd'⟩ : ∃ d', ds.take (y * C + x) ++ [pv] = d' := ⟨_, rfl⟩
     have hdn := hid (show ds.take (y * C + (x + 1)) = d' by rw [← hd', ← hdk.out, ← Nat.add_assoc, List.take_succ_eq_append_getElem hk'])
     replace hd' := hid hd'
     have hdlen : (ds.take (y * C + x)).length ≤ 4194304 := by
      have h_ := hdl.out
      have h2_ := List.length_take_le (y * C + x) ds
      omega
     generalize ds.take (y * C + x) = d at *
     obtain ⟨B, k, q2, hown⟩ := hS.ex
     have HS := hid hS
     have hw1 : Below wr.heap.size wr wr := Below.refl _ _
     have hlq := Kd q2
     clear hdk hk' hS hqx hqy lx ly
     go_upto_region 14 with fail
     refine Ordt.start (x := 13) (S := fun w' => w'.cell? ⟨gO, 2, none⟩ = some (.slice B d.length k) ∧ w'.cell? ⟨w.heap.size, 0, none⟩ = some (.int .i64 m.w) ∧ w'.cell? ⟨w.heap.size, 1, none⟩ = some (.int .i64 m.h) ∧ w'.cell? ⟨w.heap.size, 2, none⟩ = some (.slice A m.d.length c)) (by kernel_rfl) ?_ (fun hHeld => ?_)
     ·exact ⟨q2, c0, c1, c2⟩
     refine' TKt 0 ?_
     refine' TKt 1 ?_
     refine' TKt 2 ?_
     refine' TKt 3 ?_
     refine' TKt 4 ?_
     refine' TKt 5 ?_
     refine' TKt 6 ?_
     refine' TKt 7 ?_
     refine' TKt 8 ?_
     refine' Ordt.step (i := 9) (by decide +kernel) rfl (fun K hK => ?_)
     go_simp
     (go_at_call 40; (with_reducible refine (HDk1.out _ (Kb hw1 BG)).mono ?_); rintro e y1 ⟨rfl, hq_⟩; have qy1 : Below wr.heap.size wr y1 := Kb BG hq_; have c0 := Ka qy1 c0; have c1 := Ka qy1 c1; have c2 := Ka qy1 c2; have q2 := Ka qy1 q2; have hown := K2 hown qy1)
     (try go_wp2_with fail)
     refine' HKa hK (by (first | ((try dsimp only); repeat' (first | with_reducible assumption | apply And.intro | (with_reducible refine Kk ?_) | (with_reducible refine Kn ?_) | (with_reducible refine Kh (by omega) ?_) | (with_reducible refine Kp (by omega) ?_) | (with_reducible refine Ka (W := wr) ?_ ?_) | fail)))) (fun hHeld => ?_)
     clear hK K
     refine' Ordt.step (i := 10) (by decide +kernel) rfl (fun K hK => ?_)
     go_simp
     skip
     (try go_wp2_with fail)
     refine' HKa hK (by (first | ((try dsimp only); repeat' (first | with_reducible assumption | apply And.intro | (with_reducible refine Kk ?_) | (with_reducible refine Kn ?_) | (with_reducible refine Kh (by omega) ?_) | (with_reducible refine Kp (by omega) ?_) | (with_reducible refine Ka (W := wr) ?_ ?_) | fail)))) (fun hHeld => ?_)
     clear hK K
     have hal := (Below.refl y1.heap.size y1).alloc (Nat.le_refl _) (.cells #[.bool pv] 4)
     have hsz1 := qy1.size
     refine' Ordt.step (i := 11) (by decide +kernel) rfl (fun K hK => ?_)
     (refine Wm rfl (.tmp 53) (.tmp 62) 22 rfl 4 (.bool false) 1 Tryz.underlying22 D8 rfl (gO + 1) bv (fun _ => rfl) _ d rfl (K2 hown hal) _ 1 [pv] rfl (Eb bv _ pv 4) (by simp; omega) (by simp; omega) (by simp; omega) ?_; intro v5 w6 hown6 hgr hwh; have hb7 : Below (gO + 1) (y1.alloc (.cells #[.bool pv] 4)) w6 := J3 (K2 hown hal) hgr (by simp; omega); have e0 := (hb7.cell (p := ⟨w.heap.size, 0, none⟩) (by dsimp only; omega)).trans (Ka hal c0); have e1 := (hb7.cell (p := ⟨w.heap.size, 1, none⟩) (by dsimp only; omega)).trans (Ka hal c1); have e2 := (hb7.cell (p := ⟨w.heap.size, 2, none⟩) (by dsimp only; omega)).trans (Ka hal c2); have e3 := (hb7.cell (p := ⟨gO, 2, none⟩) (by dsimp only; omega)).trans (Ka hal q2); rw [hd'.out] at hown6; obtain ⟨B5, k5, rfl, _, f5, l5, hO5⟩ := OutP.grow ((HS.out.below qy1).below hal) hown6 hb7)
     refine' HKa hK (by exact ⟨e3, e0, e1, e2⟩) (fun hHeld => ?_)
     clear hK K
     refine' TKt 12 ?_
     refine' Ordt.store (by decide +kernel) rfl (by decide +kernel) (fun K hK => ?_)
     go_simp
     (try go_wp2_with fail)
     refine hK.out _ _ ?_
     clear hK K
     (try simp only [Act.put, Lp0, Lp1, Lp2])
     refine Ordt.done (by decide +kernel) ?_
     have hO5 := hid hO5
     clear hgr hwh hown6 hb7 e0 e1 e2 e3 c0 c1 c2 q2 hown f5 hal q0
     go_wp2
     go_roundw
     case rel => exact ⟨x + 1, by omega, by go_num, by rw [hdn.out]; exact hO5.out⟩
     case measure => simp [intOf]; omega
    ·obtain rfl : x = C := by omega
     have e1 : y * x + x = (y + 1) * x := by rw [Nat.add_mul, Nat.one_mul]
     rw [e1] at hS
     go_wp2
     go_roundw
     case rel => exact ⟨y + 1, by omega, by go_num, hS⟩
     case measure => simp [intOf]; omega
  ·obtain rfl : y = R := by omega
   obtain ⟨HB, ⟨c0, c1, c2⟩, r2, zn2⟩ := HU.out wr hS.b
   rw [List.take_of_length_le (by rw [hdl.out, hn.out, Nat.mul_comm]; exact Nat.le_refl _)] at hS
   obtain ⟨B, k, q2, hown⟩ := hS.ex
   have q0 := hS.c0
   have q1 := hS.c1
   have ltq := Kd q0
   have k0 : wr.cell? ⟨w.heap.size + 1, 0, none⟩ = some (.int .i64 0) := r2 0 _ rfl
   have k1 : wr.cell? ⟨w.heap.size + 1, 1, none⟩ = some (.int .i64 0) := r2 1 _ rfl
   have k2 : wr.cell? ⟨w.heap.size + 1, 2, none⟩ = some (.slice none 0 0) := r2 2 _ rfl
   have ltk := Kd k0
   have fk := zn2.fr
   have hne : w.heap.size + 1 < gO + 1 := by omega
   have HBf := hid (Kg (Kg (Kg HB (show w.heap.size ≤ w.heap.size + 1 by omega) 0 (.int .i64 (C : Int))) (show w.heap.size ≤ w.heap.size + 1 by omega) 1 (.int .i64 (y : Int))) (show w.heap.size ≤ w.heap.size + 1 by omega) 2 (.slice B ds.length k))
   have HMf := hid (own_mb (Zx (i := 2) (u := .slice B ds.length k) (Zx (i := 1) (u := .int .i64 (y : Int)) (Zx (i := 0) (u := .int .i64 (C : Int)) hown hne) hne) hne))
   clear r2 zn2 HB hown hS HU HDk hdg c0 c1 c2
   generalize hdn : ds.length = dn at *
   go_wp2
   refine bodyPost_ret (v := .tuple #[.agg #[.int .i64 (C : Int), .int .i64 (y : Int), .slice B dn k], .int .i64 0]) ?_ rfl ?_
   ·simp [results, Tryz.results25, go_sem, k0, k1, k2]
   ·exact ⟨B, k, by rw [← hdn], HMf.out, HBf.out⟩
def crpL (m : Bm) (X Y W H : Int) : List Bool := (ptsB W H).map fun p => pixZ m (En X + p.1) (En Y + p.2)
set_option maxRecDepth 100000 in
set_option maxHeartbeats 8000000 in
theorem S1Crop_g {m : Bm} {A : Option Addr} {c : Nat} {w : World} (hm : bmB m = true) (hb : Mb w A c m.d) (X Y W H : Int) (hX : -9223372036854775808 ≤ X ∧ X ≤ 9223372036854775807) (hY : -9223372036854775808 ≤ Y ∧ Y ≤ 9223372036854775807) (hs : J9 W H = true) :
  Calls Tryz.prog 26 #[.agg #[.int .i64 m.w, .int .i64 m.h, .slice A m.d.length c], .agg #[.int .i64 X, .int .i64 Y, .int .i64 W, .int .i64 H]] w (D7 w (⟨W, H, crpL m X Y W H⟩, 0)) := by
 have HVa := hid fun (W : World) => (show Calls Tryz.prog 48 #[.agg #[.int .i64 m.w, .int .i64 m.h, .slice A m.d.length c]] W (RetB W true) from by
  have := D6 m A c W
  rwa [hm] at this)
 have HNX := hid fun (W : World) => S1near_g X hX W
 have HNY := hid fun (W : World) => S1near_g Y hY W
 have HDk := hid fun (W : World) (h : Below w.heap.size w W) => S1At_g hm (hb.below h)
 have hmc := hb.cap
 have hmx := hb.max
 obtain ⟨a1, a2, a3, a4, a5⟩ := Jj.1 hs
 obtain ⟨C, rfl⟩ := Int.eq_ofNat_of_zero_le (show 0 ≤ W by omega)
 obtain ⟨R, rfl⟩ := Int.eq_ofNat_of_zero_le (show 0 ≤ H by omega)
 have HPo := hid fun (W : World) => (show Calls Tryz.prog 50 #[.int .i64 (C : Int), .int .i64 (R : Int)] W (RetB W true) from by
  have := S1fits (C : Int) (R : Int) W
  rwa [hs] at this)
 obtain ⟨n, hn⟩ : ∃ n, n = C * R := ⟨_, rfl⟩
 have hpn : (C : Int) * (R : Int) = (n : Int) := by rw [hn, Int.natCast_mul]
 obtain ⟨NX, hNX⟩ : ∃ z, max (-10000) (min 10000 X) = z := ⟨_, rfl⟩
 obtain ⟨NY, hNY⟩ : ∃ z, max (-10000) (min 10000 Y) = z := ⟨_, rfl⟩
 have lX : -10000 ≤ NX ∧ NX ≤ 10000 := by omega
 have lY : -10000 ≤ NY ∧ NY ≤ 10000 := by omega
 rw [hNX] at HNX
 rw [hNY] at HNY
 obtain ⟨ds, hds⟩ : ∃ ds, ds = crpL m X Y (C : Int) (R : Int) := ⟨_, rfl⟩
 have hds' : ds = (ptsB (C : Int) (R : Int)).map fun p => pixZ m (NX + p.1) (NY + p.2) := by rw [hds, ← hNX, ← hNY]; rfl
 have hdl : ds.length = n := by rw [hds', tab_len, hn]
 have hdg := hid fun (x y : Nat) (hx : x < C) (hy : y < R) (h : y * C + x < ds.length) => (show ds[y * C + x] = pixZ m (NX + (x : Int)) (NY + (y : Int)) by
  subst hds'
  rw [tab_get hx hy h])
 rw [← hds]
 have hC4 : C ≤ 4096 := by omega
 have hR4 : R ≤ 4096 := by omega
 have hn4 : n ≤ 4194304 := by omega
 replace hn := hid hn
 replace hdl := hid hdl
 clear hm hb hs hpn a1 a2 a3 a4 a5 hds hds' hNX hNY hX hY
 go_enter Tryz.func26, Tryz.ntmps26
 go_upto_region 1 with fail
 refine X5 (P := fun u => Code.wp _ _ _ _ u) (c0 := [.int .i64 m.w, .int .i64 m.h, .slice A m.d.length c]) (c1 := [.int .i64 X, .int .i64 Y, .int .i64 (C : Int), .int .i64 (R : Int)]) (c2 := [.int .i64 0, .int .i64 0, .slice none 0 0]) ?_
 intro u HB r0 r1 r2 zn0 zn1 zn2 hsz
 clear hsz zn0 zn1
 have r2 : u.rangeAt (w.heap.size + 1 + 1) 0 [.int .i64 0, .int .i64 0, .slice none 0 0] := r2
 have c0 : (u).cell? ⟨w.heap.size, 0, none⟩ = some (.int .i64 m.w) := r0 0 _ rfl
 have c1 : (u).cell? ⟨w.heap.size, 1, none⟩ = some (.int .i64 m.h) := r0 1 _ rfl
 have c2 : (u).cell? ⟨w.heap.size, 2, none⟩ = some (.slice A m.d.length c) := r0 2 _ rfl
 have j0 : u.cell? ⟨w.heap.size + 1, 0, none⟩ = some (.int .i64 X) := r1 0 _ rfl
 have j1 : u.cell? ⟨w.heap.size + 1, 1, none⟩ = some (.int .i64 Y) := r1 1 _ rfl
 have j2 : u.cell? ⟨w.heap.size + 1, 2, none⟩ = some (.int .i64 (C : Int)) := r1 2 _ rfl
 have j3 : u.cell? ⟨w.heap.size + 1, 3, none⟩ = some (.int .i64 (R : Int)) := r1 3 _ rfl
 clear r0 r1
 go_wp2_with fail
 refine (HVa.out u).mono ?_
 rintro e v ⟨rfl, hv⟩
 have r2 := Ke r2 hv
 have zn2 := zn2.below hv
 have HB := Kb HB hv
 have c0 := Ka hv c0
 have c1 := Ka hv c1
 have c2 := Ka hv c2
 have j0 := Ka hv j0
 have j1 := Ka hv j1
 have j2 := Ka hv j2
 have j3 := Ka hv j3
 clear HVa hv
 go_wp2_with fail
 refine (HPo.out v).mono ?_
 rintro e v3 ⟨rfl, hv3⟩
 have r2 := Ke r2 hv3
 have zn2 := zn2.below hv3
 have HB := Kb HB hv3
 have c0 := Ka hv3 c0
 have c1 := Ka hv3 c1
 have c2 := Ka hv3 c2
 have j0 := Ka hv3 j0
 have j1 := Ka hv3 j1
 have j2 := Ka hv3 j2
 have j3 := Ka hv3 j3
 clear HPo hv3
 go_upto_region 6 with fail
 refine Kw (P := fun u => Code.wp _ _ _ _ u) (c := [.int .i64 (C : Int), .int .i64 (R : Int), .slice none 0 0]) ?_
 intro v4 hv4 ro zo hsz
 have HU := hid fun (W : World) (h : Below v3.heap.size v3 W) => And.intro (Kb HB h) (And.intro (And.intro (Ka h c0) (And.intro (Ka h c1) (Ka h c2))) (And.intro (And.intro (Ka h j0) (And.intro (Ka h j1) (And.intro (Ka h j2) (Ka h j3)))) (And.intro (Ke r2 h) (zn2.below h))))
 have hlr := zn2.lt
 have hlm := Kd c0
 obtain ⟨gO, hgO⟩ : ∃ g, g = v3.heap.size := ⟨_, rfl⟩
 rw [← hgO] at ro zo hlr hlm ⊢
 have hF : OutP v3 gO (C : Int) (R : Int) (ds.take 0) v4 := OutP.new hv4 hgO ro zo
 clear hv4 ro zo hsz c0 c1 c2 j0 j1 j2 j3 r2 zn2 HB hgO
 go_wp2
 go_loopw [7] (fun s7 wr => ∃ y : Nat, y ≤ R ∧ s7 = .int .i64 y ∧ OutP v3 gO (C : Int) (R : Int) (ds.take (y * C)) wr) (fun s7 _ => R - (intOf s7).toNat)
 case atStart => exact ⟨0, by omega, rfl, by rw [Nat.zero_mul]; exact hF⟩
 case round =>
  obtain ⟨y, hy, rfl, hS⟩ := hrel
  clear hF
  by_cases hyR : y < R
  ·have hyi : (y : Int) < (R : Int) := by omega
   obtain ⟨_, _, ⟨j0, j1, j2, j3⟩, _⟩ := HU.out wr hS.b
   go_wp2
   clear j0 j1 j2 j3
   go_loopw [8] (fun s8 wr => ∃ x : Nat, x ≤ C ∧ s8 = .int .i64 x ∧ OutP v3 gO (C : Int) (R : Int) (ds.take (y * C + x)) wr) (fun s8 _ => C - (intOf s8).toNat)
   case atStart => exact ⟨0, by omega, rfl, hS⟩
   case round =>
    obtain ⟨x, hx, rfl, hS⟩ := hrel
    obtain ⟨HB, ⟨c0, c1, c2⟩, ⟨j0, j1, j2, j3⟩, _⟩ := HU.out wr hS.b
    by_cases hxC : x < C
    ·have hxi : (x : Int) < (C : Int) := by omega
     have hpl := place hxC hyR
     have hk' : y * C + x < ds.length := by rw [hdl.out, hn.out]; exact hpl
     have hdk := hid (hdg.out x y hxC hyR hk')
     have HDk1 := hid fun (W : World) (h : Below wr.heap.size wr W) => HDk.out W (Kb HB h) (NX + (x : Int)) (NY + (y : Int))
     obtain ⟨qx, hqx⟩ : ∃ q, NX + (x : Int) = q := ⟨_, rfl⟩
     obtain ⟨qy, hqy⟩ : ∃ q, NY + (y : Int) = q := ⟨_, rfl⟩
     have d5 : IntKind.i64.wrap (NX + (x : Int)) = qx := by rw [IntKind.wrap_i64]; omega
     have d6 : IntKind.i64.wrap (NY + (y : Int)) = qy := by rw [IntKind.wrap_i64]; omega
     rw [hqx, hqy] at HDk1 hdk
     clear hqx hqy
     generalize pixZ m qx qy = pv at *
     obtain ⟨d', hd'⟩ : ∃ d', ds.take (y * C + x) ++ [pv] = d' := ⟨_, rfl⟩
     have hdn := hid (show ds.take (y * C + (x + 1)) = d' by rw [← hd', ← hdk.out, ← Nat.add_assoc, List.take_succ_eq_append_getElem hk'])
     replace hd' := hid hd'
     have hdlen : (ds.take (y * C + x)).length ≤ 4194304 := by
      have h_ := hdl.out
      have h2_ := List.length_take_le (y * C + x) ds
      omega
     generalize ds.take (y * C + x) = d at *
     obtain ⟨B, k, q2, hown⟩ := hS.ex
     have HS := hid hS
     have hw1 : Below wr.heap.size wr wr := Below.refl _ _
     have hlq := Kd q2
     clear hdk hk' hS
     go_upto_region 12 with fail
     refine Ordt.start (x := 17) (S := fun w' => w'.cell? ⟨gO, 2, none⟩ = some (.slice B d.length k) ∧ w'.cell? ⟨w.heap.size, 0, none⟩ = some (.int .i64 m.w) ∧ w'.cell? ⟨w.heap.size, 1, none⟩ = some (.int .i64 m.h) ∧ w'.cell? ⟨w.heap.size, 2, none⟩ = some (.slice A m.d.length c) ∧ w'.cell? ⟨w.heap.size + 1, 0, none⟩ = some (.int .i64 X) ∧ w'.cell? ⟨w.heap.size + 1, 1, none⟩ = some (.int .i64 Y)) (by kernel_rfl) ?_ (fun hHeld => ?_)
     ·exact ⟨q2, c0, c1, c2, j0, j1⟩
     refine' TKt 0 ?_
     refine' TKt 1 ?_
     refine' TKt 2 ?_
     refine' TKt 3 ?_
     refine' TKt 4 ?_
     refine' TKt 6 ?_
     refine' TKt 8 ?_
     refine' TKt 9 ?_
     refine' TKt 11 ?_
     refine' Ordt.step (i := 5) (by decide +kernel) rfl (fun K hK => ?_)
     go_simp
     (go_at_call 51; (with_reducible refine (HNX.out _).mono ?_); rintro e z1 ⟨rfl, hq_⟩; have qz1 : Below wr.heap.size wr z1 := Kb BG hq_)
     (try go_wp2_with fail)
     refine' HKa hK (by (first | ((try dsimp only); repeat' (first | with_reducible assumption | apply And.intro | (with_reducible refine Kk ?_) | (with_reducible refine Kn ?_) | (with_reducible refine Kh (by omega) ?_) | (with_reducible refine Kp (by omega) ?_) | (with_reducible refine Ka (W := wr) ?_ ?_) | fail)))) (fun hHeld => ?_)
     clear hK K
     refine' TKt 7 ?_
     refine' Ordt.step (i := 10) (by decide +kernel) rfl (fun K hK => ?_)
     go_simp
     (go_at_call 51; (with_reducible refine (HNY.out _).mono ?_); rintro e z2 ⟨rfl, hq_⟩; have qz2 : Below wr.heap.size wr z2 := Kb BG hq_)
     (try go_wp2_with fail)
     refine' HKa hK (by (first | ((try dsimp only); repeat' (first | with_reducible assumption | apply And.intro | (with_reducible refine Kk ?_) | (with_reducible refine Kn ?_) | (with_reducible refine Kh (by omega) ?_) | (with_reducible refine Kp (by omega) ?_) | (with_reducible refine Ka (W := wr) ?_ ?_) | fail)))) (fun hHeld => ?_)
     clear hK K
     refine' TKt 12 ?_
     refine' Ordt.step (i := 13) (by decide +kernel) rfl (fun K hK => ?_)
     go_simp
     (go_at_call 40; (with_reducible refine (HDk1.out _ (Kb hw1 BG)).mono ?_); rintro e y1 ⟨rfl, hq_⟩; have qy1 : Below wr.heap.size wr y1 := Kb BG hq_; have c0 := Ka qy1 c0; have c1 := Ka qy1 c1; have c2 := Ka qy1 c2; have q2 := Ka qy1 q2; have j0 := Ka qy1 j0; have j1 := Ka qy1 j1; have hown := K2 hown qy1)
     (try go_wp2_with fail)
     refine' HKa hK (by (first | ((try dsimp only); repeat' (first | with_reducible assumption | apply And.intro | (with_reducible refine Kk ?_) | (with_reducible refine Kn ?_) | (with_reducible refine Kh (by omega) ?_) | (with_reducible refine Kp (by omega) ?_) | (with_reducible refine Ka (W := wr) ?_ ?_) | fail)))) (fun hHeld => ?_)
     clear hK K
     refine' Ordt.step (i := 14) (by decide +kernel) rfl (fun K hK => ?_)
     go_simp
     skip
     (try go_wp2_with fail)
     refine' HKa hK (by (first | ((try dsimp only); repeat' (first | with_reducible assumption | apply And.intro | (with_reducible refine Kk ?_) | (with_reducible refine Kn ?_) | (with_reducible refine Kh (by omega) ?_) | (with_reducible refine Kp (by omega) ?_) | (with_reducible refine Ka (W := wr) ?_ ?_) | fail)))) (fun hHeld => ?_)
     clear hK K
     have hal := (Below.refl y1.heap.size y1).alloc (Nat.le_refl _) (.cells #[.bool pv] 4)
     have hsz1 := qy1.size
     refine' Ordt.step (i := 15) (by decide +kernel) rfl (fun K hK => ?_)
     (refine Wm rfl (.tmp 38) (.tmp 51) 22 rfl 4 (.bool false) 1 Tryz.underlying22 D8 rfl (gO + 1) bv (fun _ => rfl) _ d rfl (K2 hown hal) _ 1 [pv] rfl (Eb bv _ pv 4) (by simp; omega) (by simp; omega) (by simp; omega) ?_; intro v5 w6 hown6 hgr hwh; have hb7 : Below (gO + 1) (y1.alloc (.cells #[.bool pv] 4)) w6 := J3 (K2 hown hal) hgr (by simp; omega); have e0 := (hb7.cell (p := ⟨w.heap.size, 0, none⟩) (by dsimp only; omega)).trans (Ka hal c0); have e1 := (hb7.cell (p := ⟨w.heap.size, 1, none⟩) (by dsimp only; omega)).trans (Ka hal c1); have e2 := (hb7.cell (p := ⟨w.heap.size, 2, none⟩) (by dsimp only; omega)).trans (Ka hal c2); have e3 := (hb7.cell (p := ⟨gO, 2, none⟩) (by dsimp only; omega)).trans (Ka hal q2); have e4 := (hb7.cell (p := ⟨w.heap.size + 1, 0, none⟩) (by dsimp only; omega)).trans (Ka hal j0); have e5 := (hb7.cell (p := ⟨w.heap.size + 1, 1, none⟩) (by dsimp only; omega)).trans (Ka hal j1); rw [hd'.out] at hown6; obtain ⟨B5, k5, rfl, _, f5, l5, hO5⟩ := OutP.grow ((HS.out.below qy1).below hal) hown6 hb7)
     refine' HKa hK (by exact ⟨e3, e0, e1, e2, e4, e5⟩) (fun hHeld => ?_)
     clear hK K
     refine' TKt 16 ?_
     refine' Ordt.store (by decide +kernel) rfl (by decide +kernel) (fun K hK => ?_)
     go_simp
     (try go_wp2_with fail)
     refine hK.out _ _ ?_
     clear hK K
     (try simp only [Act.put, Lp0, Lp1, Lp2])
     refine Ordt.done (by decide +kernel) ?_
     have hO5 := hid hO5
     clear hgr hwh hown6 hb7 e0 e1 e2 e3 e4 e5 c0 c1 c2 q2 hown f5 hal j0 j1
     go_wp2
     go_roundw
     case rel => exact ⟨x + 1, by omega, by go_num, by rw [hdn.out]; exact hO5.out⟩
     case measure => simp [intOf]; omega
    ·obtain rfl : x = C := by omega
     have e1 : y * x + x = (y + 1) * x := by rw [Nat.add_mul, Nat.one_mul]
     rw [e1] at hS
     go_wp2
     go_roundw
     case rel => exact ⟨y + 1, by omega, by go_num, hS⟩
     case measure => simp [intOf]; omega
  ·obtain rfl : y = R := by omega
   obtain ⟨HB, ⟨c0, c1, c2⟩, ⟨j0, j1, j2, j3⟩, r2, zn2⟩ := HU.out wr hS.b
   rw [List.take_of_length_le (by rw [hdl.out, hn.out, Nat.mul_comm]; exact Nat.le_refl _)] at hS
   obtain ⟨B, k, q2, hown⟩ := hS.ex
   have q0 := hS.c0
   have q1 := hS.c1
   have ltq := Kd q0
   have k0 : wr.cell? ⟨w.heap.size + 1 + 1, 0, none⟩ = some (.int .i64 0) := r2 0 _ rfl
   have k1 : wr.cell? ⟨w.heap.size + 1 + 1, 1, none⟩ = some (.int .i64 0) := r2 1 _ rfl
   have k2 : wr.cell? ⟨w.heap.size + 1 + 1, 2, none⟩ = some (.slice none 0 0) := r2 2 _ rfl
   have ltk := Kd k0
   have fk := zn2.fr
   have hne : w.heap.size + 1 + 1 < gO + 1 := by omega
   have HBf := hid (Kg (Kg (Kg HB (show w.heap.size ≤ w.heap.size + 1 + 1 by omega) 0 (.int .i64 (C : Int))) (show w.heap.size ≤ w.heap.size + 1 + 1 by omega) 1 (.int .i64 (y : Int))) (show w.heap.size ≤ w.heap.size + 1 + 1 by omega) 2 (.slice B ds.length k))
   have HMf := hid (own_mb (Zx (i := 2) (u := .slice B ds.length k) (Zx (i := 1) (u := .int .i64 (y : Int)) (Zx (i := 0) (u := .int .i64 (C : Int)) hown hne) hne) hne))
   clear r2 zn2 HB hown hS HU HDk hdg c0 c1 c2 j0 j1 j2
   generalize hdn : ds.length = dn at *
   go_wp2
   refine bodyPost_ret (v := .tuple #[.agg #[.int .i64 (C : Int), .int .i64 (y : Int), .slice B dn k], .int .i64 0]) ?_ rfl ?_
   ·simp [results, Tryz.results26, go_sem, k0, k1, k2]
   ·exact ⟨B, k, by rw [← hdn], HMf.out, HBf.out⟩
end Go.Proofs.YtdkgbkbbbldliaaGreat
