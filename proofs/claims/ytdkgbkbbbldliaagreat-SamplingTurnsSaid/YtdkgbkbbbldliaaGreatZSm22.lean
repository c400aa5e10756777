/- Bitmaps, the reference: one quarter turn. Conditions: none. -/
import Derived.Test.YtdkgbkbbbldliaaGreatZSR
import Derived.Test.YtdkgbkbbbldliaaGreatZSP
import Derived.Test.YtdkgbkbbbldliaaGreatZYI
import Derived.Test.YtdkgbkbbbldliaaGreatZLsX
set_option linter.unusedVariables false
set_option linter.unusedSimpArgs false
namespace Go.Proofs.YtdkgbkbbbldliaaGreat
open Go.RowKit Big
set_option maxHeartbeats 1000000 in
theorem S1quarters_1 (w : World) : Calls Tryz.prog 52 #[.int .i64 1] w (RetI w 1) := by
 go_enter Tryz.func52, Tryz.ntmps52
 go_wp2
 go_ret
 exact ⟨rfl, Below.refl _ _⟩
set_option maxHeartbeats 1000000 in
theorem S1turned_g (W H i : Nat) (hW : W ≤ 4096) (hH : 1 ≤ H ∧ H ≤ 4096) (hi : i < W * H) (w : World) : Calls Tryz.prog 53 #[.int .i64 W, .int .i64 H, .int .i64 i] w (RetI w (((H - 1 - i % H) * W + i / H : Nat) : Int)) := by
 have hn : W * H ≤ 4096 * 4096 := Nat.mul_le_mul hW hH.2
 obtain ⟨r, hr⟩ : ∃ r, i % H = r := ⟨_, rfl⟩
 obtain ⟨q, hq⟩ : ∃ q, i / H = q := ⟨_, rfl⟩
 have lr : r < H := by rw [← hr]; exact Nat.mod_lt _ (by omega)
 have lq : q ≤ 16777216 := by rw [← hq]; exact Nat.le_trans (Nat.div_le_self _ _) (by omega)
 obtain ⟨s, hs⟩ : ∃ s, H - 1 - r = s := ⟨_, rfl⟩
 obtain ⟨p, hp⟩ : ∃ p, s * W = p := ⟨_, rfl⟩
 have lp : p ≤ 4096 * 4096 := by rw [← hp]; exact Nat.mul_le_mul (by omega) hW
 have t1 : Int.tmod (i : Int) (H : Int) = (r : Int) := by rw [Int.tmod_eq_emod_of_nonneg (by omega), ← hr, Int.natCast_emod]
 have t2 : (i : Int) % (H : Int) = (r : Int) := by rw [← hr, Int.natCast_emod]
 have t3 : Int.tdiv (i : Int) (H : Int) = (q : Int) := by rw [Int.tdiv_eq_ediv_of_nonneg (by omega), ← hq, Int.natCast_ediv]
 have t4 : (i : Int) / (H : Int) = (q : Int) := by rw [← hq, Int.natCast_ediv]
 have t5 : IntKind.i64.wrap (q : Int) = (q : Int) := by rw [IntKind.wrap_i64]; omega
 obtain ⟨H1, hH1⟩ : ∃ z : Int, (H : Int) - 1 = z := ⟨_, rfl⟩
 have t6 : IntKind.i64.wrap ((H : Int) - 1) = H1 := by rw [IntKind.wrap_i64]; omega
 have t7 : IntKind.i64.wrap (H1 - (r : Int)) = (s : Int) := by rw [IntKind.wrap_i64]; omega
 have t8 : IntKind.i64.wrap ((s : Int) * (W : Int)) = (p : Int) := by rw [IntKind.wrap_i64, ← Int.natCast_mul, hp]; omega
 have t9 : IntKind.i64.wrap ((p : Int) + (q : Int)) = ((p + q : Nat) : Int) := by rw [IntKind.wrap_i64]; omega
 have h0 : (H : Int) ≠ 0 := by omega
 have h00 : ¬ H = 0 := by omega
 rw [hr, hq, hs, hp]
 clear hr hq hs hp lr lp lq hi hn hH1 hW hH
 go_enter Tryz.func53, Tryz.ntmps53
 go_wp2
 go_ret
 exact ⟨rfl, Below.refl _ _⟩
theorem own_empty {w : World} {base : Nat} {t : TypeId} (hb : base ≤ w.heap.size) : (w.alloc (.cells #[] t)).ownsRow base t 1 (.slice (some ⟨w.heap.size, 0, none⟩) 0 0) ([] : List Bool).length (([] : List Bool).map bv) :=
 ⟨rfl, .inr ⟨w.heap.size, 0, #[], rfl, hb, heap_alloc_new _ _, by simp, by unfold maxLen; omega, rfl, rfl⟩⟩
theorem FilV.grown {v W W' : World} {g : Nat} {vs : List Value} {row : Option Nat} (h : FilV v g vs W) (hg : W.grownBy W' row) (hne : some g ≠ row) (hb : Below v.heap.size W W') : FilV v g vs W' := by
 have hblk := hg.block g h.z.lt hne
 refine ⟨h.b.trans hb, ⟨Nat.lt_of_lt_of_le h.z.lt hg.size, fun i => ?_⟩, h.hg, fun j x hx => (World.cell?_of_block (a := ⟨g, 0 + j, none⟩) hblk).trans (h.r j x hx)⟩
 exact (World.frozen?_of_block (a := ⟨g, i, none⟩) hblk).trans (h.z.fr i)
theorem turn_get {W H n : Nat} {d : List Bool} (hW : 1 ≤ W) (hH : 1 ≤ H) (hn : n = W * H) (hd : d.length = n) : (D9 ⟨(W : Int), (H : Int), d⟩).d.length = n ∧ ∀ i, i < n → ∀ (h : i < (D9 ⟨(W : Int), (H : Int), d⟩).d.length), ∃ ht : (H - 1 - i % H) * W + i / H < d.length, (D9 ⟨(W : Int), (H : Int), d⟩).d[i] = d[(H - 1 - i % H) * W + i / H] := by
 have hl : (D9 ⟨(W : Int), (H : Int), d⟩).d.length = n := by
  unfold D9
  rw [List.length_map, Hp, ← Int.natCast_mul, Int.toNat_natCast, hn, Nat.mul_comm]
 refine ⟨hl, fun i hi h => ?_⟩
 have hq : i / H < W := by rw [Nat.div_lt_iff_lt_mul (by omega)]; omega
 have hr : i % H < H := Nat.mod_lt _ (by omega)
 have ht : (H - 1 - i % H) * W + i / H < W * H := place hq (by omega)
 refine ⟨by rw [hd, hn]; exact ht, ?_⟩
 have hp : i < (ptsB (H : Int) (W : Int)).length := by rw [Hp, ← Int.natCast_mul, Int.toNat_natCast, Nat.mul_comm]; omega
 have e1 : (D9 ⟨(W : Int), (H : Int), d⟩).d[i] = d.getD (((H : Int) - 1 - (i : Int) % (H : Int)) * (W : Int) + (i : Int) / (H : Int)).toNat false := by
  have h1 := List.getElem_map (l := ptsB (H : Int) (W : Int)) (fun p : Int × Int => d.getD (((H : Int) - 1 - p.1) * (W : Int) + p.2).toNat false) (i := i) (h := h)
  rw [Ei hp] at h1
  exact h1
 have e2 : (((H : Int) - 1 - (i : Int) % (H : Int)) * (W : Int) + (i : Int) / (H : Int)).toNat = (H - 1 - i % H) * W + i / H := by
  have a1 : (H : Int) - 1 - (i : Int) % (H : Int) = ((H - 1 - i % H : Nat) : Int) := by rw [← Int.natCast_emod]; omega
  rw [a1, ← Int.natCast_ediv, ← Int.natCast_mul, ← Int.natCast_add, Int.toNat_natCast]
 rw [e1, e2, List.getD_eq_getElem?_getD, List.getElem?_eq_getElem (by rw [hd, hn]; exact ht)]
 rfl
theorem rng_lt {W : World} {g : Nat} {vs : List Value} (h : W.rangeAt g 0 vs) (hl : 0 < vs.length) : g < W.heap.size := Kd (h 0 vs[0] (List.getElem?_eq_getElem hl))
theorem ne_bool {W : World} {g gC n : Nat} {a : Int} {d : List Bool} (f0 : W.cell? ⟨g, 0, none⟩ = some (.int .i64 a)) (rC : W.rangeAt gC 0 (d.map bv)) (hn : 0 < n) (hd : d.length = n) (e : g = gC) : False := by
 subst e
 match d, hd with
 | t :: d, _ =>
  have := rC 0 (bv t) rfl
  rw [Nat.zero_add, f0] at this
  simp [bv] at this
 | [], hd => simp at hd; omega
set_option maxRecDepth 100000 in
set_option maxHeartbeats 8000000 in
theorem S1Turn_g {m : Bm} {A : Option Addr} {c : Nat} {w : World} (hm : bmB m = true) (hb : Mb w A c m.d) :
  Calls Tryz.prog 27 #[.agg #[.int .i64 m.w, .int .i64 m.h, .slice A m.d.length c], .int .i64 1] w (D7 w (D9 m, 0)) := by
 have HVa := hid fun (W : World) => (show Calls Tryz.prog 48 #[.agg #[.int .i64 m.w, .int .i64 m.h, .slice A m.d.length c]] W (RetB W true) from by
  have := D6 m A c W
  rwa [hm] at this)
 have hmc := hb.cap
 have hmx := hb.max
 have hRd := hid fun (W : World) (h : Below w.heap.size w W) => (hb.below h).rd
 obtain ⟨⟨m1, m2, m3, m4, m5⟩, m6⟩ := W5.1 hm
 obtain ⟨mw, mh, d⟩ := m
 dsimp only at *
 obtain ⟨W, rfl⟩ := Int.eq_ofNat_of_zero_le (show 0 ≤ mw by omega)
 obtain ⟨H, rfl⟩ := Int.eq_ofNat_of_zero_le (show 0 ≤ mh by omega)
 obtain ⟨n, hn⟩ : ∃ n, n = W * H := ⟨_, rfl⟩
 have hpn : (W : Int) * (H : Int) = (n : Int) := by rw [hn, Int.natCast_mul]
 rw [hpn] at m5 m6
 have hdn : d.length = n := by omega
 obtain ⟨b, o, hA, hcs⟩ : ∃ b o, A = some ⟨b, o, none⟩ ∧ True := by
  obtain ⟨b, o, e, _⟩ := hb.rd (by have : 0 < W * H := Nat.mul_pos (by omega) (by omega); omega)
  exact ⟨b, o, e, trivial⟩
 subst hA
 rw [hdn] at hmc ⊢
 rw [hdn] at HVa
 have hn4 : n ≤ 4194304 := by omega
 replace hn := hid hn
 replace hdn := hid hdn
 have hn0 : 0 < n := by rw [hn.out]; exact Nat.mul_pos (by omega) (by omega)
 clear hcs hb hm m6 hpn m5
 go_enter Tryz.func27, Tryz.ntmps27
 go_upto_region 1 with fail
 refine Jc (P := fun u => Code.wp _ _ _ _ u) (c0 := [.int .i64 (W : Int), .int .i64 (H : Int), .slice (some ⟨b, o, none⟩) n c]) (c1 := [.int .i64 0, .int .i64 0, .slice none 0 0]) ?_
 intro u HB r0 r2 zn0 zn2 hsz
 clear hsz zn0
 have c0 : u.cell? ⟨w.heap.size, 0, none⟩ = some (.int .i64 (W : Int)) := r0 0 _ rfl
 have c1 : u.cell? ⟨w.heap.size, 1, none⟩ = some (.int .i64 (H : Int)) := r0 1 _ rfl
 have c2 : u.cell? ⟨w.heap.size, 2, none⟩ = some (.slice (some ⟨b, o, none⟩) n c) := r0 2 _ rfl
 clear r0
 go_wp2_with fail
 refine (HVa.out u).mono ?_
 rintro e v ⟨rfl, hv⟩
 have r2 := Ke r2 hv
 have zn2 := zn2.below hv
 have HB := Kb HB hv
 have c0 := Ka hv c0
 have c1 := Ka hv c1
 have c2 := Ka hv c2
 clear HVa hv
 go_upto_region 3 with fail
 have hlw := Kd c0
 go_cut [6] (fun s6 wx => ∃ g6 gC kC : Nat, s6 = .pointer (some ⟨g6, 0, none⟩) ∧ FilV v g6 [.int .i64 (W : Int), .int .i64 (H : Int), .slice (some ⟨gC, 0, none⟩) n kC] wx ∧ wx.rangeAt gC 0 (d.map bv))
 case first =>
  have qc : Below v.heap.size v v.drew := Qj
  refine wp_region_held_drew (S := fun w' => w'.cell? ⟨w.heap.size, 0, none⟩ = some (.int .i64 (W : Int)) ∧ w'.cell? ⟨w.heap.size, 1, none⟩ = some (.int .i64 (H : Int)) ∧ w'.cell? ⟨w.heap.size, 2, none⟩ = some (.slice (some ⟨b, o, none⟩) n c) ∧ Below v.heap.size v w') (by kernel_rfl) ?_ (fun hHeld => ?_)
  ·exact ⟨c0, c1, c2, qc⟩
  generalize v.drew = vd at *
  refine' TKa 0 ?_
  refine' TKa 1 ?_
  refine' TKa 2 ?_
  refine' TKa 3 ?_
  refine' TKa 5 ?_
  refine' TKa 6 ?_
  refine br2 (i := 4) (j := 9) (by decide +kernel) rfl rfl (fun K hK => ?_) (fun K hK => ?_)
  ·have hal_ := (Below.refl (vd).heap.size (vd)).alloc (Nat.le_refl _) (.cells #[] 4)
   have hown := own_empty (w := vd) (t := 4) qc.size
   have hlt : (vd).heap.size < ((vd).alloc (.cells #[] 4)).heap.size := by rw [World.size_alloc]; omega
   (try have hne0 : some _ ≠ some (vd).heap.size := fun e => Nat.ne_of_lt bx.z.lt (Option.some.inj e))
   have qc := Kb qc hal_
   (try have bx := bx.below hal_)
   go_simp
   skip
   (try go_wp2_with fail)
   refine' HKa hK (by exact ⟨Ka qc c0, Ka qc c1, Ka qc c2, qc⟩) (fun hHeld => ?_)
   clear hK K
   generalize (vd).alloc (.cells #[] 4) = pe at *
   refine br2 (i := 7) (j := 9) (by decide +kernel) rfl rfl (fun K hK => ?_) (fun K hK => ?_)
   ·refine Wm rfl (.tmp 18) (.tmp 20) 22 rfl 4 (.bool false) 1 Tryz.underlying22 D8 rfl v.heap.size bv (fun _ => rfl) _ ([] : List Bool) rfl hown (some ⟨b, o, none⟩) c d (by rw [hdn.out]; rfl) (hRd.out _ (Kb HB qc)) (by rw [hdn.out]; simp; omega) (by rw [hdn.out]; simp; omega) qc.size ?_
    intro v5 w6 hown6 hgr hwh
    have hb6 : Below v.heap.size (pe) w6 := J3 hown hgr qc.size
    rw [List.nil_append, hdn.out] at hown6
    obtain ⟨gC, kC, rfl, hgv_C, rC, hnc, hcm⟩ := Y6 hown6 hn0
    (try have bx := bx.grown hgr hne0 hb6)
    have qc := qc.trans hb6
    clear hown hown6 hgr hwh hb6
    refine' HKa hK (by exact ⟨Ka qc c0, Ka qc c1, Ka qc c2, qc⟩) (fun hHeld => ?_)
    clear hK K
    refine' TKa 8 ?_
    refine BRa 9 (fun K hK => ?_)
    have hal_ := (Below.refl (w6).heap.size (w6)).alloc (Nat.le_refl _) (.cells #[.int .i64 0, .int .i64 0, .slice none 0 0] 24)
    have hgv_ := qc.size
    have qc := Kb qc hal_
    have bx : FilV v (w6).heap.size [.int .i64 0, .int .i64 0, .slice none 0 0] ((w6).alloc (.cells #[.int .i64 0, .int .i64 0, .slice none 0 0] 24)) := ⟨qc, Zn.new_, hgv_, K4⟩
    (try have hown := K2 hown hal_)
    (try have rC := Ke rC hal_)
    (try have hne0 : some (w6).heap.size ≠ some _ := fun e => Nat.ne_of_gt hlt (Option.some.inj e))
    clear hgv_
    go_simp
    skip
    (try go_wp2_with fail)
    refine' HKa hK (by exact ⟨Ka qc c0, Ka qc c1, Ka qc c2, qc⟩) (fun hHeld => ?_)
    clear hK K
    generalize (w6).alloc (.cells #[.int .i64 0, .int .i64 0, .slice none 0 0] 24) = p18 at *
    obtain ⟨f0, f1, f2⟩ := bx.three
    have ff := bx.z.fr
    have fl := bx.z.lt
    have hgx := bx.hg
    have hneC : _ ≠ gC := fun e => ne_bool f0 rC hn0 hdn.out e
    obtain ⟨hR, _⟩ := bx.put3 (.int .i64 (W : Int)) (.int .i64 (H : Int)) (.slice (some ⟨gC, 0, none⟩) n kC)
    have hR := hid hR
    have hrC := hid (Jh (i := 2) (v := .slice (some ⟨gC, 0, none⟩) n kC) (Jh (i := 1) (v := .int .i64 (H : Int)) (Jh (i := 0) (v := .int .i64 (W : Int)) rC hneC) hneC) hneC)
    refine BRa 10 (fun K hK => ?_)
    go_simp
    skip
    (try go_wp2_with fail)
    refine' HKa hK (by (exact ⟨Kh (by omega) (Kh (by omega) (Kh (by omega) (Ka qc c0))), Kh (by omega) (Kh (by omega) (Kh (by omega) (Ka qc c1))), Kh (by omega) (Kh (by omega) (Kh (by omega) (Ka qc c2))), hR.out.b⟩)) (fun hHeld => ?_)
    clear hK K
    refine wpAnyH_done (by kernel_rfl) ?_ _
    go_wp2_with fail
    go_meet
    exact ⟨_, gC, kC, rfl, hR.out, hrC.out⟩
   ·have hal_ := (Below.refl (pe).heap.size (pe)).alloc (Nat.le_refl _) (.cells #[.int .i64 0, .int .i64 0, .slice none 0 0] 24)
    have hgv_ := qc.size
    have qc := Kb qc hal_
    have bx : FilV v (pe).heap.size [.int .i64 0, .int .i64 0, .slice none 0 0] ((pe).alloc (.cells #[.int .i64 0, .int .i64 0, .slice none 0 0] 24)) := ⟨qc, Zn.new_, hgv_, K4⟩
    (try have hown := K2 hown hal_)
    (try have rC := Ke rC hal_)
    (try have hne0 : some (pe).heap.size ≠ some _ := fun e => Nat.ne_of_gt hlt (Option.some.inj e))
    clear hgv_
    go_simp
    skip
    (try go_wp2_with fail)
    refine' HKa hK (by exact ⟨Ka qc c0, Ka qc c1, Ka qc c2, qc⟩) (fun hHeld => ?_)
    clear hK K
    generalize (pe).alloc (.cells #[.int .i64 0, .int .i64 0, .slice none 0 0] 24) = p18 at *
    refine BRa 7 (fun K hK => ?_)
    refine Wm rfl (.tmp 18) (.tmp 20) 22 rfl 4 (.bool false) 1 Tryz.underlying22 D8 rfl v.heap.size bv (fun _ => rfl) _ ([] : List Bool) rfl hown (some ⟨b, o, none⟩) c d (by rw [hdn.out]; rfl) (hRd.out _ (Kb HB qc)) (by rw [hdn.out]; simp; omega) (by rw [hdn.out]; simp; omega) qc.size ?_
    intro v5 w6 hown6 hgr hwh
    have hb6 : Below v.heap.size (p18) w6 := J3 hown hgr qc.size
    rw [List.nil_append, hdn.out] at hown6
    obtain ⟨gC, kC, rfl, hgv_C, rC, hnc, hcm⟩ := Y6 hown6 hn0
    (try have bx := bx.grown hgr hne0 hb6)
    have qc := qc.trans hb6
    clear hown hown6 hgr hwh hb6
    refine' HKa hK (by exact ⟨Ka qc c0, Ka qc c1, Ka qc c2, qc⟩) (fun hHeld => ?_)
    clear hK K
    refine' TKa 8 ?_
    obtain ⟨f0, f1, f2⟩ := bx.three
    have ff := bx.z.fr
    have fl := bx.z.lt
    have hgx := bx.hg
    have hneC : _ ≠ gC := fun e => ne_bool f0 rC hn0 hdn.out e
    obtain ⟨hR, _⟩ := bx.put3 (.int .i64 (W : Int)) (.int .i64 (H : Int)) (.slice (some ⟨gC, 0, none⟩) n kC)
    have hR := hid hR
    have hrC := hid (Jh (i := 2) (v := .slice (some ⟨gC, 0, none⟩) n kC) (Jh (i := 1) (v := .int .i64 (H : Int)) (Jh (i := 0) (v := .int .i64 (W : Int)) rC hneC) hneC) hneC)
    refine BRa 10 (fun K hK => ?_)
    go_simp
    skip
    (try go_wp2_with fail)
    refine' HKa hK (by (exact ⟨Kh (by omega) (Kh (by omega) (Kh (by omega) (Ka qc c0))), Kh (by omega) (Kh (by omega) (Kh (by omega) (Ka qc c1))), Kh (by omega) (Kh (by omega) (Kh (by omega) (Ka qc c2))), hR.out.b⟩)) (fun hHeld => ?_)
    clear hK K
    refine wpAnyH_done (by kernel_rfl) ?_ _
    go_wp2_with fail
    go_meet
    exact ⟨_, gC, kC, rfl, hR.out, hrC.out⟩
  ·have hal_ := (Below.refl (vd).heap.size (vd)).alloc (Nat.le_refl _) (.cells #[.int .i64 0, .int .i64 0, .slice none 0 0] 24)
   have hgv_ := qc.size
   have qc := Kb qc hal_
   have bx : FilV v (vd).heap.size [.int .i64 0, .int .i64 0, .slice none 0 0] ((vd).alloc (.cells #[.int .i64 0, .int .i64 0, .slice none 0 0] 24)) := ⟨qc, Zn.new_, hgv_, K4⟩
   (try have hown := K2 hown hal_)
   (try have rC := Ke rC hal_)
   (try have hne0 : some (vd).heap.size ≠ some _ := fun e => Nat.ne_of_gt hlt (Option.some.inj e))
   clear hgv_
   go_simp
   skip
   (try go_wp2_with fail)
   refine' HKa hK (by exact ⟨Ka qc c0, Ka qc c1, Ka qc c2, qc⟩) (fun hHeld => ?_)
   clear hK K
   generalize (vd).alloc (.cells #[.int .i64 0, .int .i64 0, .slice none 0 0] 24) = p18 at *
   refine BRa 4 (fun K hK => ?_)
   have hal_ := (Below.refl (p18).heap.size (p18)).alloc (Nat.le_refl _) (.cells #[] 4)
   have hown := own_empty (w := p18) (t := 4) qc.size
   have hlt : (p18).heap.size < ((p18).alloc (.cells #[] 4)).heap.size := by rw [World.size_alloc]; omega
   (try have hne0 : some _ ≠ some (p18).heap.size := fun e => Nat.ne_of_lt bx.z.lt (Option.some.inj e))
   have qc := Kb qc hal_
   (try have bx := bx.below hal_)
   go_simp
   skip
   (try go_wp2_with fail)
   refine' HKa hK (by exact ⟨Ka qc c0, Ka qc c1, Ka qc c2, qc⟩) (fun hHeld => ?_)
   clear hK K
   generalize (p18).alloc (.cells #[] 4) = pe at *
   refine BRa 7 (fun K hK => ?_)
   refine Wm rfl (.tmp 18) (.tmp 20) 22 rfl 4 (.bool false) 1 Tryz.underlying22 D8 rfl v.heap.size bv (fun _ => rfl) _ ([] : List Bool) rfl hown (some ⟨b, o, none⟩) c d (by rw [hdn.out]; rfl) (hRd.out _ (Kb HB qc)) (by rw [hdn.out]; simp; omega) (by rw [hdn.out]; simp; omega) qc.size ?_
   intro v5 w6 hown6 hgr hwh
   have hb6 : Below v.heap.size (pe) w6 := J3 hown hgr qc.size
   rw [List.nil_append, hdn.out] at hown6
   obtain ⟨gC, kC, rfl, hgv_C, rC, hnc, hcm⟩ := Y6 hown6 hn0
   (try have bx := bx.grown hgr hne0 hb6)
   have qc := qc.trans hb6
   clear hown hown6 hgr hwh hb6
   refine' HKa hK (by exact ⟨Ka qc c0, Ka qc c1, Ka qc c2, qc⟩) (fun hHeld => ?_)
   clear hK K
   refine' TKa 8 ?_
   obtain ⟨f0, f1, f2⟩ := bx.three
   have ff := bx.z.fr
   have fl := bx.z.lt
   have hgx := bx.hg
   have hneC : _ ≠ gC := fun e => ne_bool f0 rC hn0 hdn.out e
   obtain ⟨hR, _⟩ := bx.put3 (.int .i64 (W : Int)) (.int .i64 (H : Int)) (.slice (some ⟨gC, 0, none⟩) n kC)
   have hR := hid hR
   have hrC := hid (Jh (i := 2) (v := .slice (some ⟨gC, 0, none⟩) n kC) (Jh (i := 1) (v := .int .i64 (H : Int)) (Jh (i := 0) (v := .int .i64 (W : Int)) rC hneC) hneC) hneC)
   refine BRa 10 (fun K hK => ?_)
   go_simp
   skip
   (try go_wp2_with fail)
   refine' HKa hK (by (exact ⟨Kh (by omega) (Kh (by omega) (Kh (by omega) (Ka qc c0))), Kh (by omega) (Kh (by omega) (Kh (by omega) (Ka qc c1))), Kh (by omega) (Kh (by omega) (Kh (by omega) (Ka qc c2))), hR.out.b⟩)) (fun hHeld => ?_)
   clear hK K
   refine wpAnyH_done (by kernel_rfl) ?_ _
   go_wp2_with fail
   go_meet
   exact ⟨_, gC, kC, rfl, hR.out, hrC.out⟩
 case rest =>
  obtain ⟨g6, gC, kC, rfl, bx, rC⟩ := hcut
  have hx := bx.b
  have hl2 := zn2.lt
  have c0 := Ka hx c0
  have c1 := Ka hx c1
  have c2 := Ka hx c2
  have HBw := Kb HB hx
  have r2 := Ke r2 hx
  have zn2 := zn2.below hx
  have HQ := hid fun (W : World) => S1quarters_1 W
  obtain ⟨ds, hQ1, hdl, hdg⟩ : ∃ ds, Hid (D9 ⟨(W : Int), (H : Int), d⟩ = ⟨(H : Int), (W : Int), ds⟩) ∧ Hid (ds.length = n) ∧ Hid (∀ i, i < n → ∀ (h : i < ds.length), ∃ ht : (H - 1 - i % H) * W + i / H < d.length, ds[i] = d[(H - 1 - i % H) * W + i / H]) :=
   ⟨(D9 ⟨(W : Int), (H : Int), d⟩).d, rfl, turn_get (W := W) (H := H) (by omega) (by omega) hn.out hdn.out⟩
  have HTu := hid fun (i : Nat) (hi : i < n) (V : World) => S1turned_g W H i (by omega) ⟨by omega, by omega⟩ (by rw [← hn.out]; exact hi) V
  have HU := hid fun (V : World) (h : Below wc.heap.size wc V) => And.intro (Kb HBw h) (And.intro (And.intro (Ka h c0) (And.intro (Ka h c1) (Ka h c2))) (And.intro (bx.below h) (And.intro (Ke rC h) (And.intro (Ke r2 h) (zn2.below h)))))
  clear hx c0 c1 c2 bx rC r2 zn2 HB
  go_wp2
  go_loopw [7] (fun s7 wr => (s7 = .int .i64 0 ∧ wr = wc) ∨ (s7 = .int .i64 1 ∧ ∃ (B : Option Addr) (k : Nat), FilV v g6 [.int .i64 (H : Int), .int .i64 (W : Int), .slice B n k] wr ∧ Mb wr B k ds ∧ Below w.heap.size w wr ∧ wr.rangeAt (w.heap.size + 1) 0 [.int .i64 0, .int .i64 0, .slice none 0 0] ∧ Zn wr (w.heap.size + 1))) (fun s7 _ => 1 - (intOf s7).toNat)
  case atStart => exact Or.inl ⟨rfl, rfl⟩
  case round =>
   rcases hrel with ⟨rfl, hw⟩ | ⟨rfl, B, k, bx, hM, HBr, r2, zn2⟩
   ·subst hw
    go_wp2_with fail
    refine (HQ.out _).mono ?_
    rintro e w1 ⟨rfl, h1⟩
    obtain ⟨HB, ⟨c0, c1, c2⟩, bx, rC, r2, zn2⟩ := HU.out w1 h1
    obtain ⟨x0, x1, x2⟩ := bx.three
    have hl6 := bx.z.lt
    have hlC := rng_lt rC (by rw [List.length_map, hdn.out]; exact hn0)
    clear rC r2 zn2
    go_upto_region 8 with fail
    refine Kw (P := fun u => Code.wp _ _ _ _ u) (c := [.int .i64 (H : Int), .int .i64 (W : Int), .slice none 0 0]) ?_
    intro w2 hw2 ro zo hsz
    obtain ⟨gO, hgO⟩ : ∃ g, g = w1.heap.size := ⟨_, rfl⟩
    rw [← hgO] at ro zo hl6 hlC ⊢
    have hF : OutP w1 gO (H : Int) (W : Int) (ds.take 0) w2 := OutP.new hw2 hgO ro zo
    have hlm := Kd c0
    rw [← hgO] at hlm
    clear hw2 ro zo hsz c0 c1 c2 x0 x1 x2 bx HB hgO
    go_wp2
    go_loopw [9] (fun s9 V => ∃ i : Nat, i ≤ n ∧ s9 = .int .i64 i ∧ OutP w1 gO (H : Int) (W : Int) (ds.take i) V) (fun s9 _ => n - (intOf s9).toNat)
    case atStart => exact ⟨0, by omega, rfl, hF⟩
    case round =>
     clear hF
     obtain ⟨i, hi, rfl, hS⟩ := hrel
     obtain ⟨HB, ⟨c0, c1, c2⟩, bx, rC, r2, zn2⟩ := HU.out wr (Kb h1 hS.b)
     by_cases hin : i < n
     ·have hii : (i : Int) < (n : Int) := by omega
      obtain ⟨x0, x1, x2⟩ := bx.three
      have hidl : i < ds.length := by rw [hdl.out]; exact hin
      obtain ⟨htd, hdi⟩ := hdg.out i hin hidl
      have HT := hid (HTu.out i hin)
      have hct := rC ((H - 1 - i % H) * W + i / H) (.bool (d[(H - 1 - i % H) * W + i / H])) (by rw [List.getElem?_map, List.getElem?_eq_getElem htd]; rfl)
      rw [Nat.zero_add] at hct
      generalize ht_ : (H - 1 - i % H) * W + i / H = t at *
      have htn : t < n := by rw [← hdn.out]; exact htd
      have hti : (t : Int) < (n : Int) := by omega
      clear ht_
      have hdi := hid hdi
      generalize d[t] = pv at *
      obtain ⟨d', hd'⟩ : ∃ d', ds.take i ++ [pv] = d' := ⟨_, rfl⟩
      have hdn' := hid (show ds.take (i + 1) = d' by rw [← hd', ← hdi.out, List.take_succ_eq_append_getElem hidl])
      replace hd' := hid hd'
      have hdlen : (ds.take i).length ≤ 4194304 := by
       have h_ := hdl.out
       have h2_ := List.length_take_le i ds
       omega
      generalize ds.take i = e' at *
      obtain ⟨B, k, q2, hown⟩ := hS.ex
      have HS := hid hS
      have hw1 : Below wr.heap.size wr wr := Below.refl _ _
      have hlq := Kd q2
      have hl6b := bx.z.lt
      clear htd hS r2 zn2 rC bx
      go_upto_region 11 with fail
      refine Ordt.start (x := 15) (S := fun w' => w'.cell? ⟨gO, 2, none⟩ = some (.slice B e'.length k) ∧ w'.cell? ⟨g6, 0, none⟩ = some (.int .i64 (W : Int)) ∧ w'.cell? ⟨g6, 1, none⟩ = some (.int .i64 (H : Int)) ∧ w'.cell? ⟨g6, 2, none⟩ = some (.slice (some ⟨gC, 0, none⟩) n kC) ∧ w'.cell? ⟨gC, t, none⟩ = some (.bool pv)) (by kernel_rfl) ?_ (fun hHeld => ?_)
      ·exact ⟨q2, x0, x1, x2, hct⟩
      refine' TKt 0 ?_
      refine' TKt 1 ?_
      refine' TKt 2 ?_
      refine' TKt 3 ?_
      refine' TKt 4 ?_
      refine' TKt 5 ?_
      refine' TKt 6 ?_
      refine' TKt 7 ?_
      refine' TKt 8 ?_
      refine' Ordt.step (i := 9) (by decide +kernel) rfl (fun K hK => ?_)
      go_simp
      (go_at_call 53; (with_reducible refine (HT.out _).mono ?_); rintro e y1 ⟨rfl, hq_⟩; have qy1 : Below wr.heap.size wr y1 := Kb BG hq_; have x0 := Ka qy1 x0; have x1 := Ka qy1 x1; have x2 := Ka qy1 x2; have hct := Ka qy1 hct; have q2 := Ka qy1 q2; have hown := K2 hown qy1)
      (try go_wp2_with fail)
      refine' HKa hK (by (first | ((try dsimp only); repeat' (first | with_reducible assumption | apply And.intro | (with_reducible refine Kk ?_) | (with_reducible refine Kn ?_) | (with_reducible refine Kh (by omega) ?_) | (with_reducible refine Kp (by omega) ?_) | (with_reducible refine Ka (W := wr) ?_ ?_) | fail)))) (fun hHeld => ?_)
      clear hK K
      refine' TKt 10 ?_
      refine' TKt 11 ?_
      refine' Ordt.step (i := 12) (by decide +kernel) rfl (fun K hK => ?_)
      go_simp
      skip
      (try go_wp2_with fail)
      refine' HKa hK (by (first | ((try dsimp only); repeat' (first | with_reducible assumption | apply And.intro | (with_reducible refine Kk ?_) | (with_reducible refine Kn ?_) | (with_reducible refine Kh (by omega) ?_) | (with_reducible refine Kp (by omega) ?_) | (with_reducible refine Ka (W := wr) ?_ ?_) | fail)))) (fun hHeld => ?_)
      clear hK K
      have hal := (Below.refl y1.heap.size y1).alloc (Nat.le_refl _) (.cells #[.bool pv] 4)
      have hsz1 := qy1.size
      refine' Ordt.step (i := 13) (by decide +kernel) rfl (fun K hK => ?_)
      (refine Wm rfl (.tmp 42) (.tmp 53) 22 rfl 4 (.bool false) 1 Tryz.underlying22 D8 rfl (gO + 1) bv (fun _ => rfl) _ e' rfl (K2 hown hal) _ 1 [pv] rfl (Eb bv _ pv 4) (by simp; omega) (by simp; omega) (by simp; omega) ?_; intro v5 w6 hown6 hgr hwh; have hb7 : Below (gO + 1) (y1.alloc (.cells #[.bool pv] 4)) w6 := J3 (K2 hown hal) hgr (by simp; omega); have e0 := (hb7.cell (p := ⟨g6, 0, none⟩) (by dsimp only; omega)).trans (Ka hal x0); have e1 := (hb7.cell (p := ⟨g6, 1, none⟩) (by dsimp only; omega)).trans (Ka hal x1); have e2 := (hb7.cell (p := ⟨g6, 2, none⟩) (by dsimp only; omega)).trans (Ka hal x2); have e3 := (hb7.cell (p := ⟨gO, 2, none⟩) (by dsimp only; omega)).trans (Ka hal q2); have e4 := (hb7.cell (p := ⟨gC, t, none⟩) (by dsimp only; omega)).trans (Ka hal hct); rw [hd'.out] at hown6; obtain ⟨B5, k5, rfl, _, f5, l5, hO5⟩ := OutP.grow ((HS.out.below qy1).below hal) hown6 hb7)
      refine' HKa hK (by exact ⟨e3, e0, e1, e2, e4⟩) (fun hHeld => ?_)
      clear hK K
      refine' TKt 14 ?_
      refine' Ordt.store (by decide +kernel) rfl (by decide +kernel) (fun K hK => ?_)
      go_simp
      (try go_wp2_with fail)
      refine hK.out _ _ ?_
      clear hK K
      (try simp only [Act.put, Lp0, Lp1, Lp2])
      refine Ordt.done (by decide +kernel) ?_
      have hO5 := hid hO5
      clear hgr hwh hown6 hb7 e0 e1 e2 e3 e4 c0 c1 c2 q2 hown f5 hal x0 x1 x2 hct
      go_wp2
      go_roundw
      case rel => exact ⟨i + 1, by omega, by go_num, by rw [hdn'.out]; exact hO5.out⟩
      case measure => simp [intOf]; omega
     ·obtain rfl : i = n := by omega
      rw [List.take_of_length_le (by rw [hdl.out]; exact Nat.le_refl _)] at hS
      obtain ⟨B, k, q2, hown⟩ := hS.ex
      have q0 := hS.c0
      have q1 := hS.c1
      have hM := own_mb hown
      rw [hdl.out] at q2
      obtain ⟨x0, x1, x2⟩ := bx.three
      have x6f := bx.z.fr
      have x6l := bx.z.lt
      have hg6 := bx.hg
      obtain ⟨hB6, hM6⟩ := bx.put3 (.int .i64 (H : Int)) (.int .i64 (W : Int)) (.slice B i k)
      have hM6 := hid (hM6 _ _ _ hM)
      have hB6 := hid hB6
      have hne : g6 ≠ w.heap.size + 1 := by omega
      have HBf := hid (Kg (Kg (Kg HB (show w.heap.size ≤ g6 by omega) 0 (.int .i64 (H : Int))) (show w.heap.size ≤ g6 by omega) 1 (.int .i64 (W : Int))) (show w.heap.size ≤ g6 by omega) 2 (.slice B i k))
      have hr2 := hid (And.intro (Jh (i := 2) (v := .slice B i k) (Jh (i := 1) (v := .int .i64 (W : Int)) (Jh (i := 0) (v := .int .i64 (H : Int)) r2 hne) hne) hne) ((zn2.set_.set_.set_ : Zn (((wr.setCell ⟨g6, 0, none⟩ (.int .i64 (H : Int))).setCell ⟨g6, 1, none⟩ (.int .i64 (W : Int))).setCell ⟨g6, 2, none⟩ (.slice B i k)) (w.heap.size + 1))))
      clear hS hown hM bx rC r2 zn2 HB HU HTu hdg
      go_wp2
      go_roundw
      case rel => exact Or.inr ⟨by go_num, B, _, hB6.out, hM6.out, HBf.out, hr2.out.1, hr2.out.2⟩
      case measure => simp [intOf]
   ·obtain ⟨x0, x1, x2⟩ := bx.three
    go_wp2_with fail
    refine (HQ.out _).mono ?_
    rintro e w1 ⟨rfl, h1⟩
    have x0 := Ka h1 x0
    have x1 := Ka h1 x1
    have x2 := Ka h1 x2
    have HB := Kb HBr h1
    have hM := hM.below h1
    have r2 := Ke r2 h1
    have zn2 := zn2.below h1
    have k0 : w1.cell? ⟨w.heap.size + 1, 0, none⟩ = some (.int .i64 0) := r2 0 _ rfl
    have k1 : w1.cell? ⟨w.heap.size + 1, 1, none⟩ = some (.int .i64 0) := r2 1 _ rfl
    have k2 : w1.cell? ⟨w.heap.size + 1, 2, none⟩ = some (.slice none 0 0) := r2 2 _ rfl
    have ltk := Kd k0
    have fk := zn2.fr
    have HBf := hid (Kg (Kg (Kg HB (show w.heap.size ≤ w.heap.size + 1 by omega) 0 (.int .i64 (H : Int))) (show w.heap.size ≤ w.heap.size + 1 by omega) 1 (.int .i64 (W : Int))) (show w.heap.size ≤ w.heap.size + 1 by omega) 2 (.slice B n k))
    have HMf := hid (((hM.set (x := .int .i64 (H : Int)) k0 (by simp)).set (x := .int .i64 (W : Int)) (K6 (by decide) k1) (by simp)).set (x := .slice B n k) (K6 (by decide) (K6 (by decide) k2)) (by simp))
    clear r2 zn2 HB hM HU bx HBr
    go_wp2
    refine bodyPost_ret (v := .tuple #[.agg #[.int .i64 (H : Int), .int .i64 (W : Int), .slice B n k], .int .i64 0]) ?_ rfl ?_
    ·simp [results, Tryz.results27, go_sem, k0, k1, k2]
    ·rw [hQ1.out]
     exact ⟨B, k, by rw [← hdl.out], HMf.out, HBf.out⟩
end Go.Proofs.YtdkgbkbbbldliaaGreat
