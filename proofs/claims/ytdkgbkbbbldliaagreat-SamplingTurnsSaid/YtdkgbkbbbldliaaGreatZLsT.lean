/- The law SamplingTurns: its walk. Conditions: none. -/
import Derived.Test.YtdkgbkbbbldliaaGreatZSR
import Derived.Test.YtdkgbkbbbldliaaGreatZLsX
import Derived.Test.YtdkgbkbbbldliaaGreatZSm22
set_option linter.unusedVariables false
set_option linter.unusedSimpArgs false
namespace Go.Proofs.YtdkgbkbbbldliaaGreat
open Go.RowKit Big
theorem sizeB_swap {c r : Int} : J9 c r = true → J9 r c = true := fun h => by
 obtain ⟨a, b, d, e, f⟩ := Jj.1 h
 exact Jj.2 ⟨d, e, a, b, by rw [Int.mul_comm]; exact f⟩
theorem turn_wrp {m : Bm} (hm : bmB m = true) {w : World} {rf : List Rf} (h : HomS w rf [0, -1, m.h, 1, 0, 0, 0, 0, 1]) : wrpE m (nrmB rf) (oneE adjZ rf).2 (bakZ rf) m.h m.w = (D9 m, 0) := by
 have h1 : ∀ x y, posZ (bakZ rf) x y = some (y, m.h - 1 - x) := fun x y => by rw [h.M, turn_adj, turn_back]
 rw [turn_warp hm h1]
 have hs : J9 m.h m.w = true := by
  unfold bmB at hm
  rw [Bool.and_eq_true] at hm
  exact sizeB_swap hm.1
 unfold wrpE
 rw [hm, h.v, h.q, hs]
 rfl
set_option maxRecDepth 100000 in
set_option maxHeartbeats 4000000 in
theorem Ec (m : Bm) (A : Option Addr) (c : Nat) {w : World} (hb : Mb w A c m.d) :
  Calls Tryz.prog 9 #[.agg #[.int .i64 m.w, .int .i64 m.h, .slice A m.d.length c]] w (RetB w true) := by
 have HCk := hid fun (W : World) => U6 m A c W
 have HTn := hid fun (hm : bmB m = true) (W : World) (h : Below w.heap.size w W) => S1Turn_g hm (hb.below h)
 have HC0 := hid fun (h1 : 0 ≤ m.h ∧ m.h ≤ 4096) (W : World) => U1 0 (-1) m.h 1 0 0 1 (by intro x hx; simp only [List.mem_cons, List.not_mem_nil, or_false] at hx; omega) (by omega) (by omega) (by omega) W
 have HW0 := hid fun (hm : bmB m = true) (rf : List Rf) (W : World) (hs : HomS W rf [0, -1, m.h, 1, 0, 0, 0, 0, 1]) (h : Below w.heap.size w W) => (show Calls Tryz.prog 16 #[.agg #[.int .i64 m.w, .int .i64 m.h, .slice A m.d.length c], .agg (Kc (zl rf)).toArray, .int .i64 m.h, .int .i64 m.w] W (D7 W (D9 m, 0)) from by
  have := Ef rf hs.h9 (hb.below h) hs.m m.h m.w
  rwa [turn_wrp hm hs] at this)
 have hsz0 := hid (W5 (m := m))
 obtain ⟨⟨qw, qh, qd⟩, hP⟩ : ∃ P, D9 m = P := ⟨_, rfl⟩
 rw [hP] at HTn HW0
 have hEq := hid fun (B C : Option Addr) (k l : Nat) (W : World) (ha : Mb W B k qd) (hb : Mb W C l qd) => (show Calls Tryz.prog 15 #[.agg #[.int .i64 qw, .int .i64 qh, .slice B qd.length k], .agg #[.int .i64 qw, .int .i64 qh, .slice C qd.length l]] W (RetB W true) by
  have := Wh ⟨qw, qh, qd⟩ ⟨qw, qh, qd⟩ ha hb
  rwa [show eqM (⟨qw, qh, qd⟩ : Bm) ⟨qw, qh, qd⟩ = true by unfold eqM; simp] at this)
 unfold ckE at HCk
 clear hP hb
 go_enter Tryz.func9, Tryz.ntmps9
 go_upto_region 1 with fail
 refine Kw (P := fun u => Code.wp _ _ _ _ u) (c := [.int .i64 m.w, .int .i64 m.h, .slice A m.d.length c]) ?_
 intro u HB r0 zn0 hsz
 clear hsz zn0
 have c0 : (u).cell? ⟨w.heap.size, 0, none⟩ = some (.int .i64 m.w) := r0 0 _ rfl
 have c1 : (u).cell? ⟨w.heap.size, 1, none⟩ = some (.int .i64 m.h) := r0 1 _ rfl
 have c2 : (u).cell? ⟨w.heap.size, 2, none⟩ = some (.slice A m.d.length c) := r0 2 _ rfl
 clear r0
 go_wp2_with fail
 refine (HCk.out u).mono ?_
 rintro e v ⟨rfl, hv⟩
 have c0 := Ka hv c0
 have c1 := Ka hv c1
 have c2 := Ka hv c2
 have HB := Kb HB hv
 clear HCk hv
 cases hbm : bmB m
 ·simp only [Bool.false_eq_true, if_false]
  clear HTn HC0 HW0 hsz0 hEq
  go_wp2_with fail
  refine (Qw _).mono ?_
  rintro e x_ ⟨rfl, hx_⟩
  have HB := Kb HB hx_
  go_wp2
  go_ret
  exact ⟨rfl, HB⟩
 ·simp only [if_true]
  by_cases h1 : 12 < m.w
  ·clear HTn HC0 HW0 hsz0 hEq
   go_wp2_with fail
   refine (Qw _).mono ?_
   rintro e x_ ⟨rfl, hx_⟩
   have HB := Kb HB hx_
   go_wp2
   go_ret
   exact ⟨rfl, HB⟩
  ·by_cases h2 : 12 < m.h
   ·clear HTn HC0 HW0 hsz0 hEq
    go_wp2_with fail
    refine (Qw _).mono ?_
    rintro e x_ ⟨rfl, hx_⟩
    have HB := Kb HB hx_
    go_wp2
    go_ret
    exact ⟨rfl, HB⟩
   ·obtain ⟨⟨b1, _, b3, _, _⟩, _⟩ := hsz0.out.1 hbm
    have HC := hid (HC0.out ⟨by omega, by omega⟩)
    have HTn := HTn.out hbm
    have HW := hid (HW0.out hbm)
    clear HC0 HW0 hsz0 b1 b3 hbm
    go_wp2_with fail
    refine (HTn v HB).mono ?_
    rintro e x1 ⟨A1, k1, rfl, hM1, hx1⟩
    dsimp only at hM1 ⊢
    go_upto_region 4 with fail
    refine Kw (P := fun u => Code.wp _ _ _ _ u) (c := [.int .i64 qw, .int .i64 qh, .slice A1 qd.length k1]) ?_
    intro vv hv2 s1 z1 hsz
    have h12 := Kb hx1 hv2
    have c0 := Ka h12 c0
    have c1 := Ka h12 c1
    have c2 := Ka h12 c2
    have HB := Kb HB h12
    have hM1 := hM1.below hv2
    have HSp := hid fun (rf : List Rf) (W : World) (hs : HomS W rf [0, -1, m.h, 1, 0, 0, 0, 0, 1]) (h : Below vv.heap.size vv W) => HW.out rf W hs (Kb HB h)
    clear HTn HW z1 hsz hx1 hv2 h12
    go_cut [5, 6] (fun s5 s6 wx => s6 = .int .i64 0 ∧ ∃ (g : Nat) (A7 : Option Addr) (c7 : Nat), s5 = .pointer (some ⟨g, 0, none⟩) ∧ Mb wx A7 c7 qd ∧ FilV vv g [.int .i64 qw, .int .i64 qh, .slice A7 qd.length c7] wx)
    case first =>
     have qc : Below vv.heap.size vv vv.drew := Qj
     refine wp_region_held_drew (S := fun w' => w'.cell? ⟨w.heap.size, 0, none⟩ = some (.int .i64 m.w) ∧ w'.cell? ⟨w.heap.size, 1, none⟩ = some (.int .i64 m.h) ∧ w'.cell? ⟨w.heap.size, 2, none⟩ = some (.slice A m.d.length c) ∧ Below vv.heap.size vv w') (by kernel_rfl) ?_ (fun hHeld => ?_)
     ·exact ⟨c0, c1, c2, qc⟩
     generalize vv.drew = vd at *
     refine' TKa 0 ?_
     refine' TKa 1 ?_
     refine' TKa 2 ?_
     refine' TKa 4 ?_
     refine' TKa 5 ?_
     refine' TKa 6 ?_
     refine' TKa 7 ?_
     refine br2 (i := 3) (j := 12) (by decide +kernel) rfl rfl (fun K hK => ?_) (fun K hK => ?_)
     ·go_simp
      (go_at_call 24; refine (HC.out _).mono ?_; rintro e a1 ⟨rC, h9C, rfl, okC, hsC, hq_⟩; have qc := Kb qc hq_; (try have bx := bx.below hq_))
      (try go_wp2_with fail)
      refine' HKa hK (by exact ⟨Ka qc c0, Ka qc c1, Ka qc c2, qc⟩) (fun hHeld => ?_)
      clear hK K
      refine br2 (i := 8) (j := 12) (by decide +kernel) rfl rfl (fun K hK => ?_) (fun K hK => ?_)
      ·go_simp
       (go_at_call 16; refine (HSp.out rC _ hsC qc).mono ?_; rintro e a2 ⟨A7, c7, rfl, hM7, hq_⟩; (try dsimp only); have qc := Kb qc hq_; (try have bx := bx.below hq_))
       (try go_wp2_with fail)
       refine' HKa hK (by exact ⟨Ka qc c0, Ka qc c1, Ka qc c2, qc⟩) (fun hHeld => ?_)
       clear hK K
       refine' TKa 9 ?_
       refine' TKa 10 ?_
       refine' TKa 11 ?_
       refine BRa 12 (fun K hK => ?_)
       have hal_ := (Below.refl (a2).heap.size (a2)).alloc (Nat.le_refl _) (.cells #[.int .i64 0, .int .i64 0, .slice none 0 0] 24)
       have hgv_ := qc.size
       have qc := Kb qc hal_
       have bx : FilV vv (a2).heap.size [.int .i64 0, .int .i64 0, .slice none 0 0] ((a2).alloc (.cells #[.int .i64 0, .int .i64 0, .slice none 0 0] 24)) := ⟨qc, Zn.new_, hgv_, K4⟩
       (try have hsC := hsC.below hal_)
       (try have hM7 := hM7.below hal_)
       clear hgv_
       go_simp
       skip
       (try go_wp2_with fail)
       refine' HKa hK (by exact ⟨Ka qc c0, Ka qc c1, Ka qc c2, qc⟩) (fun hHeld => ?_)
       clear hK K
       generalize (a2).alloc (.cells #[.int .i64 0, .int .i64 0, .slice none 0 0] 24) = p18 at *
       obtain ⟨f0, f1, f2⟩ := bx.three
       have ff := bx.z.fr
       have fl := bx.z.lt
       have hgx := bx.hg
       have hlm := Kd c0
       obtain ⟨hR, hMM⟩ := bx.put3 (.int .i64 qw) (.int .i64 qh) (.slice A7 qd.length c7)
       have hM7 := hid (hMM _ _ _ hM7)
       have hR := hid hR
       clear hMM
       refine BRa 13 (fun K hK => ?_)
       go_simp
       skip
       (try go_wp2_with fail)
       refine' HKa hK (by (exact ⟨Kh (by omega) (Kh (by omega) (Kh (by omega) (Ka qc c0))), Kh (by omega) (Kh (by omega) (Kh (by omega) (Ka qc c1))), Kh (by omega) (Kh (by omega) (Kh (by omega) (Ka qc c2))), hR.out.b⟩)) (fun hHeld => ?_)
       clear hK K
       refine' TKa 14 ?_
       refine wpAnyH_done (by kernel_rfl) ?_ _
       go_wp2_with fail
       go_meet
       exact ⟨rfl, _, A7, c7, rfl, hM7.out, hR.out⟩
      ·have hal_ := (Below.refl (a1).heap.size (a1)).alloc (Nat.le_refl _) (.cells #[.int .i64 0, .int .i64 0, .slice none 0 0] 24)
       have hgv_ := qc.size
       have qc := Kb qc hal_
       have bx : FilV vv (a1).heap.size [.int .i64 0, .int .i64 0, .slice none 0 0] ((a1).alloc (.cells #[.int .i64 0, .int .i64 0, .slice none 0 0] 24)) := ⟨qc, Zn.new_, hgv_, K4⟩
       (try have hsC := hsC.below hal_)
       (try have hM7 := hM7.below hal_)
       clear hgv_
       go_simp
       skip
       (try go_wp2_with fail)
       refine' HKa hK (by exact ⟨Ka qc c0, Ka qc c1, Ka qc c2, qc⟩) (fun hHeld => ?_)
       clear hK K
       generalize (a1).alloc (.cells #[.int .i64 0, .int .i64 0, .slice none 0 0] 24) = p18 at *
       refine BRa 8 (fun K hK => ?_)
       go_simp
       (go_at_call 16; refine (HSp.out rC _ hsC qc).mono ?_; rintro e a2 ⟨A7, c7, rfl, hM7, hq_⟩; (try dsimp only); have qc := Kb qc hq_; (try have bx := bx.below hq_))
       (try go_wp2_with fail)
       refine' HKa hK (by exact ⟨Ka qc c0, Ka qc c1, Ka qc c2, qc⟩) (fun hHeld => ?_)
       clear hK K
       refine' TKa 9 ?_
       refine' TKa 10 ?_
       refine' TKa 11 ?_
       obtain ⟨f0, f1, f2⟩ := bx.three
       have ff := bx.z.fr
       have fl := bx.z.lt
       have hgx := bx.hg
       have hlm := Kd c0
       obtain ⟨hR, hMM⟩ := bx.put3 (.int .i64 qw) (.int .i64 qh) (.slice A7 qd.length c7)
       have hM7 := hid (hMM _ _ _ hM7)
       have hR := hid hR
       clear hMM
       refine BRa 13 (fun K hK => ?_)
       go_simp
       skip
       (try go_wp2_with fail)
       refine' HKa hK (by (exact ⟨Kh (by omega) (Kh (by omega) (Kh (by omega) (Ka qc c0))), Kh (by omega) (Kh (by omega) (Kh (by omega) (Ka qc c1))), Kh (by omega) (Kh (by omega) (Kh (by omega) (Ka qc c2))), hR.out.b⟩)) (fun hHeld => ?_)
       clear hK K
       refine' TKa 14 ?_
       refine wpAnyH_done (by kernel_rfl) ?_ _
       go_wp2_with fail
       go_meet
       exact ⟨rfl, _, A7, c7, rfl, hM7.out, hR.out⟩
     ·have hal_ := (Below.refl (vd).heap.size (vd)).alloc (Nat.le_refl _) (.cells #[.int .i64 0, .int .i64 0, .slice none 0 0] 24)
      have hgv_ := qc.size
      have qc := Kb qc hal_
      have bx : FilV vv (vd).heap.size [.int .i64 0, .int .i64 0, .slice none 0 0] ((vd).alloc (.cells #[.int .i64 0, .int .i64 0, .slice none 0 0] 24)) := ⟨qc, Zn.new_, hgv_, K4⟩
      (try have hsC := hsC.below hal_)
      (try have hM7 := hM7.below hal_)
      clear hgv_
      go_simp
      skip
      (try go_wp2_with fail)
      refine' HKa hK (by exact ⟨Ka qc c0, Ka qc c1, Ka qc c2, qc⟩) (fun hHeld => ?_)
      clear hK K
      generalize (vd).alloc (.cells #[.int .i64 0, .int .i64 0, .slice none 0 0] 24) = p18 at *
      refine BRa 3 (fun K hK => ?_)
      go_simp
      (go_at_call 24; refine (HC.out _).mono ?_; rintro e a1 ⟨rC, h9C, rfl, okC, hsC, hq_⟩; have qc := Kb qc hq_; (try have bx := bx.below hq_))
      (try go_wp2_with fail)
      refine' HKa hK (by exact ⟨Ka qc c0, Ka qc c1, Ka qc c2, qc⟩) (fun hHeld => ?_)
      clear hK K
      refine BRa 8 (fun K hK => ?_)
      go_simp
      (go_at_call 16; refine (HSp.out rC _ hsC qc).mono ?_; rintro e a2 ⟨A7, c7, rfl, hM7, hq_⟩; (try dsimp only); have qc := Kb qc hq_; (try have bx := bx.below hq_))
      (try go_wp2_with fail)
      refine' HKa hK (by exact ⟨Ka qc c0, Ka qc c1, Ka qc c2, qc⟩) (fun hHeld => ?_)
      clear hK K
      refine' TKa 9 ?_
      refine' TKa 10 ?_
      refine' TKa 11 ?_
      obtain ⟨f0, f1, f2⟩ := bx.three
      have ff := bx.z.fr
      have fl := bx.z.lt
      have hgx := bx.hg
      have hlm := Kd c0
      obtain ⟨hR, hMM⟩ := bx.put3 (.int .i64 qw) (.int .i64 qh) (.slice A7 qd.length c7)
      have hM7 := hid (hMM _ _ _ hM7)
      have hR := hid hR
      clear hMM
      refine BRa 13 (fun K hK => ?_)
      go_simp
      skip
      (try go_wp2_with fail)
      refine' HKa hK (by (exact ⟨Kh (by omega) (Kh (by omega) (Kh (by omega) (Ka qc c0))), Kh (by omega) (Kh (by omega) (Kh (by omega) (Ka qc c1))), Kh (by omega) (Kh (by omega) (Kh (by omega) (Ka qc c2))), hR.out.b⟩)) (fun hHeld => ?_)
      clear hK K
      refine' TKa 14 ?_
      refine wpAnyH_done (by kernel_rfl) ?_ _
      go_wp2_with fail
      go_meet
      exact ⟨rfl, _, A7, c7, rfl, hM7.out, hR.out⟩
    case rest =>
     obtain ⟨rfl, g5, A7, c7, rfl, hM7, bx⟩ := hcut
     have hx := bx.b
     have HB := Kb HB hx
     have s1 := Ke s1 hx
     have hM1 := hM1.below hx
     obtain ⟨f0, f1, f2⟩ := bx.three
     have e0 : wc.cell? ⟨x1.heap.size, 0, none⟩ = some (.int .i64 qw) := s1 0 _ rfl
     have e1 : wc.cell? ⟨x1.heap.size, 1, none⟩ = some (.int .i64 qh) := s1 1 _ rfl
     have e2 : wc.cell? ⟨x1.heap.size, 2, none⟩ = some (.slice A1 qd.length k1) := s1 2 _ rfl
     have hEq := hid (hEq.out A7 A1 c7 k1 wc hM7 hM1)
     clear s1 hM1 hM7 bx hx c0 c1 c2 HC HSp
     generalize qd.length = n at *
     go_wp2_with fail
     refine hEq.out.mono ?_
     rintro e w1 ⟨rfl, hw1⟩
     have HB := Kb HB hw1
     clear e0 e1 e2 f0 f1 f2 hEq hw1
     go_wp2_with fail
     refine (Qw _).mono ?_
     rintro e x_ ⟨rfl, hx_⟩
     have HB := Kb HB hx_
     go_wp2
     go_ret
     exact ⟨rfl, HB⟩
end Go.Proofs.YtdkgbkbbbldliaaGreat
