/- Sampling, the reference: Faithful. Conditions: none. -/
import Derived.Test.YtdkgbkbbbldliaaGreatZSJ
import Derived.Test.YtdkgbkbbbldliaaGreatZXI
import Derived.Test.YtdkgbkbbbldliaaGreatZXN
set_option linter.unusedVariables false
set_option linter.unusedSimpArgs false
namespace Go.Proofs.YtdkgbkbbbldliaaGreat
open Go.RowKit Big
set_option maxRecDepth 100000 in
set_option maxHeartbeats 8000000 in
theorem S4Faithful_g (fs : List Rf) (h9 : fs.length = 9) {w : World} (hm : ∀ f ∈ fs, f.mg w) (cols rows ww hh : Int) :
  Calls Tryz.prog 22 #[.agg (Kc (zl fs)).toArray, .int .i64 cols, .int .i64 rows, .int .i64 ww, .int .i64 hh] w (RetTE w (fthE (nrmB fs) (oneE adjZ fs).2 (nrmZ fs) (bakZ fs) cols rows ww hh)) := by
 have hi := hid (show (Tryz.prog.info? 32).map (·.size) = some (Kc (zl fs)).length by rw [Kf, Ky, h9]; exact T32i)
 obtain ⟨P, hP⟩ : ∃ P, fthE (nrmB fs) (oneE adjZ fs).2 (nrmZ fs) (bakZ fs) cols rows ww hh = P := ⟨_, rfl⟩
 have hQ : Hid (fthE (nrmB fs) (oneE adjZ fs).2 (nrmZ fs) (bakZ fs) cols rows ww hh = P) := hP
 rw [hP]
 clear hP
 have HVa := hid fun (W : World) (h : Below w.heap.size w W) => Wp fs h9 (w := W) (fun f hf => (hm f hf).below h)
 have HP1 := hid fun (W : World) => Yy cols rows W
 have HP2 := hid fun (W : World) => Yy ww hh W
 have HIv := hid fun (W : World) (h : Below w.heap.size w W) => Us h9 (w := W) (fun f hf => (hm f hf).below h)
 have HNo := hid fun (hv : nrmB fs = true) (W : World) (h : Below w.heap.size w W) => (show Calls Tryz.prog 38 #[.agg (Kc (zl fs)).toArray] W (RetH W (homZ (nrmZ fs), 0)) from by
  have := Gx h9 (w := W) (fun f hf => (hm f hf).below h)
  rwa [nrm_one h9 hm hv] at this)
 have hIH := hid fun (hv : nrmB fs = true) (h0 : (oneE adjZ fs).2 = 0) (rf : List Rf) (W : World) => inv_hom (rf := rf) (w := W) h9 hv h0
 have hIE := hid (Ho (fs := fs))
 have hNN := hid fun (hv : nrmB fs = true) => Xy h9 hv
 have hBB := hid fun (hv : nrmB fs = true) (h0 : (oneE adjZ fs).2 = 0) (rf : List Rf) (W : World) (h91 : rf.length = 9) (hz : (zl rf).map (·.z) = (oneE adjZ fs).1) (ho : ∀ e ∈ zl rf, e.ok W) => (show (bakZ fs).length = 9 ∧ ∀ z ∈ bakZ fs, Bz 1280 z by
  obtain ⟨p, q⟩ := inv_rf h9 hv h0 hz ho
  have := Xy h91 p
  rwa [q] at this)
 obtain ⟨⟨qz, qe⟩, hq1⟩ : ∃ q, oneE adjZ fs = q := ⟨_, rfl⟩
 rw [hq1] at HIv hIH hIE hQ hBB
 clear hm h9 hq1
 have hFl : ∀ (v : World) (rf : List Rf), rf.length = 9 → (storeCells ⟨v.heap.size, 0, none⟩ (Kc (zl rf))).run Tryz.prog (v.alloc (.cells (Kc Kj).toArray 32)) = .ok () (v.alloc (.cells (Kc (zl rf)).toArray 32)) := fun v rf h => Jw (P := Tryz.prog) (w := v) (l := zl rf) (zs := Kc Kj) 32 (by rw [Kf, Ky, h]; rfl) T32i
 simp only [Kj, List.replicate, Kc, ZE.cells, ZE.zero, List.cons_append, List.nil_append] at hFl
 have hFl := hid hFl
 obtain ⟨d32, hU32, row32⟩ := T32u
 go_enter Tryz.func22, Tryz.ntmps22
 go_upto_region 1 with fail
 refine Kw (P := fun u => Code.wp _ _ _ _ u) (c := Kc (zl fs)) ?_
 intro u HB r1 zn0 hsz
 clear hsz zn0
 go_wp2_with (first | refine wpList_load_mid (by rfl) _ _ (by rfl) w.heap.size 0 (by rfl) (Kc (zl fs)) _ r1 hU32 row32 hi.out ?_ | fail)
 refine (HVa.out u HB).mono ?_
 rintro e v1 ⟨rfl, hv1⟩
 have r1 := Ke r1 hv1
 have HB := Kb HB hv1
 clear HVa hv1
 cases hva : nrmB fs
 ·have HR : Hid (P = (false, 1)) := by unfold Hid; rw [← hQ.out]; unfold fthE; rw [hva]; rfl
  clear hQ HP1 HP2 HIv HNo hIH hIE hNN hBB
  have HBf := hid HB
  clear HB
  go_wp2
  refine bodyPost_ret (v := .tuple #[.bool false, .int .i64 1]) ?_ rfl ?_
  ·simp [results, Tryz.results22, go_sem]
  ·rw [HR.out]
   exact ⟨rfl, HBf.out⟩
 ·have HNo := hid (HNo.out hva)
  have hNN := hNN.out hva
  go_wp2_with fail
  refine (HP1.out v1).mono ?_
  rintro e v2 ⟨rfl, hv2⟩
  have r1 := Ke r1 hv2
  have HB := Kb HB hv2
  clear HP1 hv2
  cases hs : J9 cols rows
  ·have HR : Hid (P = (false, 23)) := by unfold Hid; rw [← hQ.out]; unfold fthE; rw [hva, hs]; rfl
   clear hQ HP2 HIv HNo hIH hIE hNN hBB
   simp only [Bool.false_eq_true, if_false]
   have HBf := hid HB
   clear HB
   go_wp2
   refine bodyPost_ret (v := .tuple #[.bool false, .int .i64 23]) ?_ rfl ?_
   ·simp [results, Tryz.results22, go_sem]
   ·rw [HR.out]
    exact ⟨rfl, HBf.out⟩
  ·simp only [if_true]
   go_wp2_with fail
   refine (HP2.out v2).mono ?_
   rintro e v3 ⟨rfl, hv3⟩
   have r1 := Ke r1 hv3
   have HB := Kb HB hv3
   clear HP2 hv3
   cases hs2 : J9 ww hh
   ·have HR : Hid (P = (false, 23)) := by unfold Hid; rw [← hQ.out]; unfold fthE; rw [hva, hs, hs2]; rfl
    clear hQ HIv HNo hIH hIE hNN hBB
    simp only [Bool.false_eq_true, if_false]
    have HBf := hid HB
    clear HB
    go_wp2
    refine bodyPost_ret (v := .tuple #[.bool false, .int .i64 23]) ?_ rfl ?_
    ·simp [results, Tryz.results22, go_sem]
    ·rw [HR.out]
     exact ⟨rfl, HBf.out⟩
   ·simp only [if_true]
    go_wp2_with (first | refine wpList_load_mid (by rfl) _ _ (by rfl) w.heap.size 0 (by rfl) (Kc (zl fs)) _ r1 hU32 row32 hi.out ?_ | fail)
    refine (HIv.out v3 HB).mono ?_
    rintro e x1 ⟨rf1, h91, rfl, hz1, ok1, mg1, hq_⟩
    have F1 := hFl.out x1 rf1 h91
    have h361 : (Kc (zl rf1)).length = 36 := by rw [Kf, Ky, h91]
    go_upto_region 6 with fail
    refine Kw (P := fun u => Code.wp _ _ _ _ u) ?_
    intro v4 hv_ s1 sz_ hsz
    have qv4 := Kb hq_ hv_
    have lx1 : x1.heap.size < v4.heap.size := sz_.lt
    have hi1 := hid (show (Tryz.prog.info? 32).map (·.size) = some (Kc (zl rf1)).length by rw [h361]; exact T32i)
    have r1 := Ke r1 qv4
    have ok1 : ∀ e ∈ zl rf1, e.ok v4 := fun e he => (ok1 e he).below hv_
    have mg1 : ∀ f ∈ rf1, f.mg v4 := fun f hf => (mg1 f hf).below hv_
    have HB := Kb HB qv4
    clear F1 sz_ hsz hv_ hq_ h361
    have hIE := hIE.out hva
    have hIH := hid (hIH.out hva)
    have hBB := hid (hBB.out hva)
    clear HIv
    rcases hIE with rfl | rfl
    case inr =>
     have HR : Hid (P = (false, 4)) := by unfold Hid; rw [← hQ.out]; unfold fthE; rw [hva, hs, hs2]; rfl
     clear hQ hIH HNo s1 ok1 mg1 hz1 hNN hBB
     have HBf := hid HB
     clear HB
     go_wp2
     refine bodyPost_ret (v := .tuple #[.bool false, .int .i64 4]) ?_ rfl ?_
     ·simp [results, Tryz.results22, go_sem]
     ·rw [HR.out]
      exact ⟨rfl, HBf.out⟩
    obtain ⟨hM9, hMz⟩ := hBB.out rfl rf1 v4 h91 hz1 ok1
    have hzM := hid (hIH.out rfl rf1 v4 hz1)
    have hzM := hid (hzM.out)
    obtain ⟨hN9, hNz⟩ := hNN
    clear hIH hz1 mg1 hBB
    go_wp2_with (first | refine wpList_load_mid (by rfl) _ _ (by rfl) w.heap.size 0 (by rfl) (Kc (zl fs)) _ r1 hU32 row32 hi.out ?_ | fail)
    have s1' := hid s1
    clear s1
    refine (HNo.out v4 HB).mono ?_
    rintro e x2 ⟨rf2, h92, rfl, hz2, ok2, mg2, hq_⟩
    have F1 := hFl.out x2 rf2 h92
    have h362 : (Kc (zl rf2)).length = 36 := by rw [Kf, Ky, h92]
    go_upto_region 9 with fail
    refine Kw (P := fun u => Code.wp _ _ _ _ u) ?_
    intro v5 hv_ s2 sz_ hsz
    have qv5 := Kb hq_ hv_
    have lx2 : x2.heap.size < v5.heap.size := sz_.lt
    have hi2 := hid (show (Tryz.prog.info? 32).map (·.size) = some (Kc (zl rf2)).length by rw [h362]; exact T32i)
    have r1 := Ke r1 qv5
    have ok2 : ∀ e ∈ zl rf2, e.ok v5 := fun e he => (ok2 e he).below hv_
    have mg2 : ∀ f ∈ rf2, f.mg v5 := fun f hf => (mg2 f hf).below hv_
    have HB := Kb HB qv5
    clear F1 sz_ hsz hv_ hq_ h362
    have hzN := hid hz2
    have s1 := Ke s1'.out qv5
    have ok1 : ∀ e ∈ zl rf1, e.ok v5 := fun e he => (ok1 e he).below qv5
    clear HNo r1 s1' mg2 hz2
    obtain ⟨a1, a2, a3, a4, a5⟩ := Jj.1 hs
    obtain ⟨C, rfl⟩ := Int.eq_ofNat_of_zero_le (show 0 ≤ cols by omega)
    obtain ⟨R, rfl⟩ := Int.eq_ofNat_of_zero_le (show 0 ≤ rows by omega)
    have hQ0 := hid fun (h : (ptsB (C : Int) (R : Int)).all (Xt (nrmZ fs) (bakZ fs) ww hh) = false) => (show P = (false, 0) by rw [← hQ.out]; unfold fthE; rw [hva, hs, hs2, h]; rfl)
    have hQ1 := hid fun (h : (ptsB (C : Int) (R : Int)).all (Xt (nrmZ fs) (bakZ fs) ww hh) = true) => (show P = (true, 0) by rw [← hQ.out]; unfold fthE; rw [hva, hs, hs2, h]; rfl)
    have hBP := hid fun (x y : Nat) (hx : x < C) (hy : y < R) => back_R (N := nrmZ fs) (M := bakZ fs) (x := (x : Int)) (y := (y : Int)) hs2 ⟨by omega, by omega⟩ ⟨by omega, by omega⟩
    have hBN := hid fun (x y : Nat) (hx : x < C) (hy : y < R) => bkd_no (N := nrmZ fs) (M := bakZ fs) (w := ww) (h := hh) hx hy
    obtain ⟨b1, b2, b3, b4, _⟩ := Jj.1 hs2
    clear a1 a3 a5 hs hs2 hva hQ b1 b3
    generalize bakZ fs = M at *
    generalize nrmZ fs = N at *
    have HU := hid fun (W : World) (h : Below v5.heap.size v5 W) => And.intro (Kb HB h) (And.intro (And.intro (Ke s1 h) (Ke s2 h)) (And.intro (fun e (he : e ∈ zl rf1) => (ok1 e he).below h) (fun e (he : e ∈ zl rf2) => (ok2 e he).below h)))
    have HBv : Below v5.heap.size v5 v5 := Below.refl _ _
    clear HB s1 s2 ok1 ok2
    go_wp2
    go_loopw [16] (fun s16 wr => ∃ y : Nat, y ≤ R ∧ s16 = .int .i64 y ∧ Below v5.heap.size v5 wr ∧ Hid (Bkd N M ww hh C (y * C))) (fun s16 _ => R - (intOf s16).toNat)
    case atStart => exact ⟨0, by omega, rfl, HBv, by rw [Nat.zero_mul]; exact Bkd.zero N M ww hh C⟩
    case round =>
     obtain ⟨y, hy, rfl, hb, hI⟩ := hrel
     by_cases hyR : y < R
     ·have hyi : (y : Int) < (R : Int) := by omega
      go_wp2
      go_loopw [17] (fun s17 wr => ∃ x : Nat, x ≤ C ∧ s17 = .int .i64 x ∧ Below v5.heap.size v5 wr ∧ Hid (Bkd N M ww hh C (y * C + x))) (fun s17 _ => C - (intOf s17).toNat)
      case atStart => exact ⟨0, by omega, rfl, hb, hI⟩
      case round =>
       obtain ⟨x, hx, rfl, hb, hI⟩ := hrel
       by_cases hxC : x < C
       ·have hxi : (x : Int) < (C : Int) := by omega
        obtain ⟨HB, ⟨s1, s2⟩, ok1, ok2⟩ := HU.out wr hb
        have HA1 := hid (fun (W : World) (h : Below wr.heap.size wr W) => V6 rf2 h92 hN9 (w := W) (fun e he => (ok2 e he).below h) hzN.out hNz (x : Int) (y : Int) ⟨by omega, by omega⟩ ⟨by omega, by omega⟩)
        have HA2 := hid (fun (a b : Int) (ha : 0 ≤ a ∧ a ≤ 4096) (hb : 0 ≤ b ∧ b ≤ 4096) (W : World) (h : Below wr.heap.size wr W) => V6 rf1 h91 hM9 (w := W) (fun e he => (ok1 e he).below h) hzM.out hMz a b ha hb)
        have hbp := hBP.out x y hxC hyR
        have hbn := hid (hBN.out x y hxC hyR)
        clear ok1 ok2
        obtain ⟨⟨px, py, pk⟩, hp⟩ : ∃ p, posR N x y = p := ⟨_, rfl⟩
        rw [hp] at HA1 hbp
        clear hp
        dsimp only at hbp
        go_wp2_with (first | refine wpList_load_mid (by rfl) _ _ (by rfl) x2.heap.size 0 (by rfl) (Kc (zl rf2)) _ s2 hU32 row32 hi2.out ?_ | fail)
        refine (HA1.out wr (Below.refl _ _)).mono ?_
        rintro e w1 ⟨rfl, hw1⟩
        have HB := Kb HB hw1
        have s1 := Ke s1 hw1
        have hb := Kb hb hw1
        dsimp only
        clear HA1 s2
        cases pk
        ·have HR := hid (hQ0.out (hbn.out (by rw [hbp, Bool.false_and])))
         clear hQ0 hQ1 hbn hbp hI HU hBP hBN
         have HBf := hid HB
         clear HB
         go_wp2
         refine bodyPost_ret (v := .tuple #[.bool false, .int .i64 0]) ?_ rfl ?_
         ·simp [results, Tryz.results22, go_sem]
         ·rw [HR.out]
          exact ⟨rfl, HBf.out⟩
        ·rw [Bool.true_and] at hbp
         by_cases i1 : px < 0
         ·have hin : inB ww hh px py = false := decide_eq_false (by omega)
          have HR := hid (hQ0.out (hbn.out (by rw [hbp, hin, Bool.false_and])))
          clear hQ0 hQ1 hbn hbp hI HU hBP hBN
          have HBf := hid HB
          clear HB
          go_wp2
          refine bodyPost_ret (v := .tuple #[.bool false, .int .i64 0]) ?_ rfl ?_
          ·simp [results, Tryz.results22, go_sem]
          ·rw [HR.out]
           exact ⟨rfl, HBf.out⟩
         ·by_cases i2 : px < ww
          ·by_cases i3 : py < 0
           ·have hin : inB ww hh px py = false := decide_eq_false (by omega)
            have HR := hid (hQ0.out (hbn.out (by rw [hbp, hin, Bool.false_and])))
            clear hQ0 hQ1 hbn hbp hI HU hBP hBN
            have HBf := hid HB
            clear HB
            go_wp2
            refine bodyPost_ret (v := .tuple #[.bool false, .int .i64 0]) ?_ rfl ?_
            ·simp [results, Tryz.results22, go_sem]
            ·rw [HR.out]
             exact ⟨rfl, HBf.out⟩
           ·by_cases i4 : py < hh
            ·have hin : inB ww hh px py = true := Qd.2 ⟨by omega, i2, by omega, i4⟩
             rw [hin, Bool.true_and] at hbp
             have HA2 := hid (HA2.out px py ⟨by omega, by omega⟩ ⟨by omega, by omega⟩)
             obtain ⟨⟨qx, qy, qk⟩, hq⟩ : ∃ q, posR M px py = q := ⟨_, rfl⟩
             rw [hq] at HA2 hbp
             clear hq hin
             dsimp only at hbp
             go_wp2_with (first | refine wpList_load_mid (by rfl) _ _ (by rfl) x1.heap.size 0 (by rfl) (Kc (zl rf1)) _ s1 hU32 row32 hi1.out ?_ | fail)
             refine (HA2.out w1 hw1).mono ?_
             rintro e w2 ⟨rfl, hw2⟩
             have HB := Kb HB hw2
             have hb := Kb hb hw2
             dsimp only
             clear HA2 s1 i1 i2 i3 i4
             cases qk
             ·have HR := hid (hQ0.out (hbn.out (by rw [hbp, Bool.false_and])))
              clear hQ0 hQ1 hbn hbp hI HU hBP hBN
              have HBf := hid HB
              clear HB
              go_wp2
              refine bodyPost_ret (v := .tuple #[.bool false, .int .i64 0]) ?_ rfl ?_
              ·simp [results, Tryz.results22, go_sem]
              ·rw [HR.out]
               exact ⟨rfl, HBf.out⟩
             ·rw [Bool.true_and] at hbp
              by_cases j1 : qx = (x : Int)
              ·by_cases j2 : qy = (y : Int)
               ·have hI' := hid (hI.out.next hxC (by rw [hbp, decide_eq_true j1, decide_eq_true j2]; rfl))
                subst j1 j2
                clear hbp hbn hI HB
                go_wp2
                go_roundw
                case rel => exact ⟨x + 1, by omega, by go_num, hb, hI'.out⟩
                case measure => simp [intOf]; omega
               ·have HR := hid (hQ0.out (hbn.out (by rw [hbp, decide_eq_false j2, Bool.and_false])))
                clear hQ0 hQ1 hbn hbp hI HU hBP hBN
                have HBf := hid HB
                clear HB
                go_wp2
                refine bodyPost_ret (v := .tuple #[.bool false, .int .i64 0]) ?_ rfl ?_
                ·simp [results, Tryz.results22, go_sem]
                ·rw [HR.out]
                 exact ⟨rfl, HBf.out⟩
              ·have HR := hid (hQ0.out (hbn.out (by rw [hbp, decide_eq_false j1, Bool.false_and])))
               clear hQ0 hQ1 hbn hbp hI HU hBP hBN
               have HBf := hid HB
               clear HB
               go_wp2
               refine bodyPost_ret (v := .tuple #[.bool false, .int .i64 0]) ?_ rfl ?_
               ·simp [results, Tryz.results22, go_sem]
               ·rw [HR.out]
                exact ⟨rfl, HBf.out⟩
            ·have hin : inB ww hh px py = false := decide_eq_false (by omega)
             have HR := hid (hQ0.out (hbn.out (by rw [hbp, hin, Bool.false_and])))
             clear hQ0 hQ1 hbn hbp hI HU hBP hBN
             have HBf := hid HB
             clear HB
             go_wp2
             refine bodyPost_ret (v := .tuple #[.bool false, .int .i64 0]) ?_ rfl ?_
             ·simp [results, Tryz.results22, go_sem]
             ·rw [HR.out]
              exact ⟨rfl, HBf.out⟩
          ·have hin : inB ww hh px py = false := decide_eq_false (by omega)
           have HR := hid (hQ0.out (hbn.out (by rw [hbp, hin, Bool.false_and])))
           clear hQ0 hQ1 hbn hbp hI HU hBP hBN
           have HBf := hid HB
           clear HB
           go_wp2
           refine bodyPost_ret (v := .tuple #[.bool false, .int .i64 0]) ?_ rfl ?_
           ·simp [results, Tryz.results22, go_sem]
           ·rw [HR.out]
            exact ⟨rfl, HBf.out⟩
       ·obtain rfl : x = C := by omega
        have hI' := hid (hI.out.row)
        go_wp2
        go_roundw
        case rel => exact ⟨y + 1, by omega, by go_num, hb, hI'⟩
        case measure => simp [intOf]; omega
     ·obtain rfl : y = R := by omega
      have HR := hid (hQ1.out hI.out.all)
      have HB := (HU.out wr hb).1
      clear HU hQ0 hQ1 hBP hBN hI
      have HBf := hid HB
      clear HB
      go_wp2
      refine bodyPost_ret (v := .tuple #[.bool true, .int .i64 0]) ?_ rfl ?_
      ·simp [results, Tryz.results22, go_sem]
      ·rw [HR.out]
       exact ⟨rfl, HBf.out⟩
end Go.Proofs.YtdkgbkbbbldliaaGreat
