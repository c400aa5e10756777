/- The laws on sampling: the helpers few, small and affine. Conditions: none. -/
import Derived.Test.YtdkgbkbbbldliaaGreatZSJ
import Derived.Test.YtdkgbkbbbldliaaGreatZSE
import Derived.Test.YtdkgbkbbbldliaaGreatZSK
import Derived.Test.YtdkgbkbbbldliaaGreatZHr20
import Derived.Test.YtdkgbkbbbldliaaGreatZXG
set_option linter.unusedVariables false
set_option linter.unusedSimpArgs false
namespace Go.Proofs.YtdkgbkbbbldliaaGreat
open Go.RowKit Big
set_option maxHeartbeats 2000000 in
theorem Lfew_g (m : Bm) (A : Option Addr) (c : Nat) (cols rows : Int) (w : World) : ∃ b, Calls Tryz.prog 10 #[.agg #[.int .i64 m.w, .int .i64 m.h, .slice A m.d.length c], .int .i64 cols, .int .i64 rows] w (RetB w b) := by
 by_cases h1 : (m.d.length : Int) ≤ 600
 ·by_cases h2 : cols ≤ 12
  ·by_cases h3 : rows ≤ 12
   ·refine ⟨true, ?_⟩
    go_enter Tryz.func10, Tryz.ntmps10
    go_upto_region 1 with fail
    refine Kw (P := fun u => Code.wp _ _ _ _ u) (c := [.int .i64 m.w, .int .i64 m.h, .slice A m.d.length c]) ?_
    intro u HB r0 z0 hsz
    clear hsz
    have c2 : u.cell? ⟨w.heap.size, 2, none⟩ = some (.slice A m.d.length c) := r0 2 _ rfl
    clear r0
    go_wp2
    go_ret
    exact ⟨rfl, HB⟩
   ·by_cases h4 : 4096 < cols
    ·omega
    ·by_cases h5 : 4096 < rows
     ·refine ⟨true, ?_⟩
      go_enter Tryz.func10, Tryz.ntmps10
      go_upto_region 1 with fail
      refine Kw (P := fun u => Code.wp _ _ _ _ u) (c := [.int .i64 m.w, .int .i64 m.h, .slice A m.d.length c]) ?_
      intro u HB r0 z0 hsz
      clear hsz
      have c2 : u.cell? ⟨w.heap.size, 2, none⟩ = some (.slice A m.d.length c) := r0 2 _ rfl
      clear r0
      go_wp2
      go_ret
      exact ⟨rfl, HB⟩
     ·refine ⟨false, ?_⟩
      go_enter Tryz.func10, Tryz.ntmps10
      go_upto_region 1 with fail
      refine Kw (P := fun u => Code.wp _ _ _ _ u) (c := [.int .i64 m.w, .int .i64 m.h, .slice A m.d.length c]) ?_
      intro u HB r0 z0 hsz
      clear hsz
      have c2 : u.cell? ⟨w.heap.size, 2, none⟩ = some (.slice A m.d.length c) := r0 2 _ rfl
      clear r0
      go_wp2
      go_ret
      exact ⟨rfl, HB⟩
  ·by_cases h4 : 4096 < cols
   ·refine ⟨true, ?_⟩
    go_enter Tryz.func10, Tryz.ntmps10
    go_upto_region 1 with fail
    refine Kw (P := fun u => Code.wp _ _ _ _ u) (c := [.int .i64 m.w, .int .i64 m.h, .slice A m.d.length c]) ?_
    intro u HB r0 z0 hsz
    clear hsz
    have c2 : u.cell? ⟨w.heap.size, 2, none⟩ = some (.slice A m.d.length c) := r0 2 _ rfl
    clear r0
    go_wp2
    go_ret
    exact ⟨rfl, HB⟩
   ·by_cases h5 : 4096 < rows
    ·refine ⟨true, ?_⟩
     go_enter Tryz.func10, Tryz.ntmps10
     go_upto_region 1 with fail
     refine Kw (P := fun u => Code.wp _ _ _ _ u) (c := [.int .i64 m.w, .int .i64 m.h, .slice A m.d.length c]) ?_
     intro u HB r0 z0 hsz
     clear hsz
     have c2 : u.cell? ⟨w.heap.size, 2, none⟩ = some (.slice A m.d.length c) := r0 2 _ rfl
     clear r0
     go_wp2
     go_ret
     exact ⟨rfl, HB⟩
    ·refine ⟨false, ?_⟩
     go_enter Tryz.func10, Tryz.ntmps10
     go_upto_region 1 with fail
     refine Kw (P := fun u => Code.wp _ _ _ _ u) (c := [.int .i64 m.w, .int .i64 m.h, .slice A m.d.length c]) ?_
     intro u HB r0 z0 hsz
     clear hsz
     have c2 : u.cell? ⟨w.heap.size, 2, none⟩ = some (.slice A m.d.length c) := r0 2 _ rfl
     clear r0
     go_wp2
     go_ret
     exact ⟨rfl, HB⟩
 ·refine ⟨false, ?_⟩
  go_enter Tryz.func10, Tryz.ntmps10
  go_upto_region 1 with fail
  refine Kw (P := fun u => Code.wp _ _ _ _ u) (c := [.int .i64 m.w, .int .i64 m.h, .slice A m.d.length c]) ?_
  intro u HB r0 z0 hsz
  clear hsz
  have c2 : u.cell? ⟨w.heap.size, 2, none⟩ = some (.slice A m.d.length c) := r0 2 _ rfl
  clear r0
  go_wp2
  go_ret
  exact ⟨rfl, HB⟩
set_option maxRecDepth 100000 in
set_option maxHeartbeats 4000000 in
theorem Wl (fs : List Rf) (h9 : fs.length = 9) {w : World} (hm : ∀ f ∈ fs, f.mg w) : Calls Tryz.prog 11 #[.agg (Kc (zl fs)).toArray] w (RetB w (fs.all fun f => decide (f.sz ≤ 3))) := by
 obtain ⟨t, ht⟩ : ∃ t, (fs.all fun f => decide (f.sz ≤ 3)) = t := ⟨_, rfl⟩
 have hF := hid fun (j : Nat) (hj : j < fs.length) (h : ¬ fs[j].sz ≤ 3) => (show t = false by
  rw [← ht, List.all_eq_false]
  exact ⟨fs[j], List.getElem_mem hj, by simpa using h⟩)
 have hT := hid fun (h : ∀ j (hj : j < fs.length), fs[j].sz ≤ 3) => (show t = true by
  rw [← ht, List.all_eq_true]
  intro f hf
  obtain ⟨j, hj, rfl⟩ := List.getElem_of_mem hf
  exact decide_eq_true (h j hj))
 rw [ht]
 clear ht
 have HM := hid fun (W : World) (h : Below w.heap.size w W) => (fun f (hf : f ∈ fs) => (hm f hf).below h)
 clear hm
 go_enter Tryz.func11, Tryz.ntmps11
 go_upto_region 1 with fail
 refine Kw (P := fun u => Code.wp _ _ _ _ u) (c := Kc (zl fs)) ?_
 intro u HB r0 z0 hsz
 clear hsz z0
 go_wp2
 go_loopw [3] (fun s3 wr => ∃ j : Nat, j ≤ 9 ∧ s3 = .int .i64 j ∧ Below u.heap.size u wr ∧ Hid (∀ i (hi : i < fs.length), i < j → fs[i].sz ≤ 3)) (fun s3 _ => 9 - (intOf s3).toNat)
 case atStart => exact ⟨0, by omega, rfl, Below.refl _ _, fun i _ h => absurd h (by omega)⟩
 case round =>
  obtain ⟨j, hj, rfl, hb, hI⟩ := hrel
  have HBw := Kb HB hb
  by_cases h4 : j < 9
  ·have hji : (j : Int) < 9 := by omega
   have hjf : j < fs.length := by omega
   have hmw := HM.out wr HBw
   obtain ⟨c0, c1, c2, c3, _, _⟩ := rf_at (Ke r0 hb) hmw j hjf
   have HZ := hid fun (W : World) (h : Below wr.heap.size wr W) => HRsz_z fs[j] ((hmw _ (List.getElem_mem hjf)).below h)
   have hf := hid (hF.out j hjf)
   have hn := hid fun (h : fs[j].sz ≤ 3) => (show ∀ i (hi : i < fs.length), i < j + 1 → fs[i].sz ≤ 3 from fun i h1 h2 => by
    rcases Nat.lt_or_ge i j with h3 | h3
    ·exact hI.out i h1 h3
    ·obtain rfl : i = j := by omega
     exact h)
   clear hmw
   generalize fs[j] = f at *
   generalize f.sz = s at *
   have lt0 := Kd c0
   go_wp2_with fail
   refine (HZ.out wr (Below.refl _ _)).mono ?_
   rintro e w1 ⟨rfl, h1⟩
   have hb1 := Kb hb h1
   clear c0 c1 c2 c3 HZ
   by_cases hs : s ≤ 3
   ·have hsi : ¬ (3 : Int) < (s : Int) := by omega
    have hI' := hid (hn.out hs)
    go_wp2
    go_roundw
    case rel => exact ⟨j + 1, by omega, by go_num, hb1, hI'.out⟩
    case measure => simp [intOf]; omega
   ·have hsi : (3 : Int) < (s : Int) := by omega
    obtain rfl := hf.out hs
    go_wp2
    go_ret
    exact ⟨rfl, Kb HB hb1⟩
  ·obtain rfl : j = 9 := by omega
   obtain rfl := hT.out fun i hi => hI.out i hi (by omega)
   go_wp2
   go_ret
   exact ⟨rfl, HBw⟩
theorem Hb {w : World} {g : Nat} {fs : List Rf} (h : w.rangeAt g 0 (Kc (zl fs))) (j : Nat) (hj : j < fs.length) : w.rangeAt g (j * 4) (Kc fs[j].ze) := by
 have e : zl fs = zl (fs.take j) ++ (fs[j].ze ++ zl (fs.drop (j + 1))) := by
  conv => lhs; rw [← List.take_append_drop j fs, List.drop_eq_getElem_cons hj, zl_app, Ud]
 rw [e] at h
 have := Qm _ _ _ h
 rwa [Ky, List.length_take, Nat.min_eq_left (by omega), Nat.zero_add, show 2 * (2 * j) = j * 4 by omega] at this
theorem QOf_rf {x n : Int} (hx : -9223372036854775808 ≤ x ∧ x ≤ 9223372036854775807) (hn : -9223372036854775808 ≤ n ∧ n ≤ 9223372036854775807) (h0 : n ≠ 0) (w : World) :
  Calls Tryz.prog 29 #[.int .i64 x, .int .i64 n] w (fun e w' => ∃ f : Rf, e = .returned (.tuple #[f.val, .int .i64 0]) ∧ f.f = (newE x n).1 ∧ f.v = true ∧ f.mg w' ∧ Below w.heap.size w w') := by
 obtain ⟨hq, hv, _, _⟩ := Zm (Xb hx) (Xb hn) h0
 have h := QOf_any x n w hx.1 hx.2 hn.1 hn.2
 rw [hq] at h
 generalize (newE x n).1 = q at *
 obtain ⟨bq, kq, Xq, lq, Yq, IQ⟩ := fz q
 refine h.mono fun e w' h => ?_
 obtain ⟨R1, c1, R2, c2, rfl, m1, m2, hb⟩ := h.g IQ.out
 have I := IQ.out
 refine ⟨⟨bq, R1, Xq, c1, false, R2, Yq, c2⟩, ?_, I.pair, I.valid hv, ⟨m1, m2⟩, hb⟩
 show _ = Ending.returned (.tuple #[.agg #[.bool bq, .slice R1 Xq.length c1, .bool false, .slice R2 Yq.length c2], .int .i64 0])
 rw [I.num.hn, I.den.hn]
theorem QOf_z (n : Int) (h1 : -9223372036854775808 ≤ n) (h2 : n ≤ 9223372036854775807) (w : World) :
  Calls Tryz.prog 29 #[.int .i64 n, .int .i64 1] w (fun e w' => ∃ e0 e1 : ZE, e = .returned (.tuple #[.agg (Kc [e0, e1]).toArray, .int .i64 0]) ∧ e0.z = n ∧ e1.z = 1 ∧ e0.ok w' ∧ e1.ok w' ∧ Below w.heap.size w w') := by
 obtain ⟨bq, kq, Xq, lq, Yq, IQ⟩ := fz (n, 1)
 have hf : fits n := (Xb ⟨h1, h2⟩).ft (by omega)
 have hq := newE_vf (vf_int hf)
 have h := QOf_any n 1 w h1 h2 (by omega) (by omega)
 dsimp only at hq
 rw [show ((1 : Nat) : Int) = 1 from rfl] at hq
 rw [hq] at h
 refine h.mono fun e w' h => ?_
 obtain ⟨R1, c1, R2, c2, rfl, m1, m2, hb⟩ := h.g IQ.out
 exact ⟨⟨n, bq, kq, Xq, R1, c1⟩, ⟨1, false, lq, Yq, R2, c2⟩, rfl, rfl, rfl, ⟨IQ.out.num, m1⟩, ⟨IQ.out.den, m2⟩, hb⟩
def RetS (w : World) (X : List Int) (e : Ending) (w' : World) : Prop := ∃ rf : List Rf, rf.length = 9 ∧ e = .returned (.agg (Kc (zl rf)).toArray) ∧ (∀ x ∈ zl rf, x.ok w') ∧ HomS w' rf X ∧ Below w.heap.size w w'
theorem six6 {α : Type} (l : List α) (h : l.length = 6) : ∃ a b c d e f, l = [a, b, c, d, e, f] := by
 match l, h with
 | [a, b, c, d, e, f], _ => exact ⟨a, b, c, d, e, f, rfl⟩
theorem affE_len' {fs : List Rf} {X : List Int} (h : affE fs = resZ X) (hX : X.length = 9) : (affE fs).1.length = 18 := by rw [h]; exact Wf hX
set_option maxRecDepth 100000 in
set_option maxHeartbeats 8000000 in
theorem U1 (a b c d e f n : Int) (hx : ∀ x ∈ [a, b, c, d, e, f], -9223372036854775808 ≤ x ∧ x ≤ 9223372036854775807) (hn : -9223372036854775808 ≤ n ∧ n ≤ 9223372036854775807) (h0 : n ≠ 0) (hd : a * e ≠ b * d) (w : World) :
  Calls Tryz.prog 24 #[.int .i64 a, .int .i64 b, .int .i64 c, .int .i64 d, .int .i64 e, .int .i64 f, .int .i64 n] w (RetS w [a, b, c, d, e, f, 0, 0, n]) := by
 obtain ⟨xs, hxs⟩ : ∃ xs, xs = [a, b, c, d, e, f] := ⟨_, rfl⟩
 have hl6 : xs.length = 6 := by rw [hxs]; rfl
 have hbz : ∀ x ∈ [a, b, c, d, e, f], Bz 64 x := fun x h => Xb (hx x h)
 have HOf := hid fun (j : Nat) (hj : j < xs.length) (W : World) => QOf_rf (x := xs[j]) (n := n) (hx xs[j] (by rw [← hxs]; exact List.getElem_mem hj)) hn h0 W
 have hog := hid fun (j : Nat) (hj : j < xs.length) => over_get (xs := xs) (n := n) (i := j) (by rw [Wu]; exact hj) hj
 have HAf0 := hid fun (fs : List Rf) (h6 : fs.length = 6) (hG : RfG fs (Vp xs n)) (W : World) (hm : ∀ f ∈ fs, f.mg W) => (show ∃ f0 f1 f2 f3 f4 f5, fs = [f0, f1, f2, f3, f4, f5] ∧ Calls Tryz.prog 49 #[f0.val, f1.val, f2.val, f3.val, f4.val, f5.val] W (RetH W (homZ (redZ [a, b, c, d, e, f, 0, 0, n]), 0)) from by
  obtain ⟨f0, f1, f2, f3, f4, f5, rfl⟩ := six6 fs h6
  subst hxs
  obtain ⟨h1, h2⟩ := affE_over hbz (Xb hn) h0 hd hG hm
  refine ⟨f0, f1, f2, f3, f4, f5, rfl, (HRAffine_g (w := W) hm).mono fun e w' h => ?_⟩
  have h3 := h.h (affE_len' h1 rfl)
  rw [h1] at h3
  unfold resZ at h3
  rwa [if_pos h2] at h3)
 have hHS := hid fun (rf : List Rf) (W : World) (hz : (zl rf).map (·.z) = homZ (redZ [a, b, c, d, e, f, 0, 0, n])) (ho : ∀ e ∈ zl rf, e.ok W) => (show HomS W rf [a, b, c, d, e, f, 0, 0, n] by
  have h40 : le40 (redZ [a, b, c, d, e, f, 0, 0, n]) = true := by
   unfold le40
   rw [decide_eq_true_eq]
   intro z hz
   refine Qo (redZ_bz (k := 64) (fun x hx' => ?_) z hz) (by omega)
   simp only [List.mem_cons, List.not_mem_nil, or_false] at hx' hbz
   rcases hx' with h | h | h | h | h | h | h | h | h
   ·exact hbz x (by simp [h])
   ·exact hbz x (by simp [h])
   ·exact hbz x (by simp [h])
   ·exact hbz x (by simp [h])
   ·exact hbz x (by simp [h])
   ·exact hbz x (by simp [h])
   ·subst h; exact by unfold Bz; decide
   ·subst h; exact by unfold Bz; decide
   ·subst h; exact Xb hn
  refine homS (homR_rf rfl h40 hz ho) (aff_det h0 hd) ?_
  intro x hx'
  simp only [List.mem_cons, List.not_mem_nil, or_false] at hx' hbz
  rcases hx' with h | h | h | h | h | h | h | h | h
  ·exact hbz x (by simp [h])
  ·exact hbz x (by simp [h])
  ·exact hbz x (by simp [h])
  ·exact hbz x (by simp [h])
  ·exact hbz x (by simp [h])
  ·exact hbz x (by simp [h])
  ·subst h; exact by unfold Bz; decide
  ·subst h; exact by unfold Bz; decide
  ·subst h; exact Xb hn)
 obtain ⟨X, hX⟩ : ∃ X, [a, b, c, d, e, f, 0, 0, n] = X := ⟨_, rfl⟩
 rw [hX] at HAf0 hHS
 rw [hX]
 have hxv := hid (show xs.map iv = [.int .i64 a, .int .i64 b, .int .i64 c, .int .i64 d, .int .i64 e, .int .i64 f] by rw [hxs]; rfl)
 clear hX hxs hx hbz hd h0
 obtain ⟨d26, hU26, row26⟩ := Q26u
 obtain ⟨d32, hU32, row32⟩ := T32u
 go_enter Tryz.func24, Tryz.ntmps24
 go_upto_region 1 with fail
 refine Kw (P := fun u => Code.wp _ _ _ _ u) (c := Kc Kj) ?_
 intro u HB r0 z0 hsz
 clear hsz
 go_upto_region 3 with fail
 refine Kw (P := fun u => Code.wp _ _ _ _ u) (c := [.int .i64 a, .int .i64 b, .int .i64 c, .int .i64 d, .int .i64 e, .int .i64 f]) ?_
 intro v1 hv1 rx zx hsz
 rw [← hxv.out] at rx
 have r0 := Ke r0 hv1
 have z0 := z0.below hv1
 have HB := Kb HB hv1
 have hgx := zx.lt
 clear hsz zx hv1 hxv
 go_wp2
 go_loopw [15, 17] (fun s15 s17 wr => ∃ (j : Nat) (ts : List Rf), j ≤ 6 ∧ s17 = .int .i64 j ∧ OwnF wr v1.heap.size s15 ts ∧ ts.length = j ∧ Hid (ts.map Rf.f = (Vp xs n).take j) ∧ Hid (∀ f ∈ ts, f.v = true ∧ f.mg wr) ∧ Below v1.heap.size v1 wr) (fun _ s17 _ => 6 - (intOf s17).toNat)
 case atStart => exact ⟨0, [], by omega, rfl, OwnF.nil _ _, rfl, rfl, fun f hf => by simp at hf, Below.refl _ _⟩
 case round =>
  obtain ⟨j, ts, hj, rfl, hown, htl, htq, hto, hb⟩ := hrel
  by_cases h4 : j < 6
  ·have hji : (j : Int) < 6 := by omega
   have hjx : j < xs.length := by omega
   have cx : wr.cell? ⟨u.heap.size, 0 + j, none⟩ = some (iv xs[j]) := (Ke rx hb) j _ (by rw [List.getElem?_map, List.getElem?_eq_getElem hjx]; rfl)
   rw [Nat.zero_add] at cx
   have HO := hid fun (W : World) => HOf.out j hjx W
   have hq' := hid fun (g : Rf) (hg : g.f = (newE xs[j] n).1) => (show (ts ++ [g]).map Rf.f = (Vp xs n).take (j + 1) by
    rw [List.map_append, htq.out, List.take_succ_eq_append_getElem (by rw [Wu]; exact hjx), hog.out j hjx, ← hg]; rfl)
   generalize xs[j] = x at *
   dsimp only [iv] at cx
   have HW := hid hown
   have ltx := Kd cx
   clear hown htq
   go_wp2_with fail
   refine (HO.out wr).mono ?_
   rintro e x1 ⟨g, rfl, hgq, hgv, hgm, hx1⟩
   unfold Rf.val
   go_upto_region 7 with fail
   refine Kw (P := fun u => Code.wp _ _ _ _ u) (c := Kc g.ze) ?_
   intro x2 hx2 ra za hsz
   have h12 := Kb hx1 hx2
   have hownx := HW.out.below h12
   have hbx := Kb hb h12
   have hgm := hgm.below hx2
   have hox := hid fun f hf => And.intro (hto.out f hf).1 ((hto.out f hf).2.below h12)
   have a0 : x2.cell? ⟨x1.heap.size, 0, none⟩ = some (.bool g.na) := ra 0 _ rfl
   have a1 : x2.cell? ⟨x1.heap.size, 1, none⟩ = some (.slice g.A g.xs.length g.ca) := ra 1 _ rfl
   have a2 : x2.cell? ⟨x1.heap.size, 2, none⟩ = some (.bool g.nb) := ra 2 _ rfl
   have a3 : x2.cell? ⟨x1.heap.size, 3, none⟩ = some (.slice g.B g.ys.length g.cb) := ra 3 _ rfl
   have hq6 := hid (hq'.out g hgq)
   clear hsz za ra cx hx1 hx2 HO HW hto hq'
   go_wp2_with (at_builtin; refine wpList_appG rfl (.tmp 44) (.tmp 46) rfl v1.heap.size _ ts g x2.heap.size rfl (hownx.below ((Below.refl _ _).alloc (Nat.le_refl _) _)) rfl (K4 (cs := Kc g.ze)) (by omega) (by simp; have := hbx.size; omega) ?_; intro v5 w6 hown6 hgr)
   have hal := fun (O : Obj) => (Below.refl x2.heap.size x2).alloc (Nat.le_refl _) O
   have hb6 := ((hbx.alloc hbx.size _).trans (Hg (hownx.below (hal _)).own hgr (by simp; have := hbx.size; omega)))
   have ho6 : Hid (∀ f ∈ ts ++ [g], f.v = true ∧ f.mg w6) := fun f hf => by
    rcases List.mem_append.1 hf with h | h
    ·obtain ⟨k1, k2⟩ := hox.out f h
     exact ⟨k1, ⟨(k2.m1.below (hal _)).grownF (hownx.below (hal _)) hgr, (k2.m2.below (hal _)).grownF (hownx.below (hal _)) hgr⟩⟩
    ·rw [List.mem_singleton] at h
     subst h
     exact ⟨hgv, ⟨(hgm.m1.below (hal _)).grownF (hownx.below (hal _)) hgr, (hgm.m2.below (hal _)).grownF (hownx.below (hal _)) hgr⟩⟩
   have HF := hid (And.intro hown6 hb6)
   clear hgr hal hown6 hb6 hownx hox hbx a0 a1 a2 a3
   go_wp2
   go_roundw
   case rel => exact ⟨j + 1, _, by omega, by go_num, HF.out.1, by simp [htl], hq6, ho6, HF.out.2⟩
   case measure => simp [intOf]; omega
  ·obtain rfl : j = 6 := by omega
   have HBw := Kb HB hb
   have r0 := Ke r0 hb
   have z0 := z0.below hb
   have htq := htq.out
   rw [List.take_of_length_le (by rw [Wu]; omega)] at htq
   have hG : RfG ts (Vp xs n) := ⟨fun f hf => (hto.out f hf).1, htq⟩
   obtain ⟨gt, ct, rfl, hbt, hrt, hct, hcm⟩ := Y6 hown.own (by omega)
   obtain ⟨f0, f1, f2, f3, f4, f5, rfl, _⟩ := HAf0.out ts htl hG wr (fun f hf => (hto.out f hf).2)
   have HAf := hid fun (W : World) (h : Below wr.heap.size wr W) => (show Calls Tryz.prog 49 #[f0.val, f1.val, f2.val, f3.val, f4.val, f5.val] W (RetH W (homZ (redZ X), 0)) from by
    obtain ⟨g0, g1, g2, g3, g4, g5, e1, e2⟩ := HAf0.out [f0, f1, f2, f3, f4, f5] rfl hG W (fun f hf => ((hto.out f hf).2).below h)
    simp only [List.cons.injEq, and_true] at e1
    obtain ⟨rfl, rfl, rfl, rfl, rfl, rfl⟩ := e1
    exact e2)
   have hrt := hid hrt
   have h6c : (6 : Int) ≤ (ct : Int) := by simp at hct; omega
   clear HAf0 HOf hog hG htq hto hown htl hct hcm rx
   go_upto_region 8 with fail
   go_cut [20, 21] (fun s20 s21 wx => s21 = .int .i64 0 ∧ ∃ (g : Nat) (rf : List Rf), s20 = .pointer (some ⟨g, 0, none⟩) ∧ rf.length = 9 ∧ (zl rf).map (·.z) = homZ (redZ X) ∧ BlkR wr g rf wx)
   case first =>
    have qc : Below wr.heap.size wr wr.drew := Qj
    refine wp_region_held_drew (S := fun w' => Below wr.heap.size wr w') (by kernel_rfl) ?_ (fun hHeld => ?_)
    ·exact qc
    generalize wr.drew = wd at *
    refine' TKa 0 ?_
    refine' TKa 1 ?_
    refine tk (i := 2) rfl (by decide +kernel) (yieldsIf_load_mid (by rfl) _ _ (by rfl) (gt) (0) (by rfl) (Kc f0.ze) _ (fun w_ hS_ => Hb (Ke hrt.out hS_) 0 (by simp)) hU26 (by first | rfl | assumption) Q26i) (by assumption) (fun _ _ _ h => h) ?_
    (try simp only [Act.put, Lp0, Lp1, Lp2])
    refine' TKa 3 ?_
    refine' TKa 4 ?_
    refine tk (i := 5) rfl (by decide +kernel) (yieldsIf_load_mid (by rfl) _ _ (by rfl) (gt) (4) (by rfl) (Kc f1.ze) _ (fun w_ hS_ => Hb (Ke hrt.out hS_) 1 (by simp)) hU26 (by first | rfl | assumption) Q26i) (by assumption) (fun _ _ _ h => h) ?_
    (try simp only [Act.put, Lp0, Lp1, Lp2])
    refine' TKa 6 ?_
    refine' TKa 7 ?_
    refine tk (i := 8) rfl (by decide +kernel) (yieldsIf_load_mid (by rfl) _ _ (by rfl) (gt) (8) (by rfl) (Kc f2.ze) _ (fun w_ hS_ => Hb (Ke hrt.out hS_) 2 (by simp)) hU26 (by first | rfl | assumption) Q26i) (by assumption) (fun _ _ _ h => h) ?_
    (try simp only [Act.put, Lp0, Lp1, Lp2])
    refine' TKa 9 ?_
    refine' TKa 10 ?_
    refine tk (i := 11) rfl (by decide +kernel) (yieldsIf_load_mid (by rfl) _ _ (by rfl) (gt) (12) (by rfl) (Kc f3.ze) _ (fun w_ hS_ => Hb (Ke hrt.out hS_) 3 (by simp)) hU26 (by first | rfl | assumption) Q26i) (by assumption) (fun _ _ _ h => h) ?_
    (try simp only [Act.put, Lp0, Lp1, Lp2])
    refine' TKa 12 ?_
    refine' TKa 13 ?_
    refine tk (i := 14) rfl (by decide +kernel) (yieldsIf_load_mid (by rfl) _ _ (by rfl) (gt) (16) (by rfl) (Kc f4.ze) _ (fun w_ hS_ => Hb (Ke hrt.out hS_) 4 (by simp)) hU26 (by first | rfl | assumption) Q26i) (by assumption) (fun _ _ _ h => h) ?_
    (try simp only [Act.put, Lp0, Lp1, Lp2])
    refine' TKa 15 ?_
    refine' TKa 16 ?_
    refine tk (i := 17) rfl (by decide +kernel) (yieldsIf_load_mid (by rfl) _ _ (by rfl) (gt) (20) (by rfl) (Kc f5.ze) _ (fun w_ hS_ => Hb (Ke hrt.out hS_) 5 (by simp)) hU26 (by first | rfl | assumption) Q26i) (by assumption) (fun _ _ _ h => h) ?_
    (try simp only [Act.put, Lp0, Lp1, Lp2])
    refine br2 (i := 18) (j := 22) (by decide +kernel) rfl rfl (fun K hK => ?_) (fun K hK => ?_)
    ·go_simp
     (go_at_call 49; refine (HAf.out _ qc).mono ?_; rintro e a1 ⟨rf, h9, rfl, hz, ok, mg, hq_⟩; have qc := Kb qc hq_; (try have ra := Ke ra hq_); (try have za := za.below hq_))
     (try go_wp2_with fail)
     refine' HKa hK (by exact qc) (fun hHeld => ?_)
     clear hK K
     refine' TKa 19 ?_
     refine' TKa 20 ?_
     refine' TKa 21 ?_
     refine BRa 22 (fun K hK => ?_)
     have hal_ := (Below.refl a1.heap.size a1).alloc (Nat.le_refl _) (.cells (Kc Kj).toArray 32)
     have hgv := qc.size
     have qc := Kb qc hal_
     have ra : (a1.alloc (.cells (Kc Kj).toArray 32)).rangeAt a1.heap.size 0 (Kc Kj) := K4
     have za : Zn (a1.alloc (.cells (Kc Kj).toArray 32)) a1.heap.size := Zn.new_
     have ok : ∀ e ∈ zl rf, e.ok (a1.alloc (.cells (Kc Kj).toArray 32)) := fun e he => (ok e he).below hal_
     go_simp
     skip
     (try go_wp2_with fail)
     refine' HKa hK (by exact qc) (fun hHeld => ?_)
     clear hK K
     have hgv : wr.heap.size ≤ a1.heap.size := hgv
     have h36 : (Kc (zl rf)).length = 36 := by rw [Kf, Ky, h9]
     have hi36 : (Tryz.prog.info? 32).map (·.size) = some (Kc (zl rf)).toArray.size := by rw [List.size_toArray, h36]; exact T32i
     have ht36 := Kq ra za
     rw [show (Kc Kj).length = (Kc (zl rf)).toArray.size by rw [List.size_toArray, h36]; rfl] at ht36
     refine BRa 23 (fun K hK => ?_)
     rw [if_pos (by rfl)]
     refine wp_store_mid _ _ _ rfl (a1.heap.size) 0 (Kc (zl rf)).toArray rfl rfl ht36 hi36 (all_oneCell_toArray (Km _)) ?_
     refine' HKa hK (by (exact J4 hgv _ _ _ qc)) (fun hHeld => ?_)
     clear hK K
     refine' TKa 24 ?_
     refine wpAnyH_done (by kernel_rfl) ?_ _
     go_wp2_with fail
     go_meet
     exact ⟨rfl, _, rf, rfl, h9, hz, BlkR.set (cs := Kj) ra za qc hgv (by rw [Ky, h9]; rfl) ok⟩
    ·have hal_ := (Below.refl wd.heap.size wd).alloc (Nat.le_refl _) (.cells (Kc Kj).toArray 32)
     have hgv := qc.size
     have qc := Kb qc hal_
     have ra : (wd.alloc (.cells (Kc Kj).toArray 32)).rangeAt wd.heap.size 0 (Kc Kj) := K4
     have za : Zn (wd.alloc (.cells (Kc Kj).toArray 32)) wd.heap.size := Zn.new_
     go_simp
     skip
     (try go_wp2_with fail)
     refine' HKa hK (by exact qc) (fun hHeld => ?_)
     clear hK K
     refine BRa 18 (fun K hK => ?_)
     go_simp
     (go_at_call 49; refine (HAf.out _ qc).mono ?_; rintro e a1 ⟨rf, h9, rfl, hz, ok, mg, hq_⟩; have qc := Kb qc hq_; (try have ra := Ke ra hq_); (try have za := za.below hq_))
     (try go_wp2_with fail)
     refine' HKa hK (by exact qc) (fun hHeld => ?_)
     clear hK K
     refine' TKa 19 ?_
     refine' TKa 20 ?_
     refine' TKa 21 ?_
     have hgv : wr.heap.size ≤ wd.heap.size := hgv
     have h36 : (Kc (zl rf)).length = 36 := by rw [Kf, Ky, h9]
     have hi36 : (Tryz.prog.info? 32).map (·.size) = some (Kc (zl rf)).toArray.size := by rw [List.size_toArray, h36]; exact T32i
     have ht36 := Kq ra za
     rw [show (Kc Kj).length = (Kc (zl rf)).toArray.size by rw [List.size_toArray, h36]; rfl] at ht36
     refine BRa 23 (fun K hK => ?_)
     rw [if_pos (by rfl)]
     refine wp_store_mid _ _ _ rfl (wd.heap.size) 0 (Kc (zl rf)).toArray rfl rfl ht36 hi36 (all_oneCell_toArray (Km _)) ?_
     refine' HKa hK (by (exact J4 hgv _ _ _ qc)) (fun hHeld => ?_)
     clear hK K
     refine' TKa 24 ?_
     refine wpAnyH_done (by kernel_rfl) ?_ _
     go_wp2_with fail
     go_meet
     exact ⟨rfl, _, rf, rfl, h9, hz, BlkR.set (cs := Kj) ra za qc hgv (by rw [Ky, h9]; rfl) ok⟩
   case rest =>
    obtain ⟨rfl, gp, rf, rfl, h9, hz, kb⟩ := hcut
    have HBx := Kb HBw kb.b
    have r0 := Ke r0 kb.b
    have z0 := z0.below kb.b
    have hl18 : (zl rf).length = 18 := by rw [Ky, h9]
    have hi36 := hid (show (Tryz.prog.info? 32).map (·.size) = some (Kc (zl rf)).toArray.size by rw [List.size_toArray, Kf, hl18]; exact T32i)
    have hi36' := hid (show (Tryz.prog.info? 32).map (·.size) = some (Kc (zl rf)).length by rw [Kf, hl18]; exact T32i)
    have ht := Kq r0 z0
    rw [show (Kc Kj).length = (Kc (zl rf)).toArray.size by rw [List.size_toArray, Kf, Kf, hl18]; rfl] at ht
    have ho := all_oneCell_toArray (Km (zl rf))
    obtain ⟨G1, G2, G3, G4⟩ := Ju (w := w) (l := zl rf) (cs := Kj) hU32 row32 hi36'.out HBx (Nat.le_refl _) r0 z0 (by rw [hl18]; rfl) kb.ok
    have HF := hid (And.intro (And.intro G3 G4) (hHS.out rf _ hz G4))
    have rP := kb.r
    clear G1 G3 G4 kb hz hHS r0 z0 HBx HBw
    go_wp2_with (first | refine wpList_load_mid (by rfl) _ _ (by rfl) gp 0 (by rfl) (Kc (zl rf)) _ rP hU32 row32 hi36'.out ?_ | refine wpList_store_mid (by rfl) _ _ _ (by rfl) w.heap.size 0 (Kc (zl rf)).toArray (by rfl) (by rfl) ht hi36.out ho ?_ | fail)
    refine bodyPost_ret (v := .agg (Kc (zl rf)).toArray) ?_ rfl ?_
    ·simp [results, Tryz.results24, Sem.run_bind, asAddr, Act.put, G2]
    ·exact ⟨rf, h9, rfl, HF.out.1.2, HF.out.2, HF.out.1.1⟩
end Go.Proofs.YtdkgbkbbbldliaaGreat
