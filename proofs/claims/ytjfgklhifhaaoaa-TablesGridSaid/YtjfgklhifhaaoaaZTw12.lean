/- Tables: Rules of the package. Conditions: none. -/
import Derived.Test.YtjfgklhifhaaoaaZTw11
set_option linter.unusedVariables false
set_option linter.unusedSimpArgs false
namespace Go.Proofs.Ytjfgklhifhaaoaa
open Go.RowKit
/-- lines and an error -/
def RetRL (w : World) (q : List Ru × Int) (e : Ending) (w' : World) : Prop := ∃ B d, e = .returned (.tuple #[.slice B q.1.length d, .int .i64 q.2]) ∧ RuK.Rd w' B d q.1 ∧ Below w.heap.size w w'
theorem rulE_1 {m : Bm} {k : Int} (h : bmB m = false) : rulE m k = ([], 1) := by unfold rulE; rw [h]; rfl
theorem rulE_3 {m : Bm} {k : Int} (h : bmB m = true) (hk : ¬ (1 ≤ k ∧ k ≤ 4096)) : rulE m k = ([], 3) := by unfold rulE; rw [h, if_pos rfl, if_neg hk]
theorem rulE_4 {m : Bm} {k : Int} (h : bmB m = true) (hk : 1 ≤ k ∧ k ≤ 4096) (hl : 4096 < (linE m k).length) : rulE m k = ([], 4) := by unfold rulE; rw [h, if_pos rfl, if_pos hk, if_pos hl]
theorem rulE_0 {m : Bm} {k : Int} (h : bmB m = true) (hk : 1 ≤ k ∧ k ≤ 4096) (hl : ¬ 4096 < (linE m k).length) : rulE m k = (linE m k, 0) := by unfold rulE; rw [h, if_pos rfl, if_pos hk, if_neg hl]
theorem two_lin {Lh Lv L1 L2 : List Ru} (h1 : L1 = Lh ∨ 4096 < L1.length ∧ 4096 < Lh.length) (h2 : L2 = Lv ∨ 4096 < L2.length ∧ 4096 < Lv.length) : (4096 < (L1 ++ L2).length → 4096 < (Lh ++ Lv).length) ∧ (¬ 4096 < (L1 ++ L2).length → L1 ++ L2 = Lh ++ Lv) := by
 simp only [List.length_append]
 rcases h1 with rfl | ⟨h1, h1'⟩
 ·rcases h2 with rfl | ⟨h2, h2'⟩
  ·exact ⟨id, fun _ => rfl⟩
  ·exact ⟨fun _ => by omega, fun h => absurd h (by omega)⟩
 ·exact ⟨fun _ => by omega, fun h => absurd h (by omega)⟩
set_option maxRecDepth 100000 in
set_option maxHeartbeats 8000000 in
theorem TRul_g (m : Bm) (A : Option Addr) (c : Nat) (k : Int) {w : World} (hm : BoK.Rd w A c m.d) :
  Calls Try.prog 8 #[.agg #[.int .i64 m.w, .int .i64 m.h, .slice A m.d.length c], .int .i64 k] w (RetRL w (rulE m k)) := by
 obtain ⟨E, hE⟩ : ∃ q, rulE m k = q := ⟨_, rfl⟩
 have e1 := hid fun (h : bmB m = false) => hE.symm.trans (rulE_1 (k := k) h)
 have e3 := hid fun (h : bmB m = true) (hk : ¬ (1 ≤ k ∧ k ≤ 4096)) => hE.symm.trans (rulE_3 h hk)
 have e4 := hid fun (h : bmB m = true) (hk : 1 ≤ k ∧ k ≤ 4096) (hl : 4096 < (linE m k).length) => hE.symm.trans (rulE_4 h hk hl)
 have e0 := hid fun (h : bmB m = true) (hk : 1 ≤ k ∧ k ≤ 4096) (hl : ¬ 4096 < (linE m k).length) => hE.symm.trans (rulE_0 h hk hl)
 have HC := hid fun (W : World) => RCheck_g m A c W
 have hck : Hid (ckE m = if bmB m then 0 else 1) := rfl
 have hmr := hid fun (W : World) (hb : Below w.heap.size w W) => hm.below hb
 rw [hE]
 clear hE hm
 go_enter Try.func8, Try.ntmps8
 go_upto_region 1 with fail
 refine enterR2 (P := fun u => Code.wp _ _ _ _ u) (c0 := [.int .i64 m.w, .int .i64 m.h, .slice A m.d.length c]) (c1 := [.int .i64 k]) ?_
 intro u HB r0 r1 zn0 zn1 hsz
 clear zn0 zn1 hsz
 have hB0 : RlB u w.heap.size (w.heap.size + 1) m A c k := ⟨r0 0 _ rfl, r0 1 _ rfl, r0 2 _ rfl, r1 0 _ rfl, hmr.out u HB⟩
 clear r0 r1 hmr
 have hB0' := hid hB0
 obtain ⟨m0, m1, m2, y0, -⟩ := hB0
 obtain ⟨K, hK⟩ : ∃ K, ckE m = K := ⟨_, rfl⟩
 rw [hK] at hck
 have HC' := hid (show Calls Try.prog 19 #[.agg #[.int .i64 m.w, .int .i64 m.h, .slice A m.d.length c]] u (RetI u K) from by rw [← hK]; exact HC.out u)
 clear HC hK
 go_wp2_with fail
 refine HC'.out.mono ?_
 rintro e v ⟨rfl, hv⟩
 have hB1 := hid (hB0'.out.below hv)
 replace HB := bel_step HB hv
 clear HC' hB0' m0 m1 m2 y0 hv
 cases hb : bmB m
 ·obtain rfl : K = 1 := by rw [hck.out, hb]; rfl
  obtain rfl := e1.out hb
  clear e0 e1 e3 e4 hck hb hB1
  go_wp2
  refine bodyPost_ret (v := .tuple #[.slice none 0 0, .int .i64 1]) ?_ rfl ?_
  ·simp [results, Try.results8, go_sem]
  ·exact ⟨none, 0, rfl, Knd.Rd.nil _, HB⟩
 ·obtain rfl : K = 0 := by rw [hck.out, hb]; rfl
  replace e3 := hid (e3.out hb)
  replace e4 := hid (e4.out hb)
  replace e0 := hid (e0.out hb)
  clear e1 hck
  obtain ⟨m0, m1, m2, y0, -⟩ := hB1.out
  by_cases g1 : k < 1
  ·obtain rfl := e3.out (by omega)
   clear e0 e3 e4 hB1 hb
   go_wp2
   refine bodyPost_ret (v := .tuple #[.slice none 0 0, .int .i64 3]) ?_ rfl ?_
   ·simp [results, Try.results8, go_sem]
   ·exact ⟨none, 0, rfl, Knd.Rd.nil _, HB⟩
  ·by_cases g2 : 4096 < k
   ·obtain rfl := e3.out (by omega)
    clear e0 e3 e4 hB1 hb
    go_wp2
    refine bodyPost_ret (v := .tuple #[.slice none 0 0, .int .i64 3]) ?_ rfl ?_
    ·simp [results, Try.results8, go_sem]
    ·exact ⟨none, 0, rfl, Knd.Rd.nil _, HB⟩
   ·have hk : 1 ≤ k ∧ k ≤ 4096 := by omega
    replace e4 := hid (e4.out hk)
    replace e0 := hid (e0.out hk)
    clear e3
    obtain ⟨s1, s2, s3, s4⟩ := bm_side hb
    have hsw1 := hid fun (W : World) (hB : RlB W w.heap.size (w.heap.size + 1) m A c k) => (show Calls Try.prog 20 #[.int .i64 m.h, .bool false, .func (.func 21) #[] #[.pointer (some ⟨w.heap.size, 0, none⟩), .pointer (some ⟨w.heap.size + 1, 0, none⟩)]] W (RetSw (rowsR m k) m.h.toNat false W) from by
     have h := Tswp_g m.h.toNat false 21 #[.pointer (some ⟨w.heap.size, 0, none⟩), .pointer (some ⟨w.heap.size + 1, 0, none⟩)] (rowsR m k) (w := W) (enters_of Try.func21 (by kernel_rfl) rfl) s4 (fun y => runL_srt _ _ _) (fun y => Nat.le_trans (runL_len _ _ _) s3) (fun V hv y hy => Rl1_g m A c _ _ k y hb hk (hB.below hv) hy)
     rwa [← s2] at h)
    have hsw2 := hid fun (W : World) (hB : RlB W w.heap.size (w.heap.size + 1) m A c k) => (show Calls Try.prog 20 #[.int .i64 m.w, .bool true, .func (.func 24) #[] #[.pointer (some ⟨w.heap.size, 0, none⟩), .pointer (some ⟨w.heap.size + 1, 0, none⟩)]] W (RetSw (colsR m k) m.w.toNat true W) from by
     have h := Tswp_g m.w.toNat true 24 #[.pointer (some ⟨w.heap.size, 0, none⟩), .pointer (some ⟨w.heap.size + 1, 0, none⟩)] (colsR m k) (w := W) (enters_of Try.func24 (by kernel_rfl) rfl) s3 (fun y => runL_srt _ _ _) (fun y => Nat.le_trans (runL_len _ _ _) s4) (fun V hv y hy => Rl2_g m A c _ _ k y hb hk (hB.below hv) hy)
     rwa [← s1] at h)
    have hsw1' := hid (hsw1.out v hB1.out)
    clear hsw1 s1 s2 s3 s4 hb
    go_wp2_with fail
    refine hsw1'.out.mono ?_
    rintro e v1 ⟨u1, L1, rfl, hO1, hv1, hl1, hq1⟩
    have hB2 := hB1.out.below hv1
    have hsw2' := hid (hsw2.out v1 hB2)
    have hvw := HB.size
    replace HB := bel_step HB hv1
    clear hsw2 hsw1' hB1 m0 m1 m2 y0
    obtain ⟨m0, m1, m2, y0, -⟩ := hB2
    have hvs := hv1.size
    go_wp2_with fail
    refine hsw2'.out.mono ?_
    rintro e v2 ⟨u2, L2, rfl, hO2, hv2, hl2, hq2⟩
    have hO1 := hO1.below hv2
    have hvs2 := hv2.size
    replace HB := bel_step HB hv2
    clear hsw2' m0 m1 m2 y0 hv2 hv1
    obtain ⟨t1, t2⟩ := two_lin hq1 hq2
    have hbs := HB.size
    obtain ⟨L, hL⟩ : ∃ L, L1 ++ L2 = L := ⟨_, rfl⟩
    have hLe : linE m k = linR (rowsR m k) m.h.toNat false ++ linR (colsR m k) m.w.toNat true := rfl
    rw [hL, ← hLe] at t1 t2
    clear hLe hq1 hq2
    by_cases hl : 4096 < L.length
    ·obtain rfl := e4.out (t1 hl)
     have hli : (4096 : Int) < (L.length : Int) := by omega
     clear e0 e4 t1 t2
     go_upto_region 7 with (at_builtin; go_loud (refine Knd.appv RuKo rfl (.tmp 20) (.tmp 24) rfl v.heap.size v1.heap.size u1 u2 L1 L2 rfl hO1 rfl hO2 hl1 hl2 (by omega) ?_); intro u3 v3 hO3 hg3 hat3)
     have hb3 := hid (Knd.grown HB hO1 hg3 hbs hvw)
     rw [hL] at hO3
     obtain ⟨A3, c3, rfl⟩ := hO3.form RuKo
     generalize L.length = n at *
     clear hO1 hO2 HB hO3 hg3 hat3
     go_wp2
     refine bodyPost_ret (v := .tuple #[.slice none 0 0, .int .i64 4]) ?_ rfl ?_
     ·simp [results, Try.results8, go_sem]
     ·exact ⟨none, 0, rfl, Knd.Rd.nil _, hb3.out⟩
    ·have hL2 := t2 hl
     obtain rfl := e0.out (by rw [← hL2]; exact hl)
     have hli : ¬ (4096 : Int) < (L.length : Int) := by omega
     clear e0 e4 t1 t2
     go_upto_region 7 with (at_builtin; go_loud (refine Knd.appv RuKo rfl (.tmp 20) (.tmp 24) rfl v.heap.size v1.heap.size u1 u2 L1 L2 rfl hO1 rfl hO2 hl1 hl2 (by omega) ?_); intro u3 v3 hO3 hg3 hat3)
     have hb3 := hid (Knd.grown HB hO1 hg3 hbs hvw)
     rw [hL, hL2] at hO3
     rw [hL2] at hli
     obtain ⟨A3, c3, e3, hr3⟩ := hO3.rd RuKo
     subst e3
     obtain ⟨n, hn⟩ : ∃ n, (linE m k).length = n := ⟨_, rfl⟩
     have hfin := hid (And.intro hr3 hb3.out)
     rw [hn] at hli ⊢
     have hn2 := hid hn
     clear hO1 hO2 HB hO3 hg3 hat3 hr3 hb3 hL hL2 hl hn
     go_wp2
     refine bodyPost_ret (v := .tuple #[.slice A3 n c3, .int .i64 0]) ?_ rfl ?_
     ·simp [results, Try.results8, go_sem]
     ·exact ⟨A3, c3, by rw [hn2.out], hfin.out.1, hfin.out.2⟩
end Go.Proofs.Ytjfgklhifhaaoaa
