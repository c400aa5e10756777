/- The law SamplingFaithful: its walk. Conditions: none. -/
import Derived.Test.YtdkgbkbbbldliaaGreatZLsX
import Derived.Test.YtdkgbkbbbldliaaGreatZSI
set_option linter.unusedVariables false
set_option linter.unusedSimpArgs false
namespace Go.Proofs.YtdkgbkbbbldliaaGreat
open Go.RowKit Big
theorem fth_err {ok : Bool} {q : Int} {N M : List Int} {c r a b : Int} (h : (fthE ok q N M c r a b).2 ≠ 0) : (fthE ok q N M c r a b).1 = false := by
 unfold fthE at h ⊢
 split
 ·rename_i h1
  rw [if_pos h1] at h
  split
  ·rename_i h2
   rw [if_pos h2] at h
   split
   ·rename_i h3
    rw [if_pos h3] at h
    exact absurd rfl h
   ·rfl
  ·rfl
 ·rfl
theorem smpB_ok {m : Bm} {M : List Int} {a b : Int} (h : J9 a b = true) : bmB ⟨a, b, smpL m M a b⟩ = true := by
 obtain ⟨h1, h2, h3, h4, h5⟩ := Jj.1 h
 rw [W5]
 refine ⟨⟨h1, h2, h3, h4, h5⟩, ?_⟩
 show ((smpL m M a b).length : Int) = a * b
 rw [Wo]
 have : 0 ≤ a * b := Int.mul_nonneg (by omega) (by omega)
 omega
theorem fth_true {m : Bm} (hm : bmB m = true) {ok : Bool} {q : Int} {N M : List Int} {a b : Int} (h : fthE ok q N M m.w m.h a b = (true, 0)) :
  wrpE m ok q M a b = (⟨a, b, smpL m M a b⟩, 0) ∧ smpE ⟨a, b, smpL m M a b⟩ ok N m.w m.h = (⟨m.w, m.h, m.d⟩, 0) := by
 unfold fthE at h
 split at h
 ·rename_i h1
  split at h
  ·rename_i h2
   rw [Bool.and_eq_true] at h2
   split at h
   ·rename_i h3
    obtain ⟨k1, k2⟩ := faithful_law hm (by simpa using h)
    unfold wrpE smpE
    rw [hm, h1, h2.1, h2.2, smpB_ok h2.2, k1, k2, if_pos h3]
    exact ⟨rfl, rfl⟩
   ·rw [Prod.mk.injEq] at h; exact absurd h.1 (by decide)
  ·simp at h
 ·simp at h
set_option maxRecDepth 100000 in
set_option maxHeartbeats 4000000 in
theorem Ds (m : Bm) (A : Option Addr) (c : Nat) (fs : List Rf) (h9 : fs.length = 9) {w : World} (hb : Mb w A c m.d) (hm : ∀ f ∈ fs, f.mg w) (M : Nat) (hM : M ≤ 255) (N : Nat) (hN : N ≤ 255) :
  Calls Tryz.prog 7 #[.agg #[.int .i64 m.w, .int .i64 m.h, .slice A m.d.length c], .agg (Kc (zl fs)).toArray, .int .u8 M, .int .u8 N] w (RetB w true) := by
 have hi := hid (show (Tryz.prog.info? 32).map (·.size) = some (Kc (zl fs)).length by rw [Kf, Ky, h9]; exact T32i)
 obtain ⟨K, hK, hK2⟩ : ∃ K : Nat, (M : Int) % 40 = K ∧ K < 40 := ⟨M % 40, by omega, by omega⟩
 obtain ⟨L, hL, hL2⟩ : ∃ L : Nat, (N : Int) % 40 = L ∧ L < 40 := ⟨N % 40, by omega, by omega⟩
 have HCk := hid fun (W : World) => U6 m A c W
 have HSm := hid fun (W : World) (h : Below w.heap.size w W) => Wl fs h9 (w := W) (fun f hf => (hm f hf).below h)
 obtain ⟨X, hX⟩ : ∃ X : Int, 1 + (K : Int) = X := ⟨_, rfl⟩
 obtain ⟨Y, hY⟩ : ∃ Y : Int, 1 + (L : Int) = Y := ⟨_, rfl⟩
 have hXw : IntKind.i64.wrap (1 + (K : Int)) = X := by rw [IntKind.wrap_i64]; omega
 have hYw : IntKind.i64.wrap (1 + (L : Int)) = Y := by rw [IntKind.wrap_i64]; omega
 have HF := hid fun (W : World) (h : Below w.heap.size w W) => Xm fs h9 (w := W) (fun f hf => (hm f hf).below h) m.w m.h X Y
 have HW := hid fun (W : World) (h : Below w.heap.size w W) => SWarp_g fs h9 (hb.below h) (fun f hf => (hm f hf).below h) X Y
 have HS := hid fun (p : Bm) (B : Option Addr) (k : Nat) (W : World) (hp : Mb W B k p.d) (h : Below w.heap.size w W) => Uw (m := p) fs h9 hp (fun f hf => (hm f hf).below h) m.w m.h
 have hFe := hid fun h => fth_err (ok := nrmB fs) (q := (oneE adjZ fs).2) (N := nrmZ fs) (M := bakZ fs) (c := m.w) (r := m.h) (a := X) (b := Y) h
 have hFt := hid fun (hm : bmB m = true) h => fth_true hm (ok := nrmB fs) (q := (oneE adjZ fs).2) (N := nrmZ fs) (M := bakZ fs) (a := X) (b := Y) h
 have HMb := hid fun (W : World) (h : Below w.heap.size w W) => hb.below h
 obtain ⟨⟨fo, fe⟩, hP⟩ : ∃ P, fthE (nrmB fs) (oneE adjZ fs).2 (nrmZ fs) (bakZ fs) m.w m.h X Y = P := ⟨_, rfl⟩
 rw [hP] at HF hFe hFt
 obtain ⟨sm, hsm⟩ : ∃ b, (fs.all fun f => decide (f.sz ≤ 3)) = b := ⟨_, rfl⟩
 rw [hsm] at HSm
 unfold ckE at HCk
 clear hP hsm hm hX hY hb
 obtain ⟨d32, hU32, row32⟩ := T32u
 go_enter Tryz.func7, Tryz.ntmps7
 go_upto_region 1 with fail
 refine Jc (P := fun u => Code.wp _ _ _ _ u) (c0 := [.int .i64 m.w, .int .i64 m.h, .slice A m.d.length c]) (c1 := Kc (zl fs)) ?_
 intro u HB r0 r1 zn0 zn1 hsz
 clear hsz zn0 zn1
 have c0 : (u).cell? ⟨w.heap.size, 0, none⟩ = some (.int .i64 m.w) := r0 0 _ rfl
 have c1 : (u).cell? ⟨w.heap.size, 1, none⟩ = some (.int .i64 m.h) := r0 1 _ rfl
 have c2 : (u).cell? ⟨w.heap.size, 2, none⟩ = some (.slice A m.d.length c) := r0 2 _ rfl
 clear r0
 go_wp2_with fail
 refine (HCk.out u).mono ?_
 rintro e v ⟨rfl, hv⟩
 have r1 := Ke r1 hv
 have c0 := Ka hv c0
 have c1 := Ka hv c1
 have c2 := Ka hv c2
 have HB := Kb HB hv
 clear HCk hv
 cases hbm : bmB m
 ·simp only [Bool.false_eq_true, if_false]
  clear HSm HF HW HS hFe hFt HMb
  go_wp2_with fail
  refine (Qw _).mono ?_
  rintro e x_ ⟨rfl, hx_⟩
  have HB := Kb HB hx_
  go_wp2
  go_ret
  exact ⟨rfl, HB⟩
 ·simp only [if_true]
  by_cases h1 : 12 < m.w
  ·clear HSm HF HW HS hFe hFt HMb
   go_wp2_with fail
   refine (Qw _).mono ?_
   rintro e x_ ⟨rfl, hx_⟩
   have HB := Kb HB hx_
   go_wp2
   go_ret
   exact ⟨rfl, HB⟩
  ·by_cases h2 : 12 < m.h
   ·clear HSm HF HW HS hFe hFt HMb
    go_wp2_with fail
    refine (Qw _).mono ?_
    rintro e x_ ⟨rfl, hx_⟩
    have HB := Kb HB hx_
    go_wp2
    go_ret
    exact ⟨rfl, HB⟩
   ·go_wp2_with (first | refine Jg (by rfl) _ _ (by rfl) (w.heap.size + 1) 0 (by rfl) (Kc (zl fs)) _ r1 hU32 row32 hi.out ?_ | fail)
    refine (HSm.out v HB).mono ?_
    rintro e v1 ⟨rfl, hv1⟩
    have r1 := Ke r1 hv1
    have c0 := Ka hv1 c0
    have c1 := Ka hv1 c1
    have c2 := Ka hv1 c2
    have HB := Kb HB hv1
    clear HSm hv1
    cases sm
    ·clear HF HW HS hFe hFt HMb
     go_wp2_with fail
     refine (Qw _).mono ?_
     rintro e x_ ⟨rfl, hx_⟩
     have HB := Kb HB hx_
     go_wp2
     go_ret
     exact ⟨rfl, HB⟩
    ·go_wp2_with (first | refine wpList_load_mid (by rfl) _ _ (by rfl) (w.heap.size + 1) 0 (by rfl) (Kc (zl fs)) _ r1 hU32 row32 hi.out ?_ | fail)
     refine (HF.out v1 HB).mono ?_
     rintro e v2 ⟨rfl, hv2⟩
     dsimp only
     have r1 := Ke r1 hv2
     have c0 := Ka hv2 c0
     have c1 := Ka hv2 c1
     have c2 := Ka hv2 c2
     have HB := Kb HB hv2
     clear HF hv2
     by_cases he : fe = 0
     ·subst he
      cases fo
      ·clear HW HS hFe hFt HMb r1 c0 c1 c2
       go_wp2_with fail
       refine (Qw _).mono ?_
       rintro e x_ ⟨rfl, hx_⟩
       have HB := Kb HB hx_
       go_wp2
       go_ret
       exact ⟨rfl, HB⟩
      ·obtain ⟨e1, e2⟩ := hFt.out hbm rfl
       rw [e1] at HW
       have HS := hid (HS.out ⟨X, Y, smpL m (bakZ fs) X Y⟩)
       rw [e2] at HS
       clear hFe hFt e1 e2
       dsimp only at HS
       generalize smpL m (bakZ fs) X Y = pd at *
       go_wp2_with (first | refine wpList_load_mid (by rfl) _ _ (by rfl) (w.heap.size + 1) 0 (by rfl) (Kc (zl fs)) _ r1 hU32 row32 hi.out ?_ | fail)
       refine (HW.out v2 HB).mono ?_
       rintro e x1 ⟨A1, k1, rfl, hM1, hx1⟩
       dsimp only at hM1 ⊢
       go_upto_region 8 with fail
       refine Kw (P := fun u => Code.wp _ _ _ _ u) (c := [.int .i64 X, .int .i64 Y, .slice A1 pd.length k1]) ?_
       intro v3 hv3 s1 z1 hsz
       have h12 := Kb hx1 hv3
       have r1 := Ke r1 h12
       have c0 := Ka h12 c0
       have c1 := Ka h12 c1
       have c2 := Ka h12 c2
       have HB := Kb HB h12
       have hM1 := hM1.below hv3
       have HS := hid (HS.out A1 k1 v3 hM1 HB)
       have e0 : v3.cell? ⟨x1.heap.size, 0, none⟩ = some (.int .i64 X) := s1 0 _ rfl
       have e1 : v3.cell? ⟨x1.heap.size, 1, none⟩ = some (.int .i64 Y) := s1 1 _ rfl
       have e2 : v3.cell? ⟨x1.heap.size, 2, none⟩ = some (.slice A1 pd.length k1) := s1 2 _ rfl
       clear z1 hsz hx1 hv3 h12 HW s1 hM1
       generalize pd.length = pn at *
       go_wp2_with (first | refine wpList_load_mid (by rfl) _ _ (by rfl) (w.heap.size + 1) 0 (by rfl) (Kc (zl fs)) _ r1 hU32 row32 hi.out ?_ | fail)
       refine HS.out.mono ?_
       rintro e x2 ⟨A2, k2, rfl, hM2, hx2⟩
       dsimp only at hM2 ⊢
       go_upto_region 9 with fail
       refine Kw (P := fun u => Code.wp _ _ _ _ u) (c := [.int .i64 m.w, .int .i64 m.h, .slice A2 m.d.length k2]) ?_
       intro v4 hv4 s2 z2 hsz
       have h23 := Kb hx2 hv4
       have c0 := Ka h23 c0
       have c1 := Ka h23 c1
       have c2 := Ka h23 c2
       have HB := Kb HB h23
       have hM2 := hM2.below hv4
       have hEq := hid (show Calls Tryz.prog 15 #[.agg #[.int .i64 m.w, .int .i64 m.h, .slice A2 m.d.length k2], .agg #[.int .i64 m.w, .int .i64 m.h, .slice A m.d.length c]] v4 (RetB v4 true) by
        have := Wh (w := v4) m m hM2 (HMb.out v4 HB)
        rwa [show eqM m m = true by unfold eqM; simp] at this)
       have f0 : v4.cell? ⟨x2.heap.size, 0, none⟩ = some (.int .i64 m.w) := s2 0 _ rfl
       have f1 : v4.cell? ⟨x2.heap.size, 1, none⟩ = some (.int .i64 m.h) := s2 1 _ rfl
       have f2 : v4.cell? ⟨x2.heap.size, 2, none⟩ = some (.slice A2 m.d.length k2) := s2 2 _ rfl
       clear z2 hsz hx2 hv4 h23 HS s2 hM2 HMb e0 e1 e2 r1
       generalize m.d.length = mn at *
       go_wp2_with fail
       refine hEq.out.mono ?_
       rintro e w1 ⟨rfl, hw1⟩
       have HB := Kb HB hw1
       clear f0 f1 f2 hEq hw1 c0 c1 c2
       go_wp2_with fail
       refine (Qw _).mono ?_
       rintro e x_ ⟨rfl, hx_⟩
       have HB := Kb HB hx_
       go_wp2
       go_ret
       exact ⟨rfl, HB⟩
     ·have hfo : fo = false := hFe.out he
      subst hfo
      clear HW HS hFe hFt HMb r1 c0 c1 c2
      go_wp2_with fail
      refine (Qw _).mono ?_
      rintro e x_ ⟨rfl, hx_⟩
      have HB := Kb HB hx_
      go_wp2
      go_ret
      exact ⟨rfl, HB⟩
theorem Ye (m : Bm) (A : Option Addr) (c : Nat) (fs : List Rf) (h9 : fs.length = 9) {w : World} (hb : Mb w A c m.d) (hm : ∀ f ∈ fs, f.mg w) (a : Int) (ha : (Lit.int .u8 a).wf = true) (b : Int) (hb8 : (Lit.int .u8 b).wf = true) :
  Calls Tryz.prog 7 #[.agg #[.int .i64 m.w, .int .i64 m.h, .slice A m.d.length c], .agg (Kc (zl fs)).toArray, .int .u8 a, .int .u8 b] w (RetB w true) := by
 simp [Lit.wf, IntKind.min, IntKind.max, IntKind.signed, IntKind.bits] at ha hb8
 obtain ⟨M, rfl⟩ := Int.eq_ofNat_of_zero_le ha.1
 obtain ⟨N, rfl⟩ := Int.eq_ofNat_of_zero_le hb8.1
 exact Ds m A c fs h9 hb hm M (by omega) N (by omega)
end Go.Proofs.YtdkgbkbbbldliaaGreat
