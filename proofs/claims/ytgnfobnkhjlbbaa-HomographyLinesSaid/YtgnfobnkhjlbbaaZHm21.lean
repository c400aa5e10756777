/- Homographies: walk of Affine (package). Conditions: none. -/
import Derived.Test.YtgnfobnkhjlbbaaZHm16
import Derived.Test.YtgnfobnkhjlbbaaZYV
import Derived.Test.YtgnfobnkhjlbbaaZYT
import Derived.Test.YtgnfobnkhjlbbaaZHm10
import Derived.Test.YtgnfobnkhjlbbaaZAr10
set_option linter.unusedVariables false
set_option linter.unusedSimpArgs false
namespace Go.Proofs.Ytgnfobnkhjlbbaa
open Go.RowKit Big

/-- what Affine answers -/
def affX (qs : List (Int × Nat)) : Int × Int := match qs with
  | [a, b, _, d, e, _] => (a.1 * e.1 * ((b.2 : Int) * d.2), b.1 * d.1 * ((a.2 : Int) * e.2))
  | _ => (0, 0)
def affE (fs : List Rf) : List Int × Int :=
  if chkZ 40 fs = 0 then
    (if (affX (fs.map Rf.f)).1 = (affX (fs.map Rf.f)).2 then (List.replicate 18 0, 24) else resZ (intZ (fs.map Rf.f ++ [(0, 1), (0, 1), (1, 1)])))
  else (List.replicate 18 0, chkZ 40 fs)
def Rf.val (f : Rf) : Value := .agg #[.bool f.na, .slice f.A f.xs.length f.ca, .bool f.nb, .slice f.B f.ys.length f.cb]
theorem one_pow_lt {k : Nat} (h : k ≠ 0) : 1 < 2 ^ k := Nat.one_lt_two_pow h
set_option maxRecDepth 100000 in
set_option maxHeartbeats 8000000 in
theorem HAffine_g {f0 f1 f2 f3 f4 f5 : Rf} {w : World} (hm : ∀ f ∈ [f0, f1, f2, f3, f4, f5], f.mg w) :
    Calls Try.prog 28 #[f0.val, f1.val, f2.val, f3.val, f4.val, f5.val] w (RetHE w (affE [f0, f1, f2, f3, f4, f5])) := by
  have HMa := hid fun (W : World) (h : Below w.heap.size w W) f (hf : f ∈ [f0, f1, f2, f3, f4, f5]) => (hm f hf).below h
  have HCk := hid fun (W : World) (h : Below w.heap.size w W) (g : Nat) (hr : W.rangeAt g 0 (cellsM (zl [f0, f1, f2, f3, f4, f5]))) => Hcheck_g 40 (by omega) [f0, f1, f2, f3, f4, f5] g 6 W (by simp) (by simp) (by omega) (fun j hj => rf_at hr (HMa.out W h) j hj)
  clear hm
  obtain ⟨cv, hcv⟩ : ∃ cv, chkZ 40 [f0, f1, f2, f3, f4, f5] = cv := ⟨_, rfl⟩
  rw [hcv] at HCk
  have hCV := hid hcv
  clear hcv
  obtain ⟨a0, A0, x0, k0, b0, B0, y0, l0⟩ := f0
  obtain ⟨a1, A1, x1, k1, b1, B1, y1, l1⟩ := f1
  obtain ⟨a2, A2, x2, k2, b2, B2, y2, l2⟩ := f2
  obtain ⟨a3, A3, x3, k3, b3, B3, y3, l3⟩ := f3
  obtain ⟨a4, A4, x4, k4, b4, B4, y4, l4⟩ := f4
  obtain ⟨a5, A5, x5, k5, b5, B5, y5, l5⟩ := f5
  simp only [Rf.val]
  go_enter Try.func28, Try.ntmps28
  go_upto_region 1 with fail
  refine enterR7 (P := fun u => Code.wp _ _ _ _ u) ?_
  intro u HB r0 r1_ r2 r3 r4 r5 r1 zn1
  have r1 : u.rangeAt (w.heap.size + 1 + 1 + 1 + 1 + 1 + 1) 0 (cellsM zeros18) := r1
  have s00 : u.cell? ⟨w.heap.size, 0, none⟩ = some (.bool a0) := r0 0 _ rfl
  have s01 : u.cell? ⟨w.heap.size, 1, none⟩ = some (.slice A0 x0.length k0) := r0 1 _ rfl
  have s02 : u.cell? ⟨w.heap.size, 2, none⟩ = some (.bool b0) := r0 2 _ rfl
  have s03 : u.cell? ⟨w.heap.size, 3, none⟩ = some (.slice B0 y0.length l0) := r0 3 _ rfl
  have s10 : u.cell? ⟨w.heap.size + 1, 0, none⟩ = some (.bool a1) := r1_ 0 _ rfl
  have s11 : u.cell? ⟨w.heap.size + 1, 1, none⟩ = some (.slice A1 x1.length k1) := r1_ 1 _ rfl
  have s12 : u.cell? ⟨w.heap.size + 1, 2, none⟩ = some (.bool b1) := r1_ 2 _ rfl
  have s13 : u.cell? ⟨w.heap.size + 1, 3, none⟩ = some (.slice B1 y1.length l1) := r1_ 3 _ rfl
  have s20 : u.cell? ⟨w.heap.size + 1 + 1, 0, none⟩ = some (.bool a2) := r2 0 _ rfl
  have s21 : u.cell? ⟨w.heap.size + 1 + 1, 1, none⟩ = some (.slice A2 x2.length k2) := r2 1 _ rfl
  have s22 : u.cell? ⟨w.heap.size + 1 + 1, 2, none⟩ = some (.bool b2) := r2 2 _ rfl
  have s23 : u.cell? ⟨w.heap.size + 1 + 1, 3, none⟩ = some (.slice B2 y2.length l2) := r2 3 _ rfl
  have s30 : u.cell? ⟨w.heap.size + 1 + 1 + 1, 0, none⟩ = some (.bool a3) := r3 0 _ rfl
  have s31 : u.cell? ⟨w.heap.size + 1 + 1 + 1, 1, none⟩ = some (.slice A3 x3.length k3) := r3 1 _ rfl
  have s32 : u.cell? ⟨w.heap.size + 1 + 1 + 1, 2, none⟩ = some (.bool b3) := r3 2 _ rfl
  have s33 : u.cell? ⟨w.heap.size + 1 + 1 + 1, 3, none⟩ = some (.slice B3 y3.length l3) := r3 3 _ rfl
  have s40 : u.cell? ⟨w.heap.size + 1 + 1 + 1 + 1, 0, none⟩ = some (.bool a4) := r4 0 _ rfl
  have s41 : u.cell? ⟨w.heap.size + 1 + 1 + 1 + 1, 1, none⟩ = some (.slice A4 x4.length k4) := r4 1 _ rfl
  have s42 : u.cell? ⟨w.heap.size + 1 + 1 + 1 + 1, 2, none⟩ = some (.bool b4) := r4 2 _ rfl
  have s43 : u.cell? ⟨w.heap.size + 1 + 1 + 1 + 1, 3, none⟩ = some (.slice B4 y4.length l4) := r4 3 _ rfl
  have s50 : u.cell? ⟨w.heap.size + 1 + 1 + 1 + 1 + 1, 0, none⟩ = some (.bool a5) := r5 0 _ rfl
  have s51 : u.cell? ⟨w.heap.size + 1 + 1 + 1 + 1 + 1, 1, none⟩ = some (.slice A5 x5.length k5) := r5 1 _ rfl
  have s52 : u.cell? ⟨w.heap.size + 1 + 1 + 1 + 1 + 1, 2, none⟩ = some (.bool b5) := r5 2 _ rfl
  have s53 : u.cell? ⟨w.heap.size + 1 + 1 + 1 + 1 + 1, 3, none⟩ = some (.slice B5 y5.length l5) := r5 3 _ rfl
  clear r0 r1_ r2 r3 r4 r5
  go_wp2_with fail
  refine (HCk.out _ (HB.alloc HB.size _) u.heap.size rng_alloc).mono ?_
  rintro e w1 ⟨rfl, h1⟩
  have hb1 : Below u.heap.size u w1 := ((Below.refl _ _).alloc (Nat.le_refl _) _).trans (h1.mono (by simp))
  have r1 := rng_below r1 hb1
  have zn1 := zn1.below hb1
  have HB := bel_step HB hb1
  have s00 := keep_cell hb1 s00
  have s01 := keep_cell hb1 s01
  have s02 := keep_cell hb1 s02
  have s03 := keep_cell hb1 s03
  have s10 := keep_cell hb1 s10
  have s11 := keep_cell hb1 s11
  have s12 := keep_cell hb1 s12
  have s13 := keep_cell hb1 s13
  have s20 := keep_cell hb1 s20
  have s21 := keep_cell hb1 s21
  have s22 := keep_cell hb1 s22
  have s23 := keep_cell hb1 s23
  have s30 := keep_cell hb1 s30
  have s31 := keep_cell hb1 s31
  have s32 := keep_cell hb1 s32
  have s33 := keep_cell hb1 s33
  have s40 := keep_cell hb1 s40
  have s41 := keep_cell hb1 s41
  have s42 := keep_cell hb1 s42
  have s43 := keep_cell hb1 s43
  have s50 := keep_cell hb1 s50
  have s51 := keep_cell hb1 s51
  have s52 := keep_cell hb1 s52
  have s53 := keep_cell hb1 s53
  have hAF : Hid (affE [⟨a0, A0, x0, k0, b0, B0, y0, l0⟩, ⟨a1, A1, x1, k1, b1, B1, y1, l1⟩, ⟨a2, A2, x2, k2, b2, B2, y2, l2⟩, ⟨a3, A3, x3, k3, b3, B3, y3, l3⟩, ⟨a4, A4, x4, k4, b4, B4, y4, l4⟩, ⟨a5, A5, x5, k5, b5, B5, y5, l5⟩] = if chkZ 40 [⟨a0, A0, x0, k0, b0, B0, y0, l0⟩, ⟨a1, A1, x1, k1, b1, B1, y1, l1⟩, ⟨a2, A2, x2, k2, b2, B2, y2, l2⟩, ⟨a3, A3, x3, k3, b3, B3, y3, l3⟩, ⟨a4, A4, x4, k4, b4, B4, y4, l4⟩, ⟨a5, A5, x5, k5, b5, B5, y5, l5⟩] = 0 then (if (affX (([⟨a0, A0, x0, k0, b0, B0, y0, l0⟩, ⟨a1, A1, x1, k1, b1, B1, y1, l1⟩, ⟨a2, A2, x2, k2, b2, B2, y2, l2⟩, ⟨a3, A3, x3, k3, b3, B3, y3, l3⟩, ⟨a4, A4, x4, k4, b4, B4, y4, l4⟩, ⟨a5, A5, x5, k5, b5, B5, y5, l5⟩] : List Rf).map Rf.f)).1 = (affX (([⟨a0, A0, x0, k0, b0, B0, y0, l0⟩, ⟨a1, A1, x1, k1, b1, B1, y1, l1⟩, ⟨a2, A2, x2, k2, b2, B2, y2, l2⟩, ⟨a3, A3, x3, k3, b3, B3, y3, l3⟩, ⟨a4, A4, x4, k4, b4, B4, y4, l4⟩, ⟨a5, A5, x5, k5, b5, B5, y5, l5⟩] : List Rf).map Rf.f)).2 then (List.replicate 18 0, 24) else resZ (intZ (([⟨a0, A0, x0, k0, b0, B0, y0, l0⟩, ⟨a1, A1, x1, k1, b1, B1, y1, l1⟩, ⟨a2, A2, x2, k2, b2, B2, y2, l2⟩, ⟨a3, A3, x3, k3, b3, B3, y3, l3⟩, ⟨a4, A4, x4, k4, b4, B4, y4, l4⟩, ⟨a5, A5, x5, k5, b5, B5, y5, l5⟩] : List Rf).map Rf.f ++ [(0, 1), (0, 1), (1, 1)]))) else (List.replicate 18 0, chkZ 40 [⟨a0, A0, x0, k0, b0, B0, y0, l0⟩, ⟨a1, A1, x1, k1, b1, B1, y1, l1⟩, ⟨a2, A2, x2, k2, b2, B2, y2, l2⟩, ⟨a3, A3, x3, k3, b3, B3, y3, l3⟩, ⟨a4, A4, x4, k4, b4, B4, y4, l4⟩, ⟨a5, A5, x5, k5, b5, B5, y5, l5⟩])) := rfl
  rw [hCV.out] at hAF
  clear h1 hb1 HCk
  by_cases hc : cv = 0
  · rw [if_pos hc] at hAF
    have hc0 := hCV.out.trans hc
    subst hc
    have hmu := HMa.out w1 HB
    have hbz := chk_bz (k := 1280) hc0 (by omega) hmu
    obtain ⟨hv, _⟩ := chk_parts hc0
    obtain ⟨ok1, z1⟩ := zl_good _ hv hmu
    have oE0 := ok1 ⟨sg a0 (val x0), a0, x0.length, x0, A0, k0⟩ (by simp [zl, Rf.ze])
    have oD0 := ok1 ⟨sg b0 (val y0), b0, y0.length, y0, B0, l0⟩ (by simp [zl, Rf.ze])
    have bE0 : Bz 1280 (sg a0 (val x0)) := (hbz (sg a0 (val x0), val y0) (by simp [Rf.f])).1.2.1
    have bD0 : Bz 1280 ((val y0 : Nat) : Int) := bz_nat (hbz (sg a0 (val x0), val y0) (by simp [Rf.f])).1.2.2
    have oE1 := ok1 ⟨sg a1 (val x1), a1, x1.length, x1, A1, k1⟩ (by simp [zl, Rf.ze])
    have oD1 := ok1 ⟨sg b1 (val y1), b1, y1.length, y1, B1, l1⟩ (by simp [zl, Rf.ze])
    have bE1 : Bz 1280 (sg a1 (val x1)) := (hbz (sg a1 (val x1), val y1) (by simp [Rf.f])).1.2.1
    have bD1 : Bz 1280 ((val y1 : Nat) : Int) := bz_nat (hbz (sg a1 (val x1), val y1) (by simp [Rf.f])).1.2.2
    have oE3 := ok1 ⟨sg a3 (val x3), a3, x3.length, x3, A3, k3⟩ (by simp [zl, Rf.ze])
    have oD3 := ok1 ⟨sg b3 (val y3), b3, y3.length, y3, B3, l3⟩ (by simp [zl, Rf.ze])
    have bE3 : Bz 1280 (sg a3 (val x3)) := (hbz (sg a3 (val x3), val y3) (by simp [Rf.f])).1.2.1
    have bD3 : Bz 1280 ((val y3 : Nat) : Int) := bz_nat (hbz (sg a3 (val x3), val y3) (by simp [Rf.f])).1.2.2
    have oE4 := ok1 ⟨sg a4 (val x4), a4, x4.length, x4, A4, k4⟩ (by simp [zl, Rf.ze])
    have oD4 := ok1 ⟨sg b4 (val y4), b4, y4.length, y4, B4, l4⟩ (by simp [zl, Rf.ze])
    have bE4 : Bz 1280 (sg a4 (val x4)) := (hbz (sg a4 (val x4), val y4) (by simp [Rf.f])).1.2.1
    have bD4 : Bz 1280 ((val y4 : Nat) : Int) := bz_nat (hbz (sg a4 (val x4), val y4) (by simp [Rf.f])).1.2.2
    have hz : [sg a0 (val x0), sg b0 (val y0), sg a1 (val x1), sg b1 (val y1), sg a2 (val x2), sg b2 (val y2), sg a3 (val x3), sg b3 (val y3), sg a4 (val x4), sg b4 (val y4), sg a5 (val x5), sg b5 (val y5)] = [sg a0 (val x0), ((val y0 : Nat) : Int), sg a1 (val x1), ((val y1 : Nat) : Int), sg a2 (val x2), ((val y2 : Nat) : Int), sg a3 (val x3), ((val y3 : Nat) : Int), sg a4 (val x4), ((val y4 : Nat) : Int), sg a5 (val x5), ((val y5 : Nat) : Int)] := z1
    simp only [List.cons.injEq, and_true, true_and] at hz
    obtain ⟨hD0, hD1, hD2, hD3, hD4, hD5⟩ := hz
    rw [← hD0] at bD0
    rw [← hD1] at bD1
    rw [← hD3] at bD3
    rw [← hD4] at bD4
    have hX : (affX (([⟨a0, A0, x0, k0, b0, B0, y0, l0⟩, ⟨a1, A1, x1, k1, b1, B1, y1, l1⟩, ⟨a2, A2, x2, k2, b2, B2, y2, l2⟩, ⟨a3, A3, x3, k3, b3, B3, y3, l3⟩, ⟨a4, A4, x4, k4, b4, B4, y4, l4⟩, ⟨a5, A5, x5, k5, b5, B5, y5, l5⟩] : List Rf).map Rf.f)).1 = sg a0 (val x0) * sg a4 (val x4) * (sg b1 (val y1) * sg b3 (val y3)) := by rw [hD1, hD3]; rfl
    have hY : (affX (([⟨a0, A0, x0, k0, b0, B0, y0, l0⟩, ⟨a1, A1, x1, k1, b1, B1, y1, l1⟩, ⟨a2, A2, x2, k2, b2, B2, y2, l2⟩, ⟨a3, A3, x3, k3, b3, B3, y3, l3⟩, ⟨a4, A4, x4, k4, b4, B4, y4, l4⟩, ⟨a5, A5, x5, k5, b5, B5, y5, l5⟩] : List Rf).map Rf.f)).2 = sg a1 (val x1) * sg a3 (val x3) * (sg b0 (val y0) * sg b4 (val y4)) := by rw [hD0, hD4]; rfl
    rw [hX, hY] at hAF
    have hLst := hid (And.intro ok1 (And.intro z1 hbz))
    clear hX hY hD0 hD1 hD2 hD3 hD4 hD5 ok1 z1 hbz hv hmu
    generalize hN0 : sg a0 (val x0) = N0 at oE0 bE0 hAF
    generalize hM0 : sg b0 (val y0) = M0 at oD0 bD0 hAF
    generalize hN1 : sg a1 (val x1) = N1 at oE1 bE1 hAF
    generalize hM1 : sg b1 (val y1) = M1 at oD1 bD1 hAF
    generalize hN3 : sg a3 (val x3) = N3 at oE3 bE3 hAF
    generalize hM3 : sg b3 (val y3) = M3 at oD3 bD3 hAF
    generalize hN4 : sg a4 (val x4) = N4 at oE4 bE4 hAF
    generalize hM4 : sg b4 (val y4) = M4 at oD4 bD4 hAF
    clear hN0 hM0 hN1 hM1 hN3 hM3 hN4 hM4
    obtain ⟨pX, qX, LX, IX⟩ := iz (N0 * N4)
    obtain ⟨pX', qX', LX', IX'⟩ := iz (M1 * M3)
    obtain ⟨pXt, qXt, LXt, IXt⟩ := iz (N0 * N4 * (M1 * M3))
    have HX1 := hid fun (W : World) (h : Below w1.heap.size w1 W) => Hmul_g (w := W) oE0.i oE4.i IX.out (oE0.m.below h) (oE4.m.below h) (bE0.ft (by omega)) (bE4.ft (by omega)) ((bE0.mul bE4).ft (by omega)) rfl
    have HX2 := hid fun (W : World) (h : Below w1.heap.size w1 W) => Hmul_g (w := W) oD1.i oD3.i IX'.out (oD1.m.below h) (oD3.m.below h) (bD1.ft (by omega)) (bD3.ft (by omega)) ((bD1.mul bD3).ft (by omega)) rfl
    have HX3 := hid fun (W : World) (R Q : Option Addr) (c d : Nat) (m1 : Mg W R c LX) (m2 : Mg W Q d LX') => Hmul_g (w := W) IX.out IX'.out IXt.out m1 m2 ((bE0.mul bE4).ft (by omega)) ((bD1.mul bD3).ft (by omega)) (((bE0.mul bE4).mul (bD1.mul bD3)).ft (by omega)) rfl
    obtain ⟨pY, qY, LY, IY⟩ := iz (N1 * N3)
    obtain ⟨pY', qY', LY', IY'⟩ := iz (M0 * M4)
    obtain ⟨pYt, qYt, LYt, IYt⟩ := iz (N1 * N3 * (M0 * M4))
    have HY1 := hid fun (W : World) (h : Below w1.heap.size w1 W) => Hmul_g (w := W) oE1.i oE3.i IY.out (oE1.m.below h) (oE3.m.below h) (bE1.ft (by omega)) (bE3.ft (by omega)) ((bE1.mul bE3).ft (by omega)) rfl
    have HY2 := hid fun (W : World) (h : Below w1.heap.size w1 W) => Hmul_g (w := W) oD0.i oD4.i IY'.out (oD0.m.below h) (oD4.m.below h) (bD0.ft (by omega)) (bD4.ft (by omega)) ((bD0.mul bD4).ft (by omega)) rfl
    have HY3 := hid fun (W : World) (R Q : Option Addr) (c d : Nat) (m1 : Mg W R c LY) (m2 : Mg W Q d LY') => Hmul_g (w := W) IY.out IY'.out IYt.out m1 m2 ((bE1.mul bE3).ft (by omega)) ((bD0.mul bD4).ft (by omega)) (((bE1.mul bE3).mul (bD0.mul bD4)).ft (by omega)) rfl
    have bX := (((bE0.mul bE4).mul (bD1.mul bD3)).ft (by omega))
    have bY := (((bE1.mul bE3).mul (bD0.mul bD4)).ft (by omega))
    clear oE0 oD0 bE0 bD0 oE1 oD1 bE1 bD1 oE3 oD3 bE3 bD3 oE4 oD4 bE4 bD4
    generalize N0 * N4 * (M1 * M3) = VX at *
    generalize N1 * N3 * (M0 * M4) = VY at *
    have lt6 := zn1.lt
    go_upto_region 4 with fail
    go_cut [15] (fun s wx => ∃ g : Nat, s = .pointer (some ⟨g, 0, none⟩) ∧ Blk w1 g [VX] wx)
    case first =>
      have HB0 := Below.refl w1.heap.size w1
      go_region_held3 (fun w' => (w'.cell? ⟨w.heap.size, 0, none⟩ = some (.bool a0) ∧ w'.cell? ⟨w.heap.size, 1, none⟩ = some (.slice A0 x0.length k0)) ∧ (w'.cell? ⟨w.heap.size + 1 + 1 + 1 + 1, 0, none⟩ = some (.bool a4) ∧ w'.cell? ⟨w.heap.size + 1 + 1 + 1 + 1, 1, none⟩ = some (.slice A4 x4.length k4)) ∧ (w'.cell? ⟨w.heap.size + 1, 2, none⟩ = some (.bool b1) ∧ w'.cell? ⟨w.heap.size + 1, 3, none⟩ = some (.slice B1 y1.length l1)) ∧ (w'.cell? ⟨w.heap.size + 1 + 1 + 1, 2, none⟩ = some (.bool b3) ∧ w'.cell? ⟨w.heap.size + 1 + 1 + 1, 3, none⟩ = some (.slice B3 y3.length l3))) (first | ((try dsimp only); repeat' (first | with_reducible assumption | apply And.intro | (with_reducible refine keep_alloc ?_) | (with_reducible refine keep_drew ?_) | (with_reducible refine keep_set (by omega) ?_) | (with_reducible refine keep_sets (by omega) ?_) | (with_reducible refine keep_cell (W := w1) ?_ ?_) | fail))) (first | (go_at_call 45; (with_reducible refine (HX1.out _ (BG)).mono ?_); rintro e v1 ⟨R1, d1, rfl, m1, hq1⟩; have qv1 : Below w1.heap.size w1 v1 := bel_step BG hq1; have hs1 := qv1.size; (try refine And.elim (fun ra za => ?_) (alloc_drew hq1)); (try refine And.elim (fun ra za => ?_) (alloc_plain hq1))) | (go_at_call 45; (with_reducible refine (HX2.out _ (BG)).mono ?_); rintro e v2 ⟨R2, d2, rfl, m2, hq2⟩; have qv2 : Below w1.heap.size w1 v2 := bel_step BG hq2; have hs2 := qv2.size; have wv2 : Below v1.heap.size v1 v2 := bel_step BG hq2; have hp2 := wv2.size; have m1 := m1.below wv2; (try refine (fun ra za => ?_ : _ → _ → _) (rng_below ra wv2) (Zn.below za wv2)); (try refine And.elim (fun ra za => ?_) (alloc_drew hq2)); (try refine And.elim (fun ra za => ?_) (alloc_plain hq2))) | (go_at_call 45; (with_reducible refine (HX3.out _ _ _ _ _ (m1.below BG) (m2.below BG)).mono ?_); rintro e v3 ⟨R3, d3, rfl, m3, hq3⟩; have qv3 : Below w1.heap.size w1 v3 := bel_step BG hq3; have hs3 := qv3.size; have wv3 : Below v2.heap.size v2 v3 := bel_step BG hq3; have hp3 := wv3.size; have m1 := m1.below wv3; have m2 := m2.below wv3; (try refine (fun ra za => ?_ : _ → _ → _) (rng_below ra wv3) (Zn.below za wv3)); (try refine And.elim (fun ra za => ?_) (alloc_drew hq3)); (try refine And.elim (fun ra za => ?_) (alloc_plain hq3)); (try (refine (fun k0 k1 fa => ?_ : _ → _ → _ → _) (ra 0 _ rfl) (ra 1 _ rfl) (Zn.fr za); simp only [Nat.zero_add] at k0 k1))))
      all_goals
        go_wp2_with fail
        go_meet
      all_goals
        first
        | exact ⟨_, rfl, Blk.new1 (e := ⟨VX, pXt, qXt, LXt, R3, d3⟩) qv3 ⟨IXt.out, m3⟩⟩
        | exact ⟨_, rfl, Blk.set1 (e := ⟨VX, pXt, qXt, LXt, R3, d3⟩) ra za qv3 (by omega) ⟨IXt.out, m3⟩⟩
    case rest =>
      obtain ⟨gx, rfl, hX⟩ := hcut
      have hXb := hX.b
      have s00 := keep_cell hXb s00
      have s01 := keep_cell hXb s01
      have s02 := keep_cell hXb s02
      have s03 := keep_cell hXb s03
      have s10 := keep_cell hXb s10
      have s11 := keep_cell hXb s11
      have s12 := keep_cell hXb s12
      have s13 := keep_cell hXb s13
      have s20 := keep_cell hXb s20
      have s21 := keep_cell hXb s21
      have s22 := keep_cell hXb s22
      have s23 := keep_cell hXb s23
      have s30 := keep_cell hXb s30
      have s31 := keep_cell hXb s31
      have s32 := keep_cell hXb s32
      have s33 := keep_cell hXb s33
      have s40 := keep_cell hXb s40
      have s41 := keep_cell hXb s41
      have s42 := keep_cell hXb s42
      have s43 := keep_cell hXb s43
      have s50 := keep_cell hXb s50
      have s51 := keep_cell hXb s51
      have s52 := keep_cell hXb s52
      have s53 := keep_cell hXb s53
      have r1 := rng_below r1 hXb
      have zn1 := zn1.below hXb
      have HB := bel_step HB hXb
      have lt6 := zn1.lt
      clear HX1 HX2 HX3 IX IX'
      obtain ⟨wX, hwX⟩ : ∃ wX : World, wX = wc := ⟨_, rfl⟩
      rw [← hwX] at hX hXb HB r1 zn1 lt6 s00 s01 s02 s03 s10 s11 s12 s13 s20 s21 s22 s23 s30 s31 s32 s33 s40 s41 s42 s43 s50 s51 s52 s53 ⊢
      clear hwX
      go_upto_region 5 with fail
      go_cut [16] (fun s wx => ∃ g : Nat, s = .pointer (some ⟨g, 0, none⟩) ∧ Blk wX g [VY] wx)
      case first =>
        have HB0 := Below.refl wX.heap.size wX
        go_region_held3 (fun w' => (w'.cell? ⟨w.heap.size + 1, 0, none⟩ = some (.bool a1) ∧ w'.cell? ⟨w.heap.size + 1, 1, none⟩ = some (.slice A1 x1.length k1)) ∧ (w'.cell? ⟨w.heap.size + 1 + 1 + 1, 0, none⟩ = some (.bool a3) ∧ w'.cell? ⟨w.heap.size + 1 + 1 + 1, 1, none⟩ = some (.slice A3 x3.length k3)) ∧ (w'.cell? ⟨w.heap.size, 2, none⟩ = some (.bool b0) ∧ w'.cell? ⟨w.heap.size, 3, none⟩ = some (.slice B0 y0.length l0)) ∧ (w'.cell? ⟨w.heap.size + 1 + 1 + 1 + 1, 2, none⟩ = some (.bool b4) ∧ w'.cell? ⟨w.heap.size + 1 + 1 + 1 + 1, 3, none⟩ = some (.slice B4 y4.length l4))) (first | ((try dsimp only); repeat' (first | with_reducible assumption | apply And.intro | (with_reducible refine keep_alloc ?_) | (with_reducible refine keep_drew ?_) | (with_reducible refine keep_set (by omega) ?_) | (with_reducible refine keep_sets (by omega) ?_) | (with_reducible refine keep_cell (W := wX) ?_ ?_) | fail))) (first | (go_at_call 45; (with_reducible refine (HY1.out _ (bel_step hXb BG)).mono ?_); rintro e v1 ⟨R1, d1, rfl, m1, hq1⟩; have qv1 : Below wX.heap.size wX v1 := bel_step BG hq1; have hs1 := qv1.size; (try refine And.elim (fun ra za => ?_) (alloc_drew hq1)); (try refine And.elim (fun ra za => ?_) (alloc_plain hq1))) | (go_at_call 45; (with_reducible refine (HY2.out _ (bel_step hXb BG)).mono ?_); rintro e v2 ⟨R2, d2, rfl, m2, hq2⟩; have qv2 : Below wX.heap.size wX v2 := bel_step BG hq2; have hs2 := qv2.size; have wv2 : Below v1.heap.size v1 v2 := bel_step BG hq2; have hp2 := wv2.size; have m1 := m1.below wv2; (try refine (fun ra za => ?_ : _ → _ → _) (rng_below ra wv2) (Zn.below za wv2)); (try refine And.elim (fun ra za => ?_) (alloc_drew hq2)); (try refine And.elim (fun ra za => ?_) (alloc_plain hq2))) | (go_at_call 45; (with_reducible refine (HY3.out _ _ _ _ _ (m1.below BG) (m2.below BG)).mono ?_); rintro e v3 ⟨R3, d3, rfl, m3, hq3⟩; have qv3 : Below wX.heap.size wX v3 := bel_step BG hq3; have hs3 := qv3.size; have wv3 : Below v2.heap.size v2 v3 := bel_step BG hq3; have hp3 := wv3.size; have m1 := m1.below wv3; have m2 := m2.below wv3; (try refine (fun ra za => ?_ : _ → _ → _) (rng_below ra wv3) (Zn.below za wv3)); (try refine And.elim (fun ra za => ?_) (alloc_drew hq3)); (try refine And.elim (fun ra za => ?_) (alloc_plain hq3)); (try (refine (fun k0 k1 fa => ?_ : _ → _ → _ → _) (ra 0 _ rfl) (ra 1 _ rfl) (Zn.fr za); simp only [Nat.zero_add] at k0 k1))))
        all_goals
          go_wp2_with fail
          go_meet
        all_goals
          first
          | exact ⟨_, rfl, Blk.new1 (e := ⟨VY, pYt, qYt, LYt, R3, d3⟩) qv3 ⟨IYt.out, m3⟩⟩
          | exact ⟨_, rfl, Blk.set1 (e := ⟨VY, pYt, qYt, LYt, R3, d3⟩) ra za qv3 (by omega) ⟨IYt.out, m3⟩⟩
      case rest =>
        obtain ⟨gy, rfl, hY⟩ := hcut
        have hYb := hY.b
        have s00 := keep_cell hYb s00
        have s01 := keep_cell hYb s01
        have s02 := keep_cell hYb s02
        have s03 := keep_cell hYb s03
        have s10 := keep_cell hYb s10
        have s11 := keep_cell hYb s11
        have s12 := keep_cell hYb s12
        have s13 := keep_cell hYb s13
        have s20 := keep_cell hYb s20
        have s21 := keep_cell hYb s21
        have s22 := keep_cell hYb s22
        have s23 := keep_cell hYb s23
        have s30 := keep_cell hYb s30
        have s31 := keep_cell hYb s31
        have s32 := keep_cell hYb s32
        have s33 := keep_cell hYb s33
        have s40 := keep_cell hYb s40
        have s41 := keep_cell hYb s41
        have s42 := keep_cell hYb s42
        have s43 := keep_cell hYb s43
        have s50 := keep_cell hYb s50
        have s51 := keep_cell hYb s51
        have s52 := keep_cell hYb s52
        have s53 := keep_cell hYb s53
        have r1 := rng_below r1 hYb
        have zn1 := zn1.below hYb
        have HB := bel_step HB hYb
        have hX := hX.below hYb
        obtain ⟨fx, cx, ox, zx⟩ := hX.ex
        obtain ⟨fy, cy, oy, zy⟩ := hY.ex
        obtain ⟨ex, rfl⟩ : ∃ e, fx = [e] := by match fx, zx with | [e], _ => exact ⟨e, rfl⟩
        obtain ⟨ey, rfl⟩ : ∃ e, fy = [e] := by match fy, zy with | [e], _ => exact ⟨e, rfl⟩
        have ox := ox ex (by simp)
        have oy := oy ey (by simp)
        have zx : ex.z = VX := by simpa using zx
        have zy : ey.z = VY := by simpa using zy
        have HC := hid (Cmp_g ox.i oy.i ox.m oy.m (by rw [zx]; exact bX) (by rw [zy]; exact bY) _ rfl)
        have hz0 := zord_zero (x := ex.z) (y := ey.z)
        generalize zord ex.z ey.z = kk at *
        rw [zx, zy] at hz0
        have c0 : wc.cell? ⟨gx, 0, none⟩ = some (.bool ex.b) := cx 0 _ rfl
        have c1 : wc.cell? ⟨gx, 1, none⟩ = some (.slice ex.A ex.n ex.c) := cx 1 _ rfl
        have d0 : wc.cell? ⟨gy, 0, none⟩ = some (.bool ey.b) := cy 0 _ rfl
        have d1 : wc.cell? ⟨gy, 1, none⟩ = some (.slice ey.A ey.n ey.c) := cy 1 _ rfl
        have hLs := hid (fun (W : World) (h : Below wc.heap.size wc W) e he => (hLst.out.1 e he).below (bel_step hXb (bel_step hYb h)))
        clear HY1 HY2 HY3 hX hY cx cy ox oy zx zy bX bY IY IY' IXt IYt
        go_wp2_with fail
        refine HC.out.mono ?_
        rintro e w2 ⟨rfl, h2⟩
        have s00 := keep_cell h2 s00
        have s01 := keep_cell h2 s01
        have s02 := keep_cell h2 s02
        have s03 := keep_cell h2 s03
        have s10 := keep_cell h2 s10
        have s11 := keep_cell h2 s11
        have s12 := keep_cell h2 s12
        have s13 := keep_cell h2 s13
        have s20 := keep_cell h2 s20
        have s21 := keep_cell h2 s21
        have s22 := keep_cell h2 s22
        have s23 := keep_cell h2 s23
        have s30 := keep_cell h2 s30
        have s31 := keep_cell h2 s31
        have s32 := keep_cell h2 s32
        have s33 := keep_cell h2 s33
        have s40 := keep_cell h2 s40
        have s41 := keep_cell h2 s41
        have s42 := keep_cell h2 s42
        have s43 := keep_cell h2 s43
        have s50 := keep_cell h2 s50
        have s51 := keep_cell h2 s51
        have s52 := keep_cell h2 s52
        have s53 := keep_cell h2 s53
        have r1 := rng_below r1 h2
        have zn1 := zn1.below h2
        have HB := bel_step HB h2
        have hLs := hid (fun (W : World) (h : Below w2.heap.size w2 W) e he => hLs.out W (bel_step h2 h) e he)
        clear c0 c1 d0 d1 h2 HC
        by_cases hk0 : kk = 0
        · rw [if_pos (hz0.1 hk0)] at hAF
          have HR : Hid (affE [⟨a0, A0, x0, k0, b0, B0, y0, l0⟩, ⟨a1, A1, x1, k1, b1, B1, y1, l1⟩, ⟨a2, A2, x2, k2, b2, B2, y2, l2⟩, ⟨a3, A3, x3, k3, b3, B3, y3, l3⟩, ⟨a4, A4, x4, k4, b4, B4, y4, l4⟩, ⟨a5, A5, x5, k5, b5, B5, y5, l5⟩] = (List.replicate 18 0, 24)) := hAF
          subst hk0
          clear hAF hz0 s00 s01 s02 s03 s10 s11 s12 s13 s20 s21 s22 s23 s30 s31 s32 s33 s40 s41 s42 s43 s50 s51 s52 s53
          go_upto_region 7 with fail
          have ht := rng_there r1 zn1
          have ho := all_oneCell_toArray (cellsM_one zeros18)
          obtain ⟨d32, u32, row32⟩ := T32u
          obtain ⟨G1, G2, G3, G4⟩ := fin_N (w := w) (l := zeros18) (cs := zeros18) u32 row32 T32i HB (by omega) r1 zn1 rfl (fun e he => by rw [List.eq_of_mem_replicate he]; exact ZE.zero_ok _)
          have HF := hid (And.intro G3 G4)
          clear G1 G3 G4
          go_wp2_with (first | refine wpList_store_mid (by rfl) _ _ _ (by rfl) (w.heap.size + 1 + 1 + 1 + 1 + 1 + 1) 0 (cellsM zeros18).toArray (by rfl) (by rfl) ht T32i ho ?_ | fail)
          refine bodyPost_ret (v := .tuple #[.agg (cellsM zeros18).toArray, .int .i64 24]) ?_ rfl ?_
          · simp [results, Try.results28, Sem.run_bind, asAddr, G2]
          · rw [HR.out]
            exact ⟨zeros18, rfl, rfl, HF.out.2, HF.out.1⟩
        · rw [if_neg (fun h => hk0 (hz0.2 h))] at hAF
          clear hz0
          have hid_ := hid fun (W : World) => HIdentity_g (w := W)
          obtain ⟨d32, u32, row32⟩ := T32u
          go_wp2_with fail
          refine (hid_.out _).mono ?_
          rintro e w3 ⟨lI, rfl, hzI, hokI, h3⟩
          have hlI : lI.length = 18 := by rw [← List.length_map (·.z), hzI]; rfl
          have F1 := store_newN (P := Try.prog) (w := w3) (l := lI) (zs := cellsM zeros18) 32 (by rw [cellsM_len, hlI]; rfl) T32i
          simp only [zeros18, List.replicate, cellsM, ZE.cells, ZE.zero, List.cons_append, List.nil_append] at F1
          have h36 : (cellsM lI).length = 36 := by rw [cellsM_len, hlI]
          go_upto_region 9 with fail
          refine enterR (P := fun u => Code.wp _ _ _ _ u) ?_
          intro v hv q0 qz hsz
          have h3v := bel_step h3 hv
          have s00 := keep_cell h3v s00
          have s01 := keep_cell h3v s01
          have s02 := keep_cell h3v s02
          have s03 := keep_cell h3v s03
          have s10 := keep_cell h3v s10
          have s11 := keep_cell h3v s11
          have s12 := keep_cell h3v s12
          have s13 := keep_cell h3v s13
          have s20 := keep_cell h3v s20
          have s21 := keep_cell h3v s21
          have s22 := keep_cell h3v s22
          have s23 := keep_cell h3v s23
          have s30 := keep_cell h3v s30
          have s31 := keep_cell h3v s31
          have s32 := keep_cell h3v s32
          have s33 := keep_cell h3v s33
          have s40 := keep_cell h3v s40
          have s41 := keep_cell h3v s41
          have s42 := keep_cell h3v s42
          have s43 := keep_cell h3v s43
          have s50 := keep_cell h3v s50
          have s51 := keep_cell h3v s51
          have s52 := keep_cell h3v s52
          have s53 := keep_cell h3v s53
          have r1 := rng_below r1 h3v
          have zn1 := zn1.below h3v
          have HB := bel_step HB h3v
          have hLv : ∀ e ∈ zl ([⟨a0, A0, x0, k0, b0, B0, y0, l0⟩, ⟨a1, A1, x1, k1, b1, B1, y1, l1⟩, ⟨a2, A2, x2, k2, b2, B2, y2, l2⟩, ⟨a3, A3, x3, k3, b3, B3, y3, l3⟩, ⟨a4, A4, x4, k4, b4, B4, y4, l4⟩, ⟨a5, A5, x5, k5, b5, B5, y5, l5⟩] : List Rf), e.ok v := fun e he => hLs.out v h3v e he
          have g12 := rng_cell q0 (show 12 < lI.length by omega)
          have g13 := rng_cell q0 (show 13 < lI.length by omega)
          have g14 := rng_cell q0 (show 14 < lI.length by omega)
          have g15 := rng_cell q0 (show 15 < lI.length by omega)
          have g16 := rng_cell q0 (show 16 < lI.length by omega)
          have g17 := rng_cell q0 (show 17 < lI.length by omega)
          have oI : ∀ (j : Nat) (h : j < lI.length), (lI[j]).ok v := fun j h => (hokI _ (List.getElem_mem h)).below hv
          have zI : ∀ (j : Nat) (h : j < lI.length), (homZ id9)[j]? = some (lI[j]).z := fun j h => by rw [← hzI, List.getElem?_map, List.getElem?_eq_getElem h]; rfl
          have z12 := zI 12 (by omega)
          have z13 := zI 13 (by omega)
          have z14 := zI 14 (by omega)
          have z15 := zI 15 (by omega)
          have z16 := zI 16 (by omega)
          have z17 := zI 17 (by omega)
          have o12 := oI 12 (by omega)
          have o13 := oI 13 (by omega)
          have o14 := oI 14 (by omega)
          have o15 := oI 15 (by omega)
          have o16 := oI 16 (by omega)
          have o17 := oI 17 (by omega)
          generalize (lI[12]'(by omega)) = i12 at *
          generalize (lI[13]'(by omega)) = i13 at *
          generalize (lI[14]'(by omega)) = i14 at *
          generalize (lI[15]'(by omega)) = i15 at *
          generalize (lI[16]'(by omega)) = i16 at *
          generalize (lI[17]'(by omega)) = i17 at *
          have z12 : i12.z = 0 := (Option.some.inj z12).symm
          have z13 : i13.z = 1 := (Option.some.inj z13).symm
          have z14 : i14.z = 0 := (Option.some.inj z14).symm
          have z15 : i15.z = 1 := (Option.some.inj z15).symm
          have z16 : i16.z = 1 := (Option.some.inj z16).symm
          have z17 : i17.z = 1 := (Option.some.inj z17).symm
          clear oI zI hokI hzI q0 qz hsz F1 h36 hlI h3 hv
          have hz1 := hLst.out.2.1
          have hbz := hLst.out.2.2
          have hqq : (zl ([⟨a0, A0, x0, k0, b0, B0, y0, l0⟩, ⟨a1, A1, x1, k1, b1, B1, y1, l1⟩, ⟨a2, A2, x2, k2, b2, B2, y2, l2⟩, ⟨a3, A3, x3, k3, b3, B3, y3, l3⟩, ⟨a4, A4, x4, k4, b4, B4, y4, l4⟩, ⟨a5, A5, x5, k5, b5, B5, y5, l5⟩] : List Rf) ++ [i12, i13, i14, i15, i16, i17]).map (·.z) = frZ (([⟨a0, A0, x0, k0, b0, B0, y0, l0⟩, ⟨a1, A1, x1, k1, b1, B1, y1, l1⟩, ⟨a2, A2, x2, k2, b2, B2, y2, l2⟩, ⟨a3, A3, x3, k3, b3, B3, y3, l3⟩, ⟨a4, A4, x4, k4, b4, B4, y4, l4⟩, ⟨a5, A5, x5, k5, b5, B5, y5, l5⟩] : List Rf).map Rf.f ++ [(0, 1), (0, 1), (1, 1)]) := by
            rw [List.map_append, hz1]
            simp only [List.map_cons, List.map_nil, z12, z13, z14, z15, z16, z17]
            unfold frZ
            rw [List.flatMap_append]
            rfl
          have hbq : ∀ f ∈ ([⟨a0, A0, x0, k0, b0, B0, y0, l0⟩, ⟨a1, A1, x1, k1, b1, B1, y1, l1⟩, ⟨a2, A2, x2, k2, b2, B2, y2, l2⟩, ⟨a3, A3, x3, k3, b3, B3, y3, l3⟩, ⟨a4, A4, x4, k4, b4, B4, y4, l4⟩, ⟨a5, A5, x5, k5, b5, B5, y5, l5⟩] : List Rf).map Rf.f ++ [(0, 1), (0, 1), (1, 1)], 0 < f.2 ∧ Bz 1280 f.1 ∧ f.2 < 2 ^ 1280 := by
            have o1 := one_pow_lt (k := 1280) (by omega)
            have b1 : Bz 1280 1 := by unfold Bz; exact o1
            intro f hf
            rcases List.mem_append.1 hf with hf | hf
            · exact (hbz f hf).1
            · simp only [List.mem_cons, List.not_mem_nil, or_false] at hf
              rcases hf with rfl | rfl | rfl
              · exact ⟨by decide, Bz.zero, o1⟩
              · exact ⟨by decide, Bz.zero, o1⟩
              · exact ⟨by decide, b1, o1⟩
          have HI := hid (Hintegers_g (zl ([⟨a0, A0, x0, k0, b0, B0, y0, l0⟩, ⟨a1, A1, x1, k1, b1, B1, y1, l1⟩, ⟨a2, A2, x2, k2, b2, B2, y2, l2⟩, ⟨a3, A3, x3, k3, b3, B3, y3, l3⟩, ⟨a4, A4, x4, k4, b4, B4, y4, l4⟩, ⟨a5, A5, x5, k5, b5, B5, y5, l5⟩] : List Rf) ++ [i12, i13, i14, i15, i16, i17]) _ rfl hqq (w := v) (fun e he => by
            rcases List.mem_append.1 he with he | he
            · exact hLv e he
            · simp only [List.mem_cons, List.not_mem_nil, or_false] at he
              rcases he with rfl | rfl | rfl | rfl | rfl | rfl
              · exact o12
              · exact o13
              · exact o14
              · exact o15
              · exact o16
              · exact o17) (k := 1280) (by omega) (fun f hf => (hbq f hf).1) (fun f hf => (hbq f hf).2))
          have hib := intZ_bz (fun f hf => (hbq f hf).2)
          have hil : (intZ (([⟨a0, A0, x0, k0, b0, B0, y0, l0⟩, ⟨a1, A1, x1, k1, b1, B1, y1, l1⟩, ⟨a2, A2, x2, k2, b2, B2, y2, l2⟩, ⟨a3, A3, x3, k3, b3, B3, y3, l3⟩, ⟨a4, A4, x4, k4, b4, B4, y4, l4⟩, ⟨a5, A5, x5, k5, b5, B5, y5, l5⟩] : List Rf).map Rf.f ++ [(0, 1), (0, 1), (1, 1)])).length = 9 := rfl
          have hi3 : (([⟨a0, A0, x0, k0, b0, B0, y0, l0⟩, ⟨a1, A1, x1, k1, b1, B1, y1, l1⟩, ⟨a2, A2, x2, k2, b2, B2, y2, l2⟩, ⟨a3, A3, x3, k3, b3, B3, y3, l3⟩, ⟨a4, A4, x4, k4, b4, B4, y4, l4⟩, ⟨a5, A5, x5, k5, b5, B5, y5, l5⟩] : List Rf).map Rf.f ++ [(0, 1), (0, 1), (1, 1)]).length = 9 := rfl
          rw [hi3] at hib
          generalize hZS : intZ (([⟨a0, A0, x0, k0, b0, B0, y0, l0⟩, ⟨a1, A1, x1, k1, b1, B1, y1, l1⟩, ⟨a2, A2, x2, k2, b2, B2, y2, l2⟩, ⟨a3, A3, x3, k3, b3, B3, y3, l3⟩, ⟨a4, A4, x4, k4, b4, B4, y4, l4⟩, ⟨a5, A5, x5, k5, b5, B5, y5, l5⟩] : List Rf).map Rf.f ++ [(0, 1), (0, 1), (1, 1)]) = ZS at *
          clear hZS hi3 hbq hqq hbz hz1 hLst hLv hLs z12 z13 z14 z15 z16 z17 o12 o13 o14 o15 o16 o17
          have HR : Hid (affE [⟨a0, A0, x0, k0, b0, B0, y0, l0⟩, ⟨a1, A1, x1, k1, b1, B1, y1, l1⟩, ⟨a2, A2, x2, k2, b2, B2, y2, l2⟩, ⟨a3, A3, x3, k3, b3, B3, y3, l3⟩, ⟨a4, A4, x4, k4, b4, B4, y4, l4⟩, ⟨a5, A5, x5, k5, b5, B5, y5, l5⟩] = resZ ZS) := hAF
          clear hAF
          obtain ⟨g12a, g12b⟩ := g12
          obtain ⟨g13a, g13b⟩ := g13
          obtain ⟨g14a, g14b⟩ := g14
          obtain ⟨g15a, g15b⟩ := g15
          obtain ⟨g16a, g16b⟩ := g16
          obtain ⟨g17a, g17b⟩ := g17
          simp only [Nat.reduceMul, Nat.reduceAdd] at g12a g12b g13a g13b g14a g14b g15a g15b g16a g16b g17a g17b
          simp only [zl, Rf.ze, List.flatMap_cons, List.flatMap_nil, List.append_nil, cellsM, ZE.cells, List.cons_append, List.nil_append] at HI
          go_wp2_with fail
          refine HI.out.mono ?_
          rintro e w5 ⟨l7, rfl, hz7, ok7, h5⟩
          have hl7 : l7.length = 9 := by rw [← List.length_map (·.z), hz7, hil]
          have HRes := hid (Hresult_g l7 hl7 ok7 (k := 1280 * 9 + 1 + 1280) (by omega) (fun e he => hib e.z (hz7 ▸ List.mem_map.2 ⟨e, he, rfl⟩)))
          rw [hz7] at HRes
          have r1 := rng_below r1 h5
          have zn1 := zn1.below h5
          have HB := bel_step HB h5
          clear HI hz7 ok7 hib h5 g12a g12b g13a g13b g14a g14b g15a g15b g16a g16b g17a g17b s00 s01 s02 s03 s10 s11 s12 s13 s20 s21 s22 s23 s30 s31 s32 s33 s40 s41 s42 s43 s50 s51 s52 s53
          go_wp2_with fail
          refine HRes.out.mono ?_
          rintro e w6 ⟨lh, rfl, hz_, hok_, h6⟩
          have r1 := rng_below r1 h6
          have zn1 := zn1.below h6
          have HB := bel_step HB h6
          clear h6 HRes
          have hl18 : lh.length = 18 := by rw [← List.length_map (·.z), hz_]; exact resZ_len (by assumption)
          have ht := rng_there r1 zn1
          rw [show (cellsM zeros18).length = (cellsM lh).toArray.size by rw [List.size_toArray, cellsM_len, cellsM_len, hl18]; rfl] at ht
          have hi36 := hid (show (Try.prog.info? 32).map (·.size) = some (cellsM lh).toArray.size by rw [List.size_toArray, cellsM_len, hl18]; exact T32i)
          have hi36' := hid (show (Try.prog.info? 32).map (·.size) = some (cellsM lh).length by rw [cellsM_len, hl18]; exact T32i)
          have ho := all_oneCell_toArray (cellsM_one lh)
          obtain ⟨d32, u32, row32⟩ := T32u
          obtain ⟨G1, G2, G3, G4⟩ := fin_N (w := w) (l := lh) (cs := zeros18) u32 row32 hi36'.out HB (by omega) r1 zn1 (by rw [hl18]; rfl) hok_
          have HF := hid (And.intro hz_ (And.intro G3 G4))
          clear G1 G3 G4 hz_ hok_
          go_wp2_with (first | refine wpList_store_mid (by rfl) _ _ _ (by rfl) (w.heap.size + 1 + 1 + 1 + 1 + 1 + 1) 0 (cellsM lh).toArray (by rfl) (by rfl) ht hi36.out ho ?_ | fail)
          refine bodyPost_ret (v := .tuple #[.agg (cellsM lh).toArray, .int .i64 (resZ ZS).2]) ?_ rfl ?_
          · simp [results, Try.results28, Sem.run_bind, asAddr, G2]
          · rw [HR.out]
            exact ⟨lh, rfl, HF.out.1, HF.out.2.2, HF.out.2.1⟩
  · rw [if_neg hc] at hAF
    have HR : Hid (affE [⟨a0, A0, x0, k0, b0, B0, y0, l0⟩, ⟨a1, A1, x1, k1, b1, B1, y1, l1⟩, ⟨a2, A2, x2, k2, b2, B2, y2, l2⟩, ⟨a3, A3, x3, k3, b3, B3, y3, l3⟩, ⟨a4, A4, x4, k4, b4, B4, y4, l4⟩, ⟨a5, A5, x5, k5, b5, B5, y5, l5⟩] = (List.replicate 18 0, cv)) := hAF
    clear hAF HMa hCV s00 s01 s02 s03 s10 s11 s12 s13 s20 s21 s22 s23 s30 s31 s32 s33 s40 s41 s42 s43 s50 s51 s52 s53
    go_upto_region 3 with fail
    have ht := rng_there r1 zn1
    have ho := all_oneCell_toArray (cellsM_one zeros18)
    obtain ⟨d32, u32, row32⟩ := T32u
    obtain ⟨G1, G2, G3, G4⟩ := fin_N (w := w) (l := zeros18) (cs := zeros18) u32 row32 T32i HB (by omega) r1 zn1 rfl (fun e he => by rw [List.eq_of_mem_replicate he]; exact ZE.zero_ok _)
    have HF := hid (And.intro G3 G4)
    clear G1 G3 G4
    go_wp2_with (first | refine wpList_store_mid (by rfl) _ _ _ (by rfl) (w.heap.size + 1 + 1 + 1 + 1 + 1 + 1) 0 (cellsM zeros18).toArray (by rfl) (by rfl) ht T32i ho ?_ | fail)
    refine bodyPost_ret (v := .tuple #[.agg (cellsM zeros18).toArray, .int .i64 cv]) ?_ rfl ?_
    · simp [results, Try.results28, Sem.run_bind, asAddr, G2]
    · rw [HR.out]
      exact ⟨zeros18, rfl, rfl, HF.out.2, HF.out.1⟩
end Go.Proofs.Ytgnfobnkhjlbbaa
