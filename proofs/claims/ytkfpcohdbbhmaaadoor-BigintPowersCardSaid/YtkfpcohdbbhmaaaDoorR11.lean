/- The reference: the walk of Pow. Conditions: none. -/
import Derived.Test.YtkfpcohdbbhmaaaDoorR10
import Derived.Test.YtkfpcohdbbhmaaaDoorExP
namespace Go.Proofs.YtkfpcohdbbhmaaaDoor
set_option linter.unusedVariables false
set_option linter.unusedSimpArgs false
open Go.RowKit Big

section
variable {x y z r err : Int} {b b' b2 b3 : Bool} {n n' n2 n3 : Nat} {xs ys zs rs : List Nat} {A B : Option Addr} {c d : Nat} {w : World}
variable (hx : Iz x b n xs) (hy : Iz y b' n' ys)
include hx hy
theorem RMul_g (hz : Iz z b2 n2 zs) (he : fitE r = (z, err)) (ha : Mg w A c xs) (hb : Mg w B d ys) (fx : fits x) (fy : fits y) (h : x * y = r) : Calls Tryd.prog 28 #[.agg #[.bool b, .slice A n c], .agg #[.bool b', .slice B n' d]] w (GZE w b2 n2 zs err) := by
  obtain ⟨rfl, rfl, rfl⟩ := hx; obtain ⟨rfl, rfl, rfl⟩ := hy; obtain ⟨rfl, rfl, rfl⟩ := hz; subst h
  have := RMul_ok x y A B c d w ha hb fx fy; unfold RetF at this; rw [he] at this; exact this
theorem RCmp_g (ha : Mg w A c xs) (hb : Mg w B d ys) (fx : fits x) (fy : fits y) (k : Int) (h : zord x y = k) : Calls Tryd.prog 48 #[.agg #[.bool b, .slice A n c], .agg #[.bool b', .slice B n' d]] w (RetI w k) := by
  obtain ⟨rfl, rfl, rfl⟩ := hx; obtain ⟨rfl, rfl, rfl⟩ := hy; subst h
  exact RCmp_ok x y A B c d w ha hb fx fy
end
theorem RFromInt_g {z : Int} {b2 : Bool} {n2 : Nat} {zs : List Nat} {w : World} (hz : Iz z b2 n2 zs) (h1 : -9223372036854775808 ≤ z) (h2 : z ≤ 9223372036854775807) : Calls Tryd.prog 34 #[.int .i64 z] w (GZ w b2 n2 zs) := by
  obtain ⟨rfl, rfl, rfl⟩ := hz
  exact RFromInt_ok z w h1 h2

theorem zord_ne {x y : Int} (h : x ≠ y) : (zord x y == 0) = false := by
  rw [beq_eq_false_iff_ne]; unfold zord; split
  · decide
  · rw [if_pos (by omega)]; decide
theorem fz_keep {W w' : World} {g o : Nat} {b : Bool} (h : Below W.heap.size W w') (hg : g < W.heap.size) (hc : W.frozen? ⟨g, o, none⟩ = b) : w'.frozen? ⟨g, o, none⟩ = b := (h.frozen (p := ⟨g, o, none⟩) hg).trans hc
theorem pow_fit {x : Int} {i N : Nat} (h : ¬ fits (x ^ i)) (hi : i ≤ N) : ¬ fits (x ^ N) := by
  unfold fits at *
  rw [Int.natAbs_pow] at *
  have := pow_long (m := x.natAbs) (a := i) (b := N) (by omega) hi
  omega


set_option maxHeartbeats 2000000 in
set_option maxRecDepth 100000 in
theorem RPow_big {x : Int} {bx : Bool} {lx : Nat} {X : List Nat} (N : Nat) {A : Option Addr} {c : Nat} {w : World} (Ix : Iz x bx lx X) (ha : Mg w A c X) (fx : fits x) (hx2 : 2 ≤ x.natAbs) (h0 : 0 < N) (hN : N ≤ 9223372036854775807) :
    Calls Tryd.prog 22 #[.agg #[.bool bx, .slice A lx c], .int .i64 N] w (RetF w (x ^ N)) := by
  obtain ⟨b1, n1, L1, I1⟩ := iz 1
  obtain ⟨b2, n2, L2, I2⟩ := iz (-1)
  have hl0 : ((lx : Int) == 0) = false := by
    rw [beq_eq_false_iff_ne]
    intro h
    have := Ix.zero.1 (by omega)
    omega
  have HX := hid fun (w1 : World) (h1 : Below w.heap.size w w1) => (show Calls Tryd.prog 33 #[.agg #[.bool bx, .slice A lx c]] w1 fun e w' => e = .returned (.bool true) ∧ Below w1.heap.size w1 w' by
    obtain ⟨rfl, rfl, rfl⟩ := Ix; exact RValid_t (ha.below h1) fx)
  have HF1 := hid fun (w1 : World) => RFromInt_g (w := w1) I1.out (by omega) (by omega)
  have HF2 := hid fun (w1 : World) => RFromInt_g (w := w1) I2.out (by omega) (by omega)
  have hc1 := zord_ne (show x ≠ 1 by omega)
  have hc2 := zord_ne (show x ≠ -1 by omega)
  obtain ⟨k1, hk1⟩ : ∃ k, zord x 1 = k := ⟨_, rfl⟩
  obtain ⟨k2, hk2⟩ : ∃ k, zord x (-1) = k := ⟨_, rfl⟩
  have HC1 := hid fun (w1 : World) (h1 : Below w.heap.size w w1) (R : Option Addr) (c1 : Nat) (m : Mg w1 R c1 L1) => RCmp_g (w := w1) Ix I1.out (ha.below h1) m fx (fits_word 1 (by decide)) k1 hk1
  have HC2 := hid fun (w1 : World) (h1 : Below w.heap.size w w1) (R : Option Addr) (c1 : Nat) (m : Mg w1 R c1 L2) => RCmp_g (w := w1) Ix I2.out (ha.below h1) m fx (fits_word (-1) (by decide)) k2 hk2
  rw [hk1] at hc1
  rw [hk2] at hc2
  have HM := hid fun (w1 : World) (h1 : Below w.heap.size w w1) (z z' err : Int) (b b' : Bool) (n n' : Nat) (L L' : List Nat) (I : Hid (Iz z b n L)) (I' : Hid (Iz z' b' n' L')) (R : Option Addr) (c1 : Nat) (m : Mg w1 R c1 L) (fz : fits z) (he : fitE (z * x) = (z', err)) => RMul_g (w := w1) I.out Ix I'.out he m (ha.below h1) fz fx rfl
  have HP := hid fun (i : Nat) => Int.pow_succ x i
  have HL := hid fun (i : Nat) (h : ¬ fits (x ^ i)) (hi : i ≤ N) => fitE_no (pow_fit h hi)
  have HY := hid fun (h : fits (x ^ N)) => fitE_yes h
  have H1 := hid (Int.pow_zero x)
  have hb0 : ((N : Int) == 0) = false := by rw [beq_eq_false_iff_ne]; omega
  unfold RetF
  generalize hRR : fitE (x ^ N) = RR at *
  clear hRR ha fx hx2 Ix hk1 hk2
  go_enter Tryd.func22, Tryd.ntmps22
  go_wp2_with fail
  refine (HX.out _ (by repeat (first | assumption | exact Below.refl _ _ | refine Below.alloc ?_ (by simp; try omega) _ | refine Below.drew ?_ | refine below_drewN ?_ _))).mono ?_
  rintro e w1 ⟨rfl, h1⟩
  obtain ⟨p1, p2, p3, p4, p5⟩ := box2_keep h1
  have HA : Below w.heap.size w w1 := Below.trans (b := _) (by repeat (first | assumption | exact Below.refl _ _ | refine Below.alloc ?_ (by simp; try omega) _ | refine Below.drew ?_ | refine below_drewN ?_ _)) (h1.mono (by simp; omega))
  have HB : Below w1.heap.size w1 w1 := Below.refl _ _
  have f0 : w1.cell? ⟨w.heap.size, 0, none⟩ = some (.bool bx) := (p1 0).trans rfl
  have f1 : w1.cell? ⟨w.heap.size, 1, none⟩ = some (.slice A lx c) := (p1 1).trans rfl
  have r0 : w1.cell? ⟨w.heap.size + 1, 0, none⟩ = some (.bool false) := (p3 0).trans rfl
  have r1 : w1.cell? ⟨w.heap.size + 1, 1, none⟩ = some (.slice none 0 0) := (p3 1).trans rfl
  have z0 := p4 0
  have z1 := p4 1
  clear p1 p2 p3 p4
  go_wp2_with fail
  refine (HF1.out _).mono ?_
  rintro e w2 ⟨R1, c1, rfl, m1, h2⟩
  have hv_ : Below w1.heap.size w1 w2 := Below.trans (b := _) (by repeat (first | assumption | exact Below.refl _ _ | refine Below.alloc ?_ (by simp; try omega) _ | refine Below.drew ?_ | refine below_drewN ?_ _)) (h2.mono (by simp; try omega))
  replace f0 := keep_cell hv_ f0
  replace f1 := keep_cell hv_ f1
  replace r0 := keep_cell hv_ r0
  replace r1 := keep_cell hv_ r1
  have lt_f0 := cell_lt f0
  have lt_f1 := cell_lt f1
  have lt_r0 := cell_lt r0
  have lt_r1 := cell_lt r1
  replace HB := HB.trans (hv_.mono HB.size)
  clear hv_
  have hs2 := h2.size
  go_wp2_with fail
  have g0 := at_alloc0 (W := w2) (a := .bool b1) (b := .slice R1 n1 c1) (t := 24) rfl
  have g1 := at_alloc1 (W := w2) (a := .bool b1) (b := .slice R1 n1 c1) (t := 24) rfl
  have hv_ : Below w2.heap.size w2 (w2.alloc (.cells #[.bool b1, .slice R1 n1 c1] 24)) := (Below.refl _ _).alloc (Nat.le_refl _) _
  generalize w2.alloc (.cells #[.bool b1, .slice R1 n1 c1] 24) = u2 at *
  replace m1 := m1.below hv_
  replace f0 := keep_cell hv_ f0
  replace f1 := keep_cell hv_ f1
  replace r0 := keep_cell hv_ r0
  replace r1 := keep_cell hv_ r1
  replace HB := HB.trans (hv_.mono HB.size)
  clear hv_
  refine (HC1.out _ (bel_step HA HB) _ _ m1).mono ?_
  rintro e w3 ⟨rfl, h3⟩
  have hv_ : Below u2.heap.size u2 w3 := Below.trans (b := _) (by repeat (first | assumption | exact Below.refl _ _ | refine Below.alloc ?_ (by simp; try omega) _ | refine Below.drew ?_ | refine below_drewN ?_ _)) (h3.mono (by simp; try omega))
  replace m1 := m1.below hv_
  replace f0 := keep_cell hv_ f0
  replace f1 := keep_cell hv_ f1
  replace r0 := keep_cell hv_ r0
  replace r1 := keep_cell hv_ r1
  replace g0 := keep_cell hv_ g0
  replace g1 := keep_cell hv_ g1
  have lt_f0 := cell_lt f0
  have lt_f1 := cell_lt f1
  have lt_r0 := cell_lt r0
  have lt_r1 := cell_lt r1
  have lt_g0 := cell_lt g0
  have lt_g1 := cell_lt g1
  replace HB := HB.trans (hv_.mono HB.size)
  clear hv_
  go_wp2_with fail
  go_region_held3 (fun w' => w'.cell? ⟨w.heap.size, 0, none⟩ = some (.bool bx) ∧ w'.cell? ⟨w.heap.size, 1, none⟩ = some (.slice A lx c)) (first | ((try dsimp only); repeat' (first | with_reducible assumption | apply And.intro | (with_reducible refine keep_cell (W := w3) ?_ ?_) | exact (Below.refl _ _).drew | fail))) (first | (go_at_call 48; (with_reducible refine (HC2.out _ (bel_step HA (bel_step HB (bel_step q4 (by repeat' (first | with_reducible assumption | exact Below.refl _ _ | (refine Below.alloc ?_ (by first | omega | (simp only [World.size_alloc, World.size_setCell, World.size_drew]; done) | (simp only [World.size_alloc, World.size_setCell, World.size_drew]; omega)) _) | (refine Below.drew ?_) | (refine below_drewN ?_ _) | (refine Below.setCell ?_ (by first | omega | (simp only [World.size_alloc, World.size_setCell, World.size_drew]; done) | (simp only [World.size_alloc, World.size_setCell, World.size_drew]; omega)) _)))))) _ _ m2).mono ?_); rintro e w5 ⟨rfl, h5⟩; have q5 : Below w3.heap.size w3 w5 := bel_step q4 h5) | (go_at_call 34; (with_reducible refine (HF2.out _).mono ?_); rintro e w4 ⟨R2, c2, rfl, m2, h4⟩; have q4 : Below w3.heap.size w3 w4 := bel_step (by repeat' (first | with_reducible assumption | exact Below.refl _ _ | (refine Below.alloc ?_ (by first | omega | (simp only [World.size_alloc, World.size_setCell, World.size_drew]; done) | (simp only [World.size_alloc, World.size_setCell, World.size_drew]; omega)) _) | (refine Below.drew ?_) | (refine below_drewN ?_ _) | (refine Below.setCell ?_ (by first | omega | (simp only [World.size_alloc, World.size_setCell, World.size_drew]; done) | (simp only [World.size_alloc, World.size_setCell, World.size_drew]; omega)) _))) h4))
  all_goals
    have f0 := keep_cell q5 f0
    have f1 := keep_cell q5 f1
    have r0 := keep_cell q5 r0
    have r1 := keep_cell q5 r1
    have g0 := keep_cell q5 g0
    have g1 := keep_cell q5 g1
    have m1 := m1.below q5
    replace HB := HB.trans (q5.mono HB.size)
    go_wp2_with fail
    have hp5 : w.heap.size + 1 < w5.heap.size := by have := HB.size; omega
    replace z0 := fz_keep HB (by omega) z0
    replace z1 := fz_keep HB (by omega) z1
    go_loopw [8] (fun s8 wr => ∃ (i : Nat) (z : Int) (b : Bool) (n : Nat) (L : List Nat) (R : Option Addr) (cc : Nat), s8 = .int .i64 i ∧ i ≤ N ∧ Below w5.heap.size w5 wr ∧ w5.heap.size < wr.heap.size ∧ wr.cell? ⟨w5.heap.size, 0, none⟩ = some (.bool b) ∧ wr.cell? ⟨w5.heap.size, 1, none⟩ = some (.slice R n cc) ∧ wr.frozen? ⟨w5.heap.size, 0, none⟩ = false ∧ wr.frozen? ⟨w5.heap.size, 1, none⟩ = false ∧ Mg wr R cc L ∧ Hid (Iz z b n L) ∧ Hid (z = x ^ i) ∧ Hid (fits z)) (fun s8 _ => N - (intOf s8).toNat)
    case atStart => exact ⟨0, 1, b1, n1, L1, R1, c1, rfl, by omega, (Below.refl _ _).alloc (Nat.le_refl _) _, by simp, at_alloc0 rfl, at_alloc1 rfl, World.frozen?_alloc_at _ _ _ _ rfl, World.frozen?_alloc_at _ _ _ _ rfl, m1.alloc, I1, H1.out.symm, fits_word 1 (by decide)⟩
    case round =>
      clear m1 g0 g1 m2 HF1 HF2 HC1 HC2 I1 I2 HX q4 h1 h2 h3 h4 h5 q5 hc1 hc2
      obtain ⟨i, z, b, n, L, R, cc, rfl, hi, hbl, hgw, o0, o1, v0, v1, mo, hI, hz, hf⟩ := hrel
      have hsz := hbl.size
      replace f0 := keep_cell hbl f0
      replace f1 := keep_cell hbl f1
      replace r0 := keep_cell hbl r0
      replace r1 := keep_cell hbl r1
      replace z0 := fz_keep hbl (by omega) z0
      replace z1 := fz_keep hbl (by omega) z1
      have HBr := bel_step HA (bel_step HB hbl)
      have hp6 : w.heap.size + 1 < wr.heap.size := by omega
      by_cases hlt : i < N
      · obtain ⟨z', hz'⟩ : ∃ z', z * x = z' := ⟨_, rfl⟩
        have hzp : Hid (z' = x ^ (i + 1)) := by unfold Hid; rw [HP.out, ← hz.out, hz']
        obtain ⟨b', n', L', I'⟩ := iz z'
        by_cases hfz : fits z'
        · have HMi := hid (HM.out wr HBr z z' 0 b b' n n' L L' hI I' R cc mo hf.out (by rw [hz']; exact fitE_yes hfz))
          have HFz := hid hfz
          clear HM hz' hfz
          go_wp2_with fail
          refine HMi.out.mono ?_
          rintro e w6 ⟨R6, c6, rfl, m6, h6⟩
          have o0 := keep_cell h6 o0
          have o1 := keep_cell h6 o1
          have f0 := keep_cell h6 f0
          have f1 := keep_cell h6 f1
          have r0 := keep_cell h6 r0
          have r1 := keep_cell h6 r1
          have v0 := fz_keep h6 hgw v0
          have v1 := fz_keep h6 hgw v1
          have hs6 : w5.heap.size < w6.heap.size := by have := h6.size; omega
          have hs7 : w.heap.size + 1 < w6.heap.size := by omega
          have hs8 : w.heap.size < w6.heap.size := by omega
          clear mo
          go_wp2_with fail
          go_roundw
          case rel =>
            exact ⟨i + 1, z', b', n', L', R6, c6, by go_num, by omega, (below_set (below_set (hbl.trans (h6.mono hsz)) (Nat.le_refl _) _ _) (Nat.le_refl _) _ _).alloc (by simp; omega) _, by simp; omega, keep_alloc (keep_off (by omega) (at_set o0)), keep_alloc (at_set (keep_off (by omega) o1)), (World.frozen?_alloc_past _ _ _ (by simp; omega)).trans (by simpa using v0), (World.frozen?_alloc_past _ _ _ (by simp; omega)).trans (by simpa using v1), ((m6.set_ _ 0 _ _ o0 (by simp)).set_ _ 1 _ _ (keep_off (by omega) o1) (by simp)).alloc, I', hzp, HFz⟩
          case measure => simp [intOf]; omega
        · obtain ⟨b0, n0, L0, I0⟩ := iz 0
          have HMi := hid (HM.out wr HBr z 0 4 b b0 n n0 L L0 hI I0 R cc mo hf.out (by rw [hz']; exact fitE_no hfz))
          have hR := HL.out (i + 1) (by rw [← hzp.out]; exact hfz) (by omega)
          have hR := hid hR
          clear HM hz' hfz
          go_wp2_with fail
          refine HMi.out.mono ?_
          rintro e w6 ⟨R6, c6, rfl, m6, h6⟩
          have o0 := keep_cell h6 o0
          have o1 := keep_cell h6 o1
          have f0 := keep_cell h6 f0
          have f1 := keep_cell h6 f1
          have r0 := keep_cell h6 r0
          have r1 := keep_cell h6 r1
          have z0 := fz_keep h6 (by omega) z0
          have z1 := fz_keep h6 (by omega) z1
          have hs6 : w5.heap.size < w6.heap.size := by have := h6.size; omega
          have hs7 : w.heap.size + 1 < w6.heap.size := by omega
          have hs8 : w.heap.size < w6.heap.size := by omega
          clear mo
          go_wp2_with fail
          refine bodyPost_ret (v := .tuple #[.agg #[.bool false, .slice none 0 0], .int .i64 4]) ?_ rfl ?_
          · simp [results, Tryd.results22, go_sem, box_set r0 r1]
          · rw [hR.out]
            exact (retZE_zero 4 (below_set (below_set (HBr.trans (h6.mono HBr.size)) (by omega) _ _) (by omega) _ _)).alloc _
      · obtain rfl : i = N := by omega
        have hR := HY.out (by rw [← hz.out]; exact hf.out)
        rw [← hz.out] at hR
        have hR := hid hR
        obtain ⟨rfl, rfl, rfl⟩ := hI
        clear HM HP HL HY
        have HF := hid hf.out
        go_wp2_with fail
        refine bodyPost_ret (v := .tuple #[.agg #[.bool (decide ((z) < 0)), .slice R (limbs (Int.natAbs (z))).length cc], .int .i64 0]) ?_ rfl ?_
        · simp [results, Tryd.results22, go_sem, r0, r1]
        · rw [hR.out]
          exact fin_ze mo HBr (by omega) r0 r1 _ _


set_option maxHeartbeats 1000000 in
/-- the exponent 0 -/
theorem RPow_0 {x : Int} {bx : Bool} {lx : Nat} {X : List Nat} {A : Option Addr} {c : Nat} {w : World} (Ix : Iz x bx lx X) (ha : Mg w A c X) (fx : fits x) :
    Calls Tryd.prog 22 #[.agg #[.bool bx, .slice A lx c], .int .i64 0] w (RetZE w 1 0) := by
  obtain ⟨b1, n1, L1, I1⟩ := iz 1
  obtain ⟨b2, n2, L2, I2⟩ := iz (-1)
  have HX := hid fun (w1 : World) (h1 : Below w.heap.size w w1) => (show Calls Tryd.prog 33 #[.agg #[.bool bx, .slice A lx c]] w1 fun e w' => e = .returned (.bool true) ∧ Below w1.heap.size w1 w' by
    obtain ⟨rfl, rfl, rfl⟩ := Ix; exact RValid_t (ha.below h1) fx)
  have HF1 := hid fun (w1 : World) => RFromInt_g (w := w1) I1.out (by omega) (by omega)
  have HF2 := hid fun (w1 : World) => RFromInt_g (w := w1) I2.out (by omega) (by omega)
  clear ha fx Ix HF2
  go_enter Tryd.func22, Tryd.ntmps22
  go_wp2_with fail
  refine (HX.out _ (by repeat (first | assumption | exact Below.refl _ _ | refine Below.alloc ?_ (by simp; try omega) _ | refine Below.drew ?_ | refine below_drewN ?_ _))).mono ?_
  rintro e w1 ⟨rfl, h1⟩
  obtain ⟨p1, p2, p3, p4, p5⟩ := box2_keep h1
  have HA : Below w.heap.size w w1 := Below.trans (b := _) (by repeat (first | assumption | exact Below.refl _ _ | refine Below.alloc ?_ (by simp; try omega) _ | refine Below.drew ?_ | refine below_drewN ?_ _)) (h1.mono (by simp; omega))
  have HB : Below w1.heap.size w1 w1 := Below.refl _ _
  have f0 : w1.cell? ⟨w.heap.size, 0, none⟩ = some (.bool bx) := (p1 0).trans rfl
  have f1 : w1.cell? ⟨w.heap.size, 1, none⟩ = some (.slice A lx c) := (p1 1).trans rfl
  have r0 : w1.cell? ⟨w.heap.size + 1, 0, none⟩ = some (.bool false) := (p3 0).trans rfl
  have r1 : w1.cell? ⟨w.heap.size + 1, 1, none⟩ = some (.slice none 0 0) := (p3 1).trans rfl
  have z0 := p4 0
  have z1 := p4 1
  clear p1 p2 p3 p4
  go_wp2_with fail
  refine (HF1.out _).mono ?_
  rintro e w2 ⟨R1, c1, rfl, m1, h2⟩
  have hv_ : Below w1.heap.size w1 w2 := Below.trans (b := _) (by repeat (first | assumption | exact Below.refl _ _ | refine Below.alloc ?_ (by simp; try omega) _ | refine Below.drew ?_ | refine below_drewN ?_ _)) (h2.mono (by simp; try omega))
  replace f0 := keep_cell hv_ f0
  replace f1 := keep_cell hv_ f1
  replace r0 := keep_cell hv_ r0
  replace r1 := keep_cell hv_ r1
  have lt_f0 := cell_lt f0
  have lt_f1 := cell_lt f1
  have lt_r0 := cell_lt r0
  have lt_r1 := cell_lt r1
  replace HB := HB.trans (hv_.mono HB.size)
  clear hv_
  have hs2 := h2.size
  replace z0 := fz_keep HB (by omega) z0
  replace z1 := fz_keep HB (by omega) z1
  go_wp2_with fail
  refine bodyPost_ret (v := .tuple #[.agg #[.bool b1, .slice R1 n1 c1], .int .i64 0]) ?_ rfl ?_
  · simp [results, Tryd.results22, go_sem, box_set r0 r1]
  · obtain ⟨rfl, rfl, rfl⟩ := I1.out
    exact (fin_ze m1 (HA.trans (HB.mono HA.size)) (by omega) r0 r1 _ _).alloc _

set_option maxHeartbeats 1000000 in
/-- the base 1 -/
theorem RPow_1 {bx : Bool} {lx : Nat} {X : List Nat} (N : Nat) {A : Option Addr} {c : Nat} {w : World} (Ix : Iz 1 bx lx X) (ha : Mg w A c X) (fx : fits 1) (h0 : 0 < N) (hN : N ≤ 9223372036854775807) :
    Calls Tryd.prog 22 #[.agg #[.bool bx, .slice A lx c], .int .i64 N] w (RetZE w 1 0) := by
  obtain ⟨b1, n1, L1, I1⟩ := iz 1
  obtain ⟨b2, n2, L2, I2⟩ := iz (-1)
  have HX := hid fun (w1 : World) (h1 : Below w.heap.size w w1) => (show Calls Tryd.prog 33 #[.agg #[.bool bx, .slice A lx c]] w1 fun e w' => e = .returned (.bool true) ∧ Below w1.heap.size w1 w' by
    obtain ⟨rfl, rfl, rfl⟩ := Ix; exact RValid_t (ha.below h1) fx)
  have HF1 := hid fun (w1 : World) => RFromInt_g (w := w1) I1.out (by omega) (by omega)
  have HF2 := hid fun (w1 : World) => RFromInt_g (w := w1) I2.out (by omega) (by omega)
  have HC1 := hid fun (w1 : World) (h1 : Below w.heap.size w w1) (R : Option Addr) (c1 : Nat) (m : Mg w1 R c1 L1) => RCmp_g (w := w1) Ix I1.out (ha.below h1) m fx (fits_word 1 (by decide)) 0 (by decide)
  have hb0 : ((N : Int) == 0) = false := by rw [beq_eq_false_iff_ne]; omega
  clear ha fx Ix HF2
  go_enter Tryd.func22, Tryd.ntmps22
  go_wp2_with fail
  refine (HX.out _ (by repeat (first | assumption | exact Below.refl _ _ | refine Below.alloc ?_ (by simp; try omega) _ | refine Below.drew ?_ | refine below_drewN ?_ _))).mono ?_
  rintro e w1 ⟨rfl, h1⟩
  obtain ⟨p1, p2, p3, p4, p5⟩ := box2_keep h1
  have HA : Below w.heap.size w w1 := Below.trans (b := _) (by repeat (first | assumption | exact Below.refl _ _ | refine Below.alloc ?_ (by simp; try omega) _ | refine Below.drew ?_ | refine below_drewN ?_ _)) (h1.mono (by simp; omega))
  have HB : Below w1.heap.size w1 w1 := Below.refl _ _
  have f0 : w1.cell? ⟨w.heap.size, 0, none⟩ = some (.bool bx) := (p1 0).trans rfl
  have f1 : w1.cell? ⟨w.heap.size, 1, none⟩ = some (.slice A lx c) := (p1 1).trans rfl
  have r0 : w1.cell? ⟨w.heap.size + 1, 0, none⟩ = some (.bool false) := (p3 0).trans rfl
  have r1 : w1.cell? ⟨w.heap.size + 1, 1, none⟩ = some (.slice none 0 0) := (p3 1).trans rfl
  have z0 := p4 0
  have z1 := p4 1
  clear p1 p2 p3 p4
  go_wp2_with fail
  refine (HF1.out _).mono ?_
  rintro e w2 ⟨R1, c1, rfl, m1, h2⟩
  have hv_ : Below w1.heap.size w1 w2 := Below.trans (b := _) (by repeat (first | assumption | exact Below.refl _ _ | refine Below.alloc ?_ (by simp; try omega) _ | refine Below.drew ?_ | refine below_drewN ?_ _)) (h2.mono (by simp; try omega))
  replace f0 := keep_cell hv_ f0
  replace f1 := keep_cell hv_ f1
  replace r0 := keep_cell hv_ r0
  replace r1 := keep_cell hv_ r1
  have lt_f0 := cell_lt f0
  have lt_f1 := cell_lt f1
  have lt_r0 := cell_lt r0
  have lt_r1 := cell_lt r1
  replace HB := HB.trans (hv_.mono HB.size)
  clear hv_
  have hs2 := h2.size
  go_wp2_with fail
  have g0 := at_alloc0 (W := w2) (a := .bool b1) (b := .slice R1 n1 c1) (t := 24) rfl
  have g1 := at_alloc1 (W := w2) (a := .bool b1) (b := .slice R1 n1 c1) (t := 24) rfl
  have hv_ : Below w2.heap.size w2 (w2.alloc (.cells #[.bool b1, .slice R1 n1 c1] 24)) := (Below.refl _ _).alloc (Nat.le_refl _) _
  generalize w2.alloc (.cells #[.bool b1, .slice R1 n1 c1] 24) = u2 at *
  replace m1 := m1.below hv_
  replace f0 := keep_cell hv_ f0
  replace f1 := keep_cell hv_ f1
  replace r0 := keep_cell hv_ r0
  replace r1 := keep_cell hv_ r1
  replace HB := HB.trans (hv_.mono HB.size)
  clear hv_
  refine (HC1.out _ (bel_step HA HB) _ _ m1).mono ?_
  rintro e w3 ⟨rfl, h3⟩
  replace z0 := fz_keep (HB.trans (h3.mono HB.size)) (by omega) z0
  replace z1 := fz_keep (HB.trans (h3.mono HB.size)) (by omega) z1
  have hv_ : Below u2.heap.size u2 w3 := Below.trans (b := _) (by repeat (first | assumption | exact Below.refl _ _ | refine Below.alloc ?_ (by simp; try omega) _ | refine Below.drew ?_ | refine below_drewN ?_ _)) (h3.mono (by simp; try omega))
  replace m1 := m1.below hv_
  replace f0 := keep_cell hv_ f0
  replace f1 := keep_cell hv_ f1
  replace r0 := keep_cell hv_ r0
  replace r1 := keep_cell hv_ r1
  replace g0 := keep_cell hv_ g0
  replace g1 := keep_cell hv_ g1
  have lt_f0 := cell_lt f0
  have lt_f1 := cell_lt f1
  have lt_r0 := cell_lt r0
  have lt_r1 := cell_lt r1
  have lt_g0 := cell_lt g0
  have lt_g1 := cell_lt g1
  replace HB := HB.trans (hv_.mono HB.size)
  clear hv_
  go_wp2_with fail
  refine bodyPost_ret (v := .tuple #[.agg #[.bool b1, .slice R1 n1 c1], .int .i64 0]) ?_ rfl ?_
  · simp [results, Tryd.results22, go_sem, r0, r1]
  · obtain ⟨rfl, rfl, rfl⟩ := I1.out
    exact fin_ze m1 (HA.trans (HB.mono HA.size)) (by omega) r0 r1 _ _

set_option maxHeartbeats 1000000 in
/-- the base 0 -/
theorem RPow_nil {bx : Bool} {lx : Nat} {X : List Nat} (N : Nat) {A : Option Addr} {c : Nat} {w : World} (Ix : Iz 0 bx lx X) (ha : Mg w A c X) (fx : fits 0) (h0 : 0 < N) (hN : N ≤ 9223372036854775807) :
    Calls Tryd.prog 22 #[.agg #[.bool bx, .slice A lx c], .int .i64 N] w (RetZE w 0 0) := by
  obtain ⟨b1, n1, L1, I1⟩ := iz 1
  obtain ⟨b2, n2, L2, I2⟩ := iz (-1)
  have HX := hid fun (w1 : World) (h1 : Below w.heap.size w w1) => (show Calls Tryd.prog 33 #[.agg #[.bool bx, .slice A lx c]] w1 fun e w' => e = .returned (.bool true) ∧ Below w1.heap.size w1 w' by
    obtain ⟨rfl, rfl, rfl⟩ := Ix; exact RValid_t (ha.below h1) fx)
  have HF1 := hid fun (w1 : World) => RFromInt_g (w := w1) I1.out (by omega) (by omega)
  have HF2 := hid fun (w1 : World) => RFromInt_g (w := w1) I2.out (by omega) (by omega)
  obtain ⟨k1, hk1⟩ : ∃ k, zord 0 1 = k := ⟨_, rfl⟩
  have hc1 : (k1 == 0) = false := by rw [← hk1]; decide
  have HC1 := hid fun (w1 : World) (h1 : Below w.heap.size w w1) (R : Option Addr) (c1 : Nat) (m : Mg w1 R c1 L1) => RCmp_g (w := w1) Ix I1.out (ha.below h1) m fx (fits_word 1 (by decide)) k1 hk1
  have hb0 : ((N : Int) == 0) = false := by rw [beq_eq_false_iff_ne]; omega
  have hl0 : lx = 0 := Ix.zero.2 rfl
  have hbx : bx = false := by rw [Ix.hb]; decide
  have hX : X = [] := by rw [Ix.hx]; simp [limbs_zero]
  subst hl0
  subst hbx
  subst hX
  have hmA := hid ha
  clear ha fx Ix HF2 hk1
  go_enter Tryd.func22, Tryd.ntmps22
  go_wp2_with fail
  refine (HX.out _ (by repeat (first | assumption | exact Below.refl _ _ | refine Below.alloc ?_ (by simp; try omega) _ | refine Below.drew ?_ | refine below_drewN ?_ _))).mono ?_
  rintro e w1 ⟨rfl, h1⟩
  obtain ⟨p1, p2, p3, p4, p5⟩ := box2_keep h1
  have HA : Below w.heap.size w w1 := Below.trans (b := _) (by repeat (first | assumption | exact Below.refl _ _ | refine Below.alloc ?_ (by simp; try omega) _ | refine Below.drew ?_ | refine below_drewN ?_ _)) (h1.mono (by simp; omega))
  have HB : Below w1.heap.size w1 w1 := Below.refl _ _
  have f0 : w1.cell? ⟨w.heap.size, 0, none⟩ = some (.bool false) := (p1 0).trans rfl
  have f1 : w1.cell? ⟨w.heap.size, 1, none⟩ = some (.slice A 0 c) := (p1 1).trans rfl
  have r0 : w1.cell? ⟨w.heap.size + 1, 0, none⟩ = some (.bool false) := (p3 0).trans rfl
  have r1 : w1.cell? ⟨w.heap.size + 1, 1, none⟩ = some (.slice none 0 0) := (p3 1).trans rfl
  have z0 := p4 0
  have z1 := p4 1
  clear p1 p2 p3 p4
  go_wp2_with fail
  refine (HF1.out _).mono ?_
  rintro e w2 ⟨R1, c1, rfl, m1, h2⟩
  have hv_ : Below w1.heap.size w1 w2 := Below.trans (b := _) (by repeat (first | assumption | exact Below.refl _ _ | refine Below.alloc ?_ (by simp; try omega) _ | refine Below.drew ?_ | refine below_drewN ?_ _)) (h2.mono (by simp; try omega))
  replace f0 := keep_cell hv_ f0
  replace f1 := keep_cell hv_ f1
  replace r0 := keep_cell hv_ r0
  replace r1 := keep_cell hv_ r1
  have lt_f0 := cell_lt f0
  have lt_f1 := cell_lt f1
  have lt_r0 := cell_lt r0
  have lt_r1 := cell_lt r1
  replace HB := HB.trans (hv_.mono HB.size)
  clear hv_
  go_wp2_with fail
  have g0 := at_alloc0 (W := w2) (a := .bool b1) (b := .slice R1 n1 c1) (t := 24) rfl
  have g1 := at_alloc1 (W := w2) (a := .bool b1) (b := .slice R1 n1 c1) (t := 24) rfl
  have hv_ : Below w2.heap.size w2 (w2.alloc (.cells #[.bool b1, .slice R1 n1 c1] 24)) := (Below.refl _ _).alloc (Nat.le_refl _) _
  generalize w2.alloc (.cells #[.bool b1, .slice R1 n1 c1] 24) = u2 at *
  replace m1 := m1.below hv_
  replace f0 := keep_cell hv_ f0
  replace f1 := keep_cell hv_ f1
  replace r0 := keep_cell hv_ r0
  replace r1 := keep_cell hv_ r1
  replace HB := HB.trans (hv_.mono HB.size)
  clear hv_
  refine (HC1.out _ (bel_step HA HB) _ _ m1).mono ?_
  rintro e w3 ⟨rfl, h3⟩
  replace z0 := fz_keep (HB.trans (h3.mono HB.size)) (by omega) z0
  replace z1 := fz_keep (HB.trans (h3.mono HB.size)) (by omega) z1
  have hv_ : Below u2.heap.size u2 w3 := Below.trans (b := _) (by repeat (first | assumption | exact Below.refl _ _ | refine Below.alloc ?_ (by simp; try omega) _ | refine Below.drew ?_ | refine below_drewN ?_ _)) (h3.mono (by simp; try omega))
  replace m1 := m1.below hv_
  replace f0 := keep_cell hv_ f0
  replace f1 := keep_cell hv_ f1
  replace r0 := keep_cell hv_ r0
  replace r1 := keep_cell hv_ r1
  replace g0 := keep_cell hv_ g0
  replace g1 := keep_cell hv_ g1
  have lt_f0 := cell_lt f0
  have lt_f1 := cell_lt f1
  have lt_r0 := cell_lt r0
  have lt_r1 := cell_lt r1
  have lt_g0 := cell_lt g0
  have lt_g1 := cell_lt g1
  replace HB := HB.trans (hv_.mono HB.size)
  clear hv_
  go_wp2_with fail
  refine bodyPost_ret (v := .tuple #[.agg #[.bool false, .slice A 0 c], .int .i64 0]) ?_ rfl ?_
  · simp [results, Tryd.results22, go_sem, r0, r1]
  · have hW := HA.trans (HB.mono HA.size)
    have hfin := fin_ze (z := 0) (err := 0) (A := A) (c := c) (by simpa [limbs_zero] using hmA.out.below hW) hW (show w.heap.size ≤ w.heap.size + 1 by omega) r0 r1 (.bool false) (.slice A 0 c)
    rw [show (limbs (0 : Int).natAbs).length = 0 by simp [limbs_zero]] at hfin
    exact hfin

set_option maxHeartbeats 1000000 in
set_option maxRecDepth 100000 in
/-- the base -1 -/
theorem RPow_m1 {bx : Bool} {lx : Nat} {X : List Nat} (N : Nat) {A : Option Addr} {c : Nat} {w : World} (Ix : Iz (-1) bx lx X) (ha : Mg w A c X) (fx : fits (-1)) (h0 : 0 < N) (hN : N ≤ 9223372036854775807) :
    Calls Tryd.prog 22 #[.agg #[.bool bx, .slice A lx c], .int .i64 N] w (RetZE w (if N % 2 = 0 then 1 else -1) 0) := by
  obtain ⟨zz, hzz⟩ : ∃ z : Int, (if N % 2 = 0 then (1 : Int) else -1) = z := ⟨_, rfl⟩
  rw [hzz]
  have HZZ := hid hzz
  clear hzz
  obtain ⟨b1, n1, L1, I1⟩ := iz 1
  obtain ⟨b2, n2, L2, I2⟩ := iz (-1)
  have HX := hid fun (w1 : World) (h1 : Below w.heap.size w w1) => (show Calls Tryd.prog 33 #[.agg #[.bool bx, .slice A lx c]] w1 fun e w' => e = .returned (.bool true) ∧ Below w1.heap.size w1 w' by
    obtain ⟨rfl, rfl, rfl⟩ := Ix; exact RValid_t (ha.below h1) fx)
  have HF1 := hid fun (w1 : World) => RFromInt_g (w := w1) I1.out (by omega) (by omega)
  have HF2 := hid fun (w1 : World) => RFromInt_g (w := w1) I2.out (by omega) (by omega)
  obtain ⟨k1, hk1⟩ : ∃ k, zord (-1) 1 = k := ⟨_, rfl⟩
  have hc1 : (k1 == 0) = false := by rw [← hk1]; decide
  have HC1 := hid fun (w1 : World) (h1 : Below w.heap.size w w1) (R : Option Addr) (c1 : Nat) (m : Mg w1 R c1 L1) => RCmp_g (w := w1) Ix I1.out (ha.below h1) m fx (fits_word 1 (by decide)) k1 hk1
  have HC2 := hid fun (w1 : World) (h1 : Below w.heap.size w w1) (R : Option Addr) (c1 : Nat) (m : Mg w1 R c1 L2) => RCmp_g (w := w1) Ix I2.out (ha.below h1) m fx (fits_word (-1) (by decide)) 0 (by decide)
  have hb0 : ((N : Int) == 0) = false := by rw [beq_eq_false_iff_ne]; omega
  have hl0 : ((lx : Int) == 0) = false := by
    rw [beq_eq_false_iff_ne]
    intro h
    have := Ix.zero.1 (by omega)
    omega
  clear ha fx Ix hk1
  go_enter Tryd.func22, Tryd.ntmps22
  go_wp2_with fail
  refine (HX.out _ (by repeat (first | assumption | exact Below.refl _ _ | refine Below.alloc ?_ (by simp; try omega) _ | refine Below.drew ?_ | refine below_drewN ?_ _))).mono ?_
  rintro e w1 ⟨rfl, h1⟩
  obtain ⟨p1, p2, p3, p4, p5⟩ := box2_keep h1
  have HA : Below w.heap.size w w1 := Below.trans (b := _) (by repeat (first | assumption | exact Below.refl _ _ | refine Below.alloc ?_ (by simp; try omega) _ | refine Below.drew ?_ | refine below_drewN ?_ _)) (h1.mono (by simp; omega))
  have HB : Below w1.heap.size w1 w1 := Below.refl _ _
  have f0 : w1.cell? ⟨w.heap.size, 0, none⟩ = some (.bool bx) := (p1 0).trans rfl
  have f1 : w1.cell? ⟨w.heap.size, 1, none⟩ = some (.slice A lx c) := (p1 1).trans rfl
  have r0 : w1.cell? ⟨w.heap.size + 1, 0, none⟩ = some (.bool false) := (p3 0).trans rfl
  have r1 : w1.cell? ⟨w.heap.size + 1, 1, none⟩ = some (.slice none 0 0) := (p3 1).trans rfl
  have z0 := p4 0
  have z1 := p4 1
  clear p1 p2 p3 p4
  go_wp2_with fail
  refine (HF1.out _).mono ?_
  rintro e w2 ⟨R1, c1, rfl, m1, h2⟩
  have hv_ : Below w1.heap.size w1 w2 := Below.trans (b := _) (by repeat (first | assumption | exact Below.refl _ _ | refine Below.alloc ?_ (by simp; try omega) _ | refine Below.drew ?_ | refine below_drewN ?_ _)) (h2.mono (by simp; try omega))
  replace f0 := keep_cell hv_ f0
  replace f1 := keep_cell hv_ f1
  replace r0 := keep_cell hv_ r0
  replace r1 := keep_cell hv_ r1
  have lt_f0 := cell_lt f0
  have lt_f1 := cell_lt f1
  have lt_r0 := cell_lt r0
  have lt_r1 := cell_lt r1
  replace HB := HB.trans (hv_.mono HB.size)
  clear hv_
  have hs2 := h2.size
  go_wp2_with fail
  have g0 := at_alloc0 (W := w2) (a := .bool b1) (b := .slice R1 n1 c1) (t := 24) rfl
  have g1 := at_alloc1 (W := w2) (a := .bool b1) (b := .slice R1 n1 c1) (t := 24) rfl
  have hv_ : Below w2.heap.size w2 (w2.alloc (.cells #[.bool b1, .slice R1 n1 c1] 24)) := (Below.refl _ _).alloc (Nat.le_refl _) _
  generalize w2.alloc (.cells #[.bool b1, .slice R1 n1 c1] 24) = u2 at *
  replace m1 := m1.below hv_
  replace f0 := keep_cell hv_ f0
  replace f1 := keep_cell hv_ f1
  replace r0 := keep_cell hv_ r0
  replace r1 := keep_cell hv_ r1
  replace HB := HB.trans (hv_.mono HB.size)
  clear hv_
  refine (HC1.out _ (bel_step HA HB) _ _ m1).mono ?_
  rintro e w3 ⟨rfl, h3⟩
  have hv_ : Below u2.heap.size u2 w3 := Below.trans (b := _) (by repeat (first | assumption | exact Below.refl _ _ | refine Below.alloc ?_ (by simp; try omega) _ | refine Below.drew ?_ | refine below_drewN ?_ _)) (h3.mono (by simp; try omega))
  replace m1 := m1.below hv_
  replace f0 := keep_cell hv_ f0
  replace f1 := keep_cell hv_ f1
  replace r0 := keep_cell hv_ r0
  replace r1 := keep_cell hv_ r1
  replace g0 := keep_cell hv_ g0
  replace g1 := keep_cell hv_ g1
  have lt_f0 := cell_lt f0
  have lt_f1 := cell_lt f1
  have lt_r0 := cell_lt r0
  have lt_r1 := cell_lt r1
  have lt_g0 := cell_lt g0
  have lt_g1 := cell_lt g1
  replace HB := HB.trans (hv_.mono HB.size)
  clear hv_
  go_wp2_with fail
  go_region_held3 (fun w' => w'.cell? ⟨w.heap.size, 0, none⟩ = some (.bool bx) ∧ w'.cell? ⟨w.heap.size, 1, none⟩ = some (.slice A lx c)) (first | ((try dsimp only); repeat' (first | with_reducible assumption | apply And.intro | (with_reducible refine keep_cell (W := w3) ?_ ?_) | exact (Below.refl _ _).drew | fail))) (first | (go_at_call 48; (with_reducible refine (HC2.out _ (bel_step HA (bel_step HB (bel_step q4 (by repeat' (first | with_reducible assumption | exact Below.refl _ _ | (refine Below.alloc ?_ (by first | omega | (simp only [World.size_alloc, World.size_setCell, World.size_drew]; done) | (simp only [World.size_alloc, World.size_setCell, World.size_drew]; omega)) _) | (refine Below.drew ?_) | (refine below_drewN ?_ _) | (refine Below.setCell ?_ (by first | omega | (simp only [World.size_alloc, World.size_setCell, World.size_drew]; done) | (simp only [World.size_alloc, World.size_setCell, World.size_drew]; omega)) _)))))) _ _ m2).mono ?_); rintro e w5 ⟨rfl, h5⟩; have q5 : Below w3.heap.size w3 w5 := bel_step q4 h5) | (go_at_call 34; (with_reducible refine (HF2.out _).mono ?_); rintro e w4 ⟨R2, c2, rfl, m2, h4⟩; have q4 : Below w3.heap.size w3 w4 := bel_step (by repeat' (first | with_reducible assumption | exact Below.refl _ _ | (refine Below.alloc ?_ (by first | omega | (simp only [World.size_alloc, World.size_setCell, World.size_drew]; done) | (simp only [World.size_alloc, World.size_setCell, World.size_drew]; omega)) _) | (refine Below.drew ?_) | (refine below_drewN ?_ _) | (refine Below.setCell ?_ (by first | omega | (simp only [World.size_alloc, World.size_setCell, World.size_drew]; done) | (simp only [World.size_alloc, World.size_setCell, World.size_drew]; omega)) _))) h4))
  all_goals
    have f0 := keep_cell q5 f0
    have f1 := keep_cell q5 f1
    have r0 := keep_cell q5 r0
    have r1 := keep_cell q5 r1
    have g0 := keep_cell q5 g0
    have g1 := keep_cell q5 g1
    have m1 := m1.below q5
    replace HB := HB.trans (q5.mono HB.size)
    have hp5 : w.heap.size + 1 < w5.heap.size := by have := HB.size; omega
    replace z0 := fz_keep HB (by omega) z0
    replace z1 := fz_keep HB (by omega) z1
    have HW := HA.trans (HB.mono HA.size)
    rcases Nat.mod_two_eq_zero_or_one N with h2 | h2
    · have h2i : ((N : Int) % 2 == 0) = true := by rw [beq_iff_eq]; omega
      go_wp2_with fail
      refine bodyPost_ret (v := .tuple #[.agg #[.bool b1, .slice R1 n1 c1], .int .i64 0]) ?_ rfl ?_
      · simp [results, Tryd.results22, go_sem, r0, r1]
      · rw [← HZZ.out, if_pos h2]
        obtain ⟨rfl, rfl, rfl⟩ := I1.out
        exact fin_ze m1 HW (by omega) r0 r1 _ _
    · have h2i : ((N : Int) % 2 == 0) = false := by rw [beq_eq_false_iff_ne]; omega
      go_wp2_with fail
      refine (HF2.out _).mono ?_
      rintro e w6 ⟨R6, c6, rfl, m6, h6⟩
      replace z0 := fz_keep h6 hp5 z0
      replace z1 := fz_keep h6 hp5 z1
      replace r0 := keep_cell h6 r0
      replace r1 := keep_cell h6 r1
      have hs6 : w.heap.size + 1 < w6.heap.size := by have := h6.size; omega
      go_wp2_with fail
      refine bodyPost_ret (v := .tuple #[.agg #[.bool b2, .slice R6 n2 c6], .int .i64 0]) ?_ rfl ?_
      · simp [results, Tryd.results22, go_sem, r0, r1]
      · rw [← HZZ.out, if_neg (by omega)]
        obtain ⟨rfl, rfl, rfl⟩ := I2.out
        exact fin_ze m6 (HW.trans (h6.mono HW.size)) (by omega) r0 r1 _ _

theorem m1_pow (N : Nat) : (-1 : Int) ^ N = if N % 2 = 0 then 1 else -1 := by
  induction N with
  | zero => rfl
  | succ N ih =>
    rw [Int.pow_succ, ih]
    rcases Nat.mod_two_eq_zero_or_one N with h | h
    · rw [if_pos h, if_neg (by omega)]; rfl
    · rw [if_neg (by omega), if_pos (by omega)]; rfl

theorem RPow_ok (x : Int) (N : Nat) (A : Option Addr) (c : Nat) (w : World) (ha : Mg w A c (limbs x.natAbs)) (fx : fits x) (hN : N ≤ 9223372036854775807) :
    Calls Tryd.prog 22 #[.agg #[.bool (decide ((x) < 0)), .slice A (limbs (Int.natAbs (x))).length c], .int .i64 N] w (RetF w (x ^ N)) := by
  by_cases h0 : N = 0
  · subst h0
    have := RPow_0 (x := x) ⟨rfl, rfl, rfl⟩ ha fx
    unfold RetF
    rw [Int.pow_zero, fitE_yes (fits_word 1 (by decide))]
    exact this
  · by_cases h1 : x = 1
    · subst h1
      unfold RetF
      rw [Int.one_pow, fitE_yes fx]
      exact RPow_1 N ⟨rfl, rfl, rfl⟩ ha fx (by omega) hN
    · by_cases h2 : x = 0
      · subst h2
        unfold RetF
        rw [Int.zero_pow h0, fitE_yes fx]
        exact RPow_nil N ⟨rfl, rfl, rfl⟩ ha fx (by omega) hN
      · by_cases h3 : x = -1
        · subst h3
          have hf : fits (if N % 2 = 0 then (1 : Int) else -1) := by
            split
            · exact fits_word 1 (by decide)
            · exact fx
          unfold RetF
          rw [m1_pow, fitE_yes hf]
          exact RPow_m1 N ⟨rfl, rfl, rfl⟩ ha fx (by omega) hN
        · exact RPow_big N ⟨rfl, rfl, rfl⟩ ha fx (by omega) (by omega) hN

theorem RPow_neg (x : Int) (n : Int) (A : Option Addr) (c : Nat) (w : World) (ha : Mg w A c (limbs x.natAbs)) (fx : fits x) (hn : n < 0) (hn2 : -9223372036854775808 ≤ n) :
    Calls Tryd.prog 22 #[.agg #[.bool (decide ((x) < 0)), .slice A (limbs (Int.natAbs (x))).length c], .int .i64 n] w (RetZE w 0 1) := by
  have HX := hid fun (w1 : World) (h1 : Below w.heap.size w w1) => RValid_t (ha.below h1) fx
  clear ha fx
  generalize decide (x < 0) = bx at *
  generalize (limbs x.natAbs).length = lx at *
  go_enter Tryd.func22, Tryd.ntmps22
  go_wp2_with fail
  refine (HX.out _ (by repeat (first | assumption | exact Below.refl _ _ | refine Below.alloc ?_ (by simp; try omega) _ | refine Below.drew ?_ | refine below_drewN ?_ _))).mono ?_
  rintro e w1 ⟨rfl, h1⟩
  obtain ⟨p1, p2, p3, p4, p5⟩ := box2_keep h1
  have b1 : Below w.heap.size w w1 := Below.trans (b := _) (by repeat (first | assumption | exact Below.refl _ _ | refine Below.alloc ?_ (by simp; try omega) _ | refine Below.drew ?_ | refine below_drewN ?_ _)) (h1.mono (by simp; omega))
  have k0 := p3 0
  have k1 := p3 1
  simp at k0 k1
  go_wp2
  refine bodyPost_ret (v := .tuple #[.agg #[.bool false, .slice none 0 0], .int .i64 1]) ?_ rfl ?_
  · simp [results, Tryd.results22, go_sem, k0, k1]
  · exact retZE_zero 1 (below_set (below_set b1 (by omega) _ _) (by omega) _ _)

theorem RPow_bad (na : Bool) (xs : List Nat) (n : Int) (A : Option Addr) (c : Nat) (w : World) (ha : Mg w A c xs) (h : validB na xs = false) :
    Calls Tryd.prog 22 #[.agg #[.bool na, .slice A xs.length c], .int .i64 n] w (RetZE w 0 1) := by
  have HX := hid fun (w1 : World) (h1 : Below w.heap.size w w1) => RValid_f (ha.below h1) h
  clear ha h
  generalize xs.length = lx at *
  go_enter Tryd.func22, Tryd.ntmps22
  go_wp2_with fail
  refine (HX.out _ (by repeat (first | assumption | exact Below.refl _ _ | refine Below.alloc ?_ (by simp; try omega) _ | refine Below.drew ?_ | refine below_drewN ?_ _))).mono ?_
  rintro e w1 ⟨rfl, h1⟩
  obtain ⟨p1, p2, p3, p4, p5⟩ := box2_keep h1
  have b1 : Below w.heap.size w w1 := Below.trans (b := _) (by repeat (first | assumption | exact Below.refl _ _ | refine Below.alloc ?_ (by simp; try omega) _ | refine Below.drew ?_ | refine below_drewN ?_ _)) (h1.mono (by simp; omega))
  have k0 := p3 0
  have k1 := p3 1
  simp at k0 k1
  go_wp2
  refine bodyPost_ret (v := .tuple #[.agg #[.bool false, .slice none 0 0], .int .i64 1]) ?_ rfl ?_
  · simp [results, Tryd.results22, go_sem, k0, k1]
  · exact retZE_zero 1 (below_set (below_set b1 (by omega) _ _) (by omega) _ _)

end Go.Proofs.YtkfpcohdbbhmaaaDoor
