/- Homographies, the reference: walk of Affine. Conditions: none. -/
import Derived.Test.YtdkgbkbbbldliaaGreatZYI
import Derived.Test.YtdkgbkbbbldliaaGreatZXC
import Derived.Test.YtdkgbkbbbldliaaGreatZXG
import Derived.Test.YtdkgbkbbbldliaaGreatZYZ
import Derived.Test.YtdkgbkbbbldliaaGreatZHm20
set_option linter.unusedVariables false
set_option linter.unusedSimpArgs false
namespace Go.Proofs.YtdkgbkbbbldliaaGreat
open Go.RowKit Big
theorem QV_z (x : Rf) {w : World} (m : x.mg w) : Calls Tryz.prog 82 #[.agg #[.bool x.na, .slice x.A x.xs.length x.ca, .bool x.nb, .slice x.B x.ys.length x.cb]] w (RetB w x.v) := Xh m.m1 m.m2
theorem HRsz_z (x : Rf) {w : World} (m : x.mg w) : Calls Tryz.prog 28 #[.agg #[.bool x.na, .slice x.A x.xs.length x.ca, .bool x.nb, .slice x.B x.ys.length x.cb]] w (RetI w (x.sz : Int)) := HRsz x m
theorem enterS2 {v : World} {zs cs : List Value} {t : TypeId} {P : World → Prop} (hl : cs.length = zs.length) (H : ∀ U, Below v.heap.size v U → U.rangeAt v.heap.size 0 cs → Zn U v.heap.size → P U) : P ((v.alloc (.cells zs.toArray t)).setCells v.heap.size 0 cs) :=
 H _ (J4 (Nat.le_refl _) _ _ _ ((Below.refl _ _).alloc (Nat.le_refl _) _)) (Wi K4 Zn.new_ hl) (Zn.sets _ _ _ _ Zn.new_)
theorem Fil.set0 {w wr : World} {kp : List (Nat × List Value)} {gm : Nat} {z0 : Int} (h : Fil w kp gm [z0] wr) {z : Int} {b : Bool} {n c : Nat} {R : Option Addr} {L : List Nat} (I : Iz z b n L) (m : Mg wr R c L) :
  Fil w kp gm [z] ((wr.setCell ⟨gm, 0, none⟩ (.bool b)).setCell ⟨gm, 1, none⟩ (.slice R n c)) := h.set (j := 0) (by simp) I m
theorem Fil.cell0 {w wr : World} {kp : List (Nat × List Value)} {gm : Nat} {z : Int} (h : Fil w kp gm [z] wr) : ∃ e : ZE, e.z = z ∧ e.ok wr ∧ wr.cell? ⟨gm, 0, none⟩ = some (.bool e.b) ∧ wr.cell? ⟨gm, 1, none⟩ = some (.slice e.A e.n e.c) := by
 have := h.cell (j := 0) (by simp)
 simpa using this
theorem comZ_aff (qs : List (Int × Nat)) : comZ (qs ++ [(0, 1), (0, 1), (1, 1)]) = comZ qs := by
 rw [show qs ++ [((0 : Int), 1), (0, 1), (1, 1)] = qs ++ [(0, 1)] ++ [(0, 1)] ++ [(1, 1)] by simp, Z5, Z5, Z5]
theorem intZ_aff (qs : List (Int × Nat)) : intZ (qs ++ [(0, 1), (0, 1), (1, 1)]) = qs.map (fun f => f.1 * ((comZ qs / f.2 : Nat) : Int)) ++ [0, 0, (comZ qs : Int)] := by
 unfold intZ
 rw [comZ_aff, List.map_append]
 simp
theorem affZ_set (A : List Int) (h : A.length = 6) (C : Int) : (sofar (A ++ [0, 0, C]) 6).set 8 C = A ++ [0, 0, C] := by
 match A, h with
 | [_, _, _, _, _, _], _ => rfl
set_option maxRecDepth 100000 in
set_option maxHeartbeats 8000000 in
theorem HRAffine_g {f0 f1 f2 f3 f4 f5 : Rf} {w : World} (hm : ∀ f ∈ [f0, f1, f2, f3, f4, f5], f.mg w) :
  Calls Tryz.prog 49 #[f0.val, f1.val, f2.val, f3.val, f4.val, f5.val] w (Hn w (affE [f0, f1, f2, f3, f4, f5])) := by
 have HMa := hid fun (W : World) (h : Below w.heap.size w W) f (hf : f ∈ [f0, f1, f2, f3, f4, f5]) => (hm f hf).below h
 clear hm
 have hi24 := hid (show (Tryz.prog.info? 119).map (·.size) = some (Kc (zl [f0, f1, f2, f3, f4, f5])).toArray.size by kernel_rfl)
 simp only [Rf.val]
 go_enter Tryz.func49, Tryz.ntmps49
 go_upto_region 1 with fail
 refine enterR7 (P := fun u => Code.wp _ _ _ _ u) ?_
 intro u HB r0 r1_ r2 r3 r4 r5 r1 zn1
 have r1 : u.rangeAt (w.heap.size + 1 + 1 + 1 + 1 + 1 + 1) 0 (Kc Kj) := r1
 have s00 : u.cell? ⟨w.heap.size, 0, none⟩ = some (.bool f0.na) := r0 0 _ rfl
 have s01 : u.cell? ⟨w.heap.size, 1, none⟩ = some (.slice f0.A f0.xs.length f0.ca) := r0 1 _ rfl
 have s02 : u.cell? ⟨w.heap.size, 2, none⟩ = some (.bool f0.nb) := r0 2 _ rfl
 have s03 : u.cell? ⟨w.heap.size, 3, none⟩ = some (.slice f0.B f0.ys.length f0.cb) := r0 3 _ rfl
 have s10 : u.cell? ⟨w.heap.size + 1, 0, none⟩ = some (.bool f1.na) := r1_ 0 _ rfl
 have s11 : u.cell? ⟨w.heap.size + 1, 1, none⟩ = some (.slice f1.A f1.xs.length f1.ca) := r1_ 1 _ rfl
 have s12 : u.cell? ⟨w.heap.size + 1, 2, none⟩ = some (.bool f1.nb) := r1_ 2 _ rfl
 have s13 : u.cell? ⟨w.heap.size + 1, 3, none⟩ = some (.slice f1.B f1.ys.length f1.cb) := r1_ 3 _ rfl
 have s20 : u.cell? ⟨w.heap.size + 1 + 1, 0, none⟩ = some (.bool f2.na) := r2 0 _ rfl
 have s21 : u.cell? ⟨w.heap.size + 1 + 1, 1, none⟩ = some (.slice f2.A f2.xs.length f2.ca) := r2 1 _ rfl
 have s22 : u.cell? ⟨w.heap.size + 1 + 1, 2, none⟩ = some (.bool f2.nb) := r2 2 _ rfl
 have s23 : u.cell? ⟨w.heap.size + 1 + 1, 3, none⟩ = some (.slice f2.B f2.ys.length f2.cb) := r2 3 _ rfl
 have s30 : u.cell? ⟨w.heap.size + 1 + 1 + 1, 0, none⟩ = some (.bool f3.na) := r3 0 _ rfl
 have s31 : u.cell? ⟨w.heap.size + 1 + 1 + 1, 1, none⟩ = some (.slice f3.A f3.xs.length f3.ca) := r3 1 _ rfl
 have s32 : u.cell? ⟨w.heap.size + 1 + 1 + 1, 2, none⟩ = some (.bool f3.nb) := r3 2 _ rfl
 have s33 : u.cell? ⟨w.heap.size + 1 + 1 + 1, 3, none⟩ = some (.slice f3.B f3.ys.length f3.cb) := r3 3 _ rfl
 have s40 : u.cell? ⟨w.heap.size + 1 + 1 + 1 + 1, 0, none⟩ = some (.bool f4.na) := r4 0 _ rfl
 have s41 : u.cell? ⟨w.heap.size + 1 + 1 + 1 + 1, 1, none⟩ = some (.slice f4.A f4.xs.length f4.ca) := r4 1 _ rfl
 have s42 : u.cell? ⟨w.heap.size + 1 + 1 + 1 + 1, 2, none⟩ = some (.bool f4.nb) := r4 2 _ rfl
 have s43 : u.cell? ⟨w.heap.size + 1 + 1 + 1 + 1, 3, none⟩ = some (.slice f4.B f4.ys.length f4.cb) := r4 3 _ rfl
 have s50 : u.cell? ⟨w.heap.size + 1 + 1 + 1 + 1 + 1, 0, none⟩ = some (.bool f5.na) := r5 0 _ rfl
 have s51 : u.cell? ⟨w.heap.size + 1 + 1 + 1 + 1 + 1, 1, none⟩ = some (.slice f5.A f5.xs.length f5.ca) := r5 1 _ rfl
 have s52 : u.cell? ⟨w.heap.size + 1 + 1 + 1 + 1 + 1, 2, none⟩ = some (.bool f5.nb) := r5 2 _ rfl
 have s53 : u.cell? ⟨w.heap.size + 1 + 1 + 1 + 1 + 1, 3, none⟩ = some (.slice f5.B f5.ys.length f5.cb) := r5 3 _ rfl
 have ht6 : (u.alloc (.cells (Kc zeros12).toArray 119)).there u.heap.size 0 (Kc (zl [f0, f1, f2, f3, f4, f5])).toArray.size := by
  have h : (u.alloc (.cells (Kc zeros12).toArray 119)).there u.heap.size 0 (Kc zeros12).length := Kq K4 Zn.new_
  exact h
 have ho6 := all_oneCell_toArray (Km (zl [f0, f1, f2, f3, f4, f5]))
 go_wp2_with (first | refine wpList_store_mid (by rfl) _ _ _ (by rfl) u.heap.size 0 (Kc (zl [f0, f1, f2, f3, f4, f5])).toArray (by rfl) (by rfl) ht6 hi24.out ho6 ?_ | fail)
 have HQ := hid fun (W : World) (h : Below u.heap.size u W) => And.intro (Ke r0 h) (And.intro (Ke r1_ h) (And.intro (Ke r3 h) (Ke r4 h)))
 clear s00 s01 s02 s03 s10 s11 s12 s13 s20 s21 s22 s23 s30 s31 s32 s33 s40 s41 s42 s43 s50 s51 s52 s53 r0 r1_ r2 r3 r4 r5 ht6 ho6 hi24
 refine enterS2 (P := fun u => Code.wp _ _ _ _ u) (by rfl) ?_
 intro v hv rl zl6
 have HQ := hid fun (W : World) (h : Below v.heap.size v W) => HQ.out W (Kb hv h)
 have r1 := Ke r1 hv
 have zn1 := zn1.below hv
 have HB := Kb HB hv
 have hlt := zl6.lt
 obtain ⟨gl, hgl⟩ : ∃ g, g = u.heap.size := ⟨_, rfl⟩
 rw [← hgl] at rl zl6 hlt ⊢
 have hZL := hid zl6
 clear hgl hv zl6
 obtain ⟨fs, hfs⟩ : ∃ fs, fs = [f0, f1, f2, f3, f4, f5] := ⟨_, rfl⟩
 have h6 : fs.length = 6 := by rw [hfs]; rfl
 have hH := hid HMa.out
 rw [← hfs] at rl hH ⊢
 have hfs := hid hfs
 have h6 := hid h6
 have RL := hid rl
 have R1 := hid (And.intro r1 zn1)
 have hBv := Below.refl v.heap.size v
 clear rl r1 zn1
 go_wp2
 go_loopw [15, 16] (fun s15 s16 wr => ∃ j sz : Nat, j ≤ 6 ∧ s16 = .int .i64 j ∧ s15 = .int .i64 sz ∧ Below v.heap.size v wr ∧ Hid ((fs.take j).all Rf.v = true) ∧ Hid (∀ k, sz ≤ k ↔ ∀ f ∈ fs.take j, f.sz ≤ k)) (fun _ s16 _ => 6 - (intOf s16).toNat)
 case atStart => exact ⟨0, 0, by omega, rfl, rfl, hBv, rfl, by intro k; simp⟩
 case round =>
  obtain ⟨j, sz, hj, rfl, rfl, hbl, hv, hs⟩ := hrel
  clear hBv
  have HBr := Kb HB hbl
  by_cases hj6 : j < 6
  ·have hjf : j < fs.length := by rw [h6.out]; exact hj6
   have hm := hH.out wr HBr fs[j] (List.getElem_mem hjf)
   have hAt := rf_at (Ke RL.out hbl) (hH.out wr HBr) j hjf
   have hji : (j : Int) < 6 := by omega
   have HV := hid fun (W : World) (h : Below wr.heap.size wr W) => QV_z fs[j] (hm.below h)
   have HZ := hid fun (W : World) (h : Below wr.heap.size wr W) => HRsz_z fs[j] (hm.below h)
   have hall : Hid (fs[j].v = false → affE fs = (List.replicate 18 0, 1)) := by
    intro h
    have : chkZ 40 fs = 1 := by
     unfold chkZ
     rw [if_neg]
     rw [Bool.not_eq_true, List.all_eq_false]
     exact ⟨fs[j], List.getElem_mem hjf, by simp [h]⟩
    unfold affE
    rw [if_neg (by rw [this]; decide), this]
   have hnv : Hid (fs[j].v = true → (fs.take (j + 1)).all Rf.v = true) := by
    intro h
    rw [List.take_succ_eq_append_getElem hjf, List.all_append, hv.out]; simp [h]
   have hns : Hid (∀ k, max sz fs[j].sz ≤ k ↔ ∀ f ∈ fs.take (j + 1), f.sz ≤ k) := by
    intro k
    rw [List.take_succ_eq_append_getElem hjf, Nat.max_le, hs.out k]
    constructor
    ·intro h f hf
     rw [List.mem_append, List.mem_singleton] at hf
     rcases hf with hf | rfl
     ·exact h.1 f hf
     ·exact h.2
    ·intro h
     exact ⟨fun f hf => h f (List.mem_append_left _ hf), h _ (List.mem_append_right _ (List.mem_singleton_self _))⟩
   clear hm hv hs
   obtain ⟨c0, c1, c2, c3, _, _⟩ := hAt
   generalize fs[j] = f at *
   generalize f.v = tv at *
   generalize f.sz = zf at *
   have lt0 := Kd c0
   obtain ⟨r1, zn1⟩ := R1.out
   have r1 := Ke r1 hbl
   have zn1 := zn1.below hbl
   have hBw := Below.refl wr.heap.size wr
   cases tv
   ·have HR := hid (hall.out rfl)
    clear hall hnv hns HZ
    go_wp2_with fail
    refine (HV.out wr hBw).mono ?_
    rintro e x1 ⟨rfl, h1⟩
    have r1 := Ke r1 h1
    have zn1 := zn1.below h1
    have HB := Kb HBr h1
    clear c0 c1 c2 c3
    go_upto_region 7 with fail
    have ht := Kq r1 zn1
    have ho := all_oneCell_toArray (Km Kj)
    obtain ⟨d32, u32, row32⟩ := T32u
    obtain ⟨G1, G2, G3, G4⟩ := Ju (w := w) (l := Kj) (cs := Kj) u32 row32 T32i HB (by omega) r1 zn1 rfl (fun e he => by rw [List.eq_of_mem_replicate he]; exact ZE.zero_ok _)
    have HF := hid (And.intro G3 G4)
    clear G1 G3 G4
    go_wp2_with (first | refine wpList_store_mid (by rfl) _ _ _ (by rfl) (w.heap.size + 1 + 1 + 1 + 1 + 1 + 1) 0 (Kc Kj).toArray (by rfl) (by rfl) ht T32i ho ?_ | fail)
    refine bodyPost_ret (v := .tuple #[.agg (Kc Kj).toArray, .int .i64 1]) ?_ rfl ?_
    ·simp [results, Tryz.results49, Sem.run_bind, asAddr, G2]
    ·rw [HR.out]
     exact ⟨Kj, rfl, rfl, HF.out.2, HF.out.1⟩
   ·clear hall r1 zn1
    go_wp2_with fail
    refine (HV.out wr hBw).mono ?_
    rintro e x1 ⟨rfl, h1⟩
    have c0 := Ka h1 c0
    have c1 := Ka h1 c1
    have c2 := Ka h1 c2
    have c3 := Ka h1 c3
    have hsx := h1.size
    go_wp2_with fail
    refine (HZ.out x1 h1).mono ?_
    rintro e x2 ⟨rfl, h2⟩
    have hb2 := Kb hbl (Kb h1 h2)
    have hN := hid (hnv.out (by trivial))
    clear hnv
    go_wp2
    go_roundw
    case rel => exact ⟨j + 1, max sz zf, by omega, by go_num, by simp; omega, hb2, hN.out, hns.out⟩
    case measure => simp [intOf]; omega
  ·obtain rfl : j = 6 := by omega
   rw [← h6.out, List.take_length] at hv hs
   have hck : Hid (chkZ 40 fs = if sz ≤ 40 then 0 else 4) := by
    unfold Hid chkZ
    rw [if_pos hv.out]
    have h := hs.out 40
    by_cases hz : sz ≤ 40
    ·rw [if_pos hz, if_pos]
     exact List.all_eq_true.2 fun f hf => decide_eq_true (h.1 hz f hf)
    ·rw [if_neg hz, if_neg]
     intro hh
     exact hz (h.2 fun f hf => of_decide_eq_true (List.all_eq_true.1 hh f hf))
   obtain ⟨r1, zn1⟩ := R1.out
   have r1 := Ke r1 hbl
   have zn1 := zn1.below hbl
   have HB := HBr
   clear HBr hv hs
   by_cases hz : sz ≤ 40
   ·have hc0 : chkZ 40 fs = 0 := by rw [hck.out, if_pos hz]
    have hAF := hid (show affE fs = (if (affX (fs.map Rf.f)).1 = (affX (fs.map Rf.f)).2 then (List.replicate 18 0, 24) else resZ (intZ (fs.map Rf.f ++ [(0, 1), (0, 1), (1, 1)]))) from by unfold affE; rw [if_pos hc0])
    have hzi : (sz : Int) ≤ 40 := by omega
    obtain ⟨k0_, k1_, k3_, k4_⟩ := HQ.out wr hbl
    rw [hfs.out] at hAF hc0
    have HL := hid fun (W : World) (h : Below wr.heap.size wr W) => Ke (Ke RL.out hbl) h
    rw [hfs.out] at HL
    clear HQ hck hH RL
    obtain ⟨a0, A0, x0, k0, b0, B0, y0, l0⟩ := f0
    obtain ⟨a1, A1, x1, k1, b1, B1, y1, l1⟩ := f1
    obtain ⟨a2, A2, x2, k2, b2, B2, y2, l2⟩ := f2
    obtain ⟨a3, A3, x3, k3, b3, B3, y3, l3⟩ := f3
    obtain ⟨a4, A4, x4, k4, b4, B4, y4, l4⟩ := f4
    obtain ⟨a5, A5, x5, k5, b5, B5, y5, l5⟩ := f5
    dsimp only at k0_ k1_ k3_ k4_
    have hmu := HMa.out wr HB
    have hbz := G7 (k := 1280) hc0 (by omega) hmu
    obtain ⟨hv, _⟩ := J8 hc0
    obtain ⟨ok1, z1⟩ := Wy _ hv hmu
    have oE0 := ok1 ⟨sg a0 (val x0), a0, x0.length, x0, A0, k0⟩ (by simp [zl, Rf.ze])
    have oD0 := ok1 ⟨sg b0 (val y0), b0, y0.length, y0, B0, l0⟩ (by simp [zl, Rf.ze])
    have bE0 : Bz 1280 (sg a0 (val x0)) := (hbz (sg a0 (val x0), val y0) (by simp [Rf.f])).1.2.1
    have bD0 : Bz 1280 ((val y0 : Nat) : Int) := Q9 (hbz (sg a0 (val x0), val y0) (by simp [Rf.f])).1.2.2
    have oE1 := ok1 ⟨sg a1 (val x1), a1, x1.length, x1, A1, k1⟩ (by simp [zl, Rf.ze])
    have oD1 := ok1 ⟨sg b1 (val y1), b1, y1.length, y1, B1, l1⟩ (by simp [zl, Rf.ze])
    have bE1 : Bz 1280 (sg a1 (val x1)) := (hbz (sg a1 (val x1), val y1) (by simp [Rf.f])).1.2.1
    have bD1 : Bz 1280 ((val y1 : Nat) : Int) := Q9 (hbz (sg a1 (val x1), val y1) (by simp [Rf.f])).1.2.2
    have oE3 := ok1 ⟨sg a3 (val x3), a3, x3.length, x3, A3, k3⟩ (by simp [zl, Rf.ze])
    have oD3 := ok1 ⟨sg b3 (val y3), b3, y3.length, y3, B3, l3⟩ (by simp [zl, Rf.ze])
    have bE3 : Bz 1280 (sg a3 (val x3)) := (hbz (sg a3 (val x3), val y3) (by simp [Rf.f])).1.2.1
    have bD3 : Bz 1280 ((val y3 : Nat) : Int) := Q9 (hbz (sg a3 (val x3), val y3) (by simp [Rf.f])).1.2.2
    have oE4 := ok1 ⟨sg a4 (val x4), a4, x4.length, x4, A4, k4⟩ (by simp [zl, Rf.ze])
    have oD4 := ok1 ⟨sg b4 (val y4), b4, y4.length, y4, B4, l4⟩ (by simp [zl, Rf.ze])
    have bE4 : Bz 1280 (sg a4 (val x4)) := (hbz (sg a4 (val x4), val y4) (by simp [Rf.f])).1.2.1
    have bD4 : Bz 1280 ((val y4 : Nat) : Int) := Q9 (hbz (sg a4 (val x4), val y4) (by simp [Rf.f])).1.2.2
    have hz : [sg a0 (val x0), sg b0 (val y0), sg a1 (val x1), sg b1 (val y1), sg a2 (val x2), sg b2 (val y2), sg a3 (val x3), sg b3 (val y3), sg a4 (val x4), sg b4 (val y4), sg a5 (val x5), sg b5 (val y5)] = [sg a0 (val x0), ((val y0 : Nat) : Int), sg a1 (val x1), ((val y1 : Nat) : Int), sg a2 (val x2), ((val y2 : Nat) : Int), sg a3 (val x3), ((val y3 : Nat) : Int), sg a4 (val x4), ((val y4 : Nat) : Int), sg a5 (val x5), ((val y5 : Nat) : Int)] := z1
    simp only [List.cons.injEq, and_true, true_and] at hz
    obtain ⟨hD0, hD1, hD2, hD3, hD4, hD5⟩ := hz
    rw [← hD0] at bD0
    rw [← hD1] at bD1
    rw [← hD3] at bD3
    rw [← hD4] at bD4
    have hX : (affX (([⟨a0, A0, x0, k0, b0, B0, y0, l0⟩, ⟨a1, A1, x1, k1, b1, B1, y1, l1⟩, ⟨a2, A2, x2, k2, b2, B2, y2, l2⟩, ⟨a3, A3, x3, k3, b3, B3, y3, l3⟩, ⟨a4, A4, x4, k4, b4, B4, y4, l4⟩, ⟨a5, A5, x5, k5, b5, B5, y5, l5⟩] : List Rf).map Rf.f)).1 = sg a0 (val x0) * sg a4 (val x4) * (sg b1 (val y1) * sg b3 (val y3)) := by rw [hD1, hD3]; rfl
    have hY : (affX (([⟨a0, A0, x0, k0, b0, B0, y0, l0⟩, ⟨a1, A1, x1, k1, b1, B1, y1, l1⟩, ⟨a2, A2, x2, k2, b2, B2, y2, l2⟩, ⟨a3, A3, x3, k3, b3, B3, y3, l3⟩, ⟨a4, A4, x4, k4, b4, B4, y4, l4⟩, ⟨a5, A5, x5, k5, b5, B5, y5, l5⟩] : List Rf).map Rf.f)).2 = sg a1 (val x1) * sg a3 (val x3) * (sg b0 (val y0) * sg b4 (val y4)) := by rw [hD0, hD4]; rfl
    rw [hX, hY] at hAF
    have hLst := hid (And.intro ok1 (And.intro z1 hbz))
    clear hX hY hD0 hD1 hD2 hD3 hD4 hD5 ok1 z1 hbz hv hmu
    generalize hN0 : sg a0 (val x0) = N0 at oE0 bE0 hAF
    generalize hM0 : sg b0 (val y0) = M0 at oD0 bD0 hAF
    generalize hN1 : sg a1 (val x1) = N1 at oE1 bE1 hAF
    generalize hM1 : sg b1 (val y1) = M1 at oD1 bD1 hAF
    generalize hN3 : sg a3 (val x3) = N3 at oE3 bE3 hAF
    generalize hM3 : sg b3 (val y3) = M3 at oD3 bD3 hAF
    generalize hN4 : sg a4 (val x4) = N4 at oE4 bE4 hAF
    generalize hM4 : sg b4 (val y4) = M4 at oD4 bD4 hAF
    clear hN0 hM0 hN1 hM1 hN3 hM3 hN4 hM4
    obtain ⟨pX, qX, LX, IX⟩ := iz (N0 * N4)
    obtain ⟨pX', qX', LX', IX'⟩ := iz (M1 * M3)
    obtain ⟨pXt, qXt, LXt, IXt⟩ := iz (N0 * N4 * (M1 * M3))
    have HX1 := hid fun (W : World) (h : Below wr.heap.size wr W) => Jy (w := W) oE0.i oE4.i IX.out (oE0.m.below h) (oE4.m.below h) (bE0.ft (by omega)) (bE4.ft (by omega)) ((bE0.mul bE4).ft (by omega)) rfl
    have HX2 := hid fun (W : World) (h : Below wr.heap.size wr W) => Jy (w := W) oD1.i oD3.i IX'.out (oD1.m.below h) (oD3.m.below h) (bD1.ft (by omega)) (bD3.ft (by omega)) ((bD1.mul bD3).ft (by omega)) rfl
    have HX3 := hid fun (W : World) (R Q : Option Addr) (c d : Nat) (m1 : Mg W R c LX) (m2 : Mg W Q d LX') => Jy (w := W) IX.out IX'.out IXt.out m1 m2 ((bE0.mul bE4).ft (by omega)) ((bD1.mul bD3).ft (by omega)) (((bE0.mul bE4).mul (bD1.mul bD3)).ft (by omega)) rfl
    obtain ⟨pY, qY, LY, IY⟩ := iz (N1 * N3)
    obtain ⟨pY', qY', LY', IY'⟩ := iz (M0 * M4)
    obtain ⟨pYt, qYt, LYt, IYt⟩ := iz (N1 * N3 * (M0 * M4))
    have HY1 := hid fun (W : World) (h : Below wr.heap.size wr W) => Jy (w := W) oE1.i oE3.i IY.out (oE1.m.below h) (oE3.m.below h) (bE1.ft (by omega)) (bE3.ft (by omega)) ((bE1.mul bE3).ft (by omega)) rfl
    have HY2 := hid fun (W : World) (h : Below wr.heap.size wr W) => Jy (w := W) oD0.i oD4.i IY'.out (oD0.m.below h) (oD4.m.below h) (bD0.ft (by omega)) (bD4.ft (by omega)) ((bD0.mul bD4).ft (by omega)) rfl
    have HY3 := hid fun (W : World) (R Q : Option Addr) (c d : Nat) (m1 : Mg W R c LY) (m2 : Mg W Q d LY') => Jy (w := W) IY.out IY'.out IYt.out m1 m2 ((bE1.mul bE3).ft (by omega)) ((bD0.mul bD4).ft (by omega)) (((bE1.mul bE3).mul (bD0.mul bD4)).ft (by omega)) rfl
    have bX := (((bE0.mul bE4).mul (bD1.mul bD3)).ft (by omega))
    have bY := (((bE1.mul bE3).mul (bD0.mul bD4)).ft (by omega))
    have bZ := ((bE0.mul bE4).mul (bD1.mul bD3)).sub ((bE1.mul bE3).mul (bD0.mul bD4))
    clear oE0 oD0 bE0 bD0 oE1 oD1 bE1 bD1 oE3 oD3 bE3 bD3 oE4 oD4 bE4 bD4
    have s00 : wr.cell? ⟨w.heap.size, 0, none⟩ = some (.bool a0) := k0_ 0 _ rfl
    have s01 : wr.cell? ⟨w.heap.size, 1, none⟩ = some (.slice A0 x0.length k0) := k0_ 1 _ rfl
    have s02 : wr.cell? ⟨w.heap.size, 2, none⟩ = some (.bool b0) := k0_ 2 _ rfl
    have s03 : wr.cell? ⟨w.heap.size, 3, none⟩ = some (.slice B0 y0.length l0) := k0_ 3 _ rfl
    have s10 : wr.cell? ⟨w.heap.size + 1, 0, none⟩ = some (.bool a1) := k1_ 0 _ rfl
    have s11 : wr.cell? ⟨w.heap.size + 1, 1, none⟩ = some (.slice A1 x1.length k1) := k1_ 1 _ rfl
    have s12 : wr.cell? ⟨w.heap.size + 1, 2, none⟩ = some (.bool b1) := k1_ 2 _ rfl
    have s13 : wr.cell? ⟨w.heap.size + 1, 3, none⟩ = some (.slice B1 y1.length l1) := k1_ 3 _ rfl
    have s30 : wr.cell? ⟨w.heap.size + 1 + 1 + 1, 0, none⟩ = some (.bool a3) := k3_ 0 _ rfl
    have s31 : wr.cell? ⟨w.heap.size + 1 + 1 + 1, 1, none⟩ = some (.slice A3 x3.length k3) := k3_ 1 _ rfl
    have s32 : wr.cell? ⟨w.heap.size + 1 + 1 + 1, 2, none⟩ = some (.bool b3) := k3_ 2 _ rfl
    have s33 : wr.cell? ⟨w.heap.size + 1 + 1 + 1, 3, none⟩ = some (.slice B3 y3.length l3) := k3_ 3 _ rfl
    have s40 : wr.cell? ⟨w.heap.size + 1 + 1 + 1 + 1, 0, none⟩ = some (.bool a4) := k4_ 0 _ rfl
    have s41 : wr.cell? ⟨w.heap.size + 1 + 1 + 1 + 1, 1, none⟩ = some (.slice A4 x4.length k4) := k4_ 1 _ rfl
    have s42 : wr.cell? ⟨w.heap.size + 1 + 1 + 1 + 1, 2, none⟩ = some (.bool b4) := k4_ 2 _ rfl
    have s43 : wr.cell? ⟨w.heap.size + 1 + 1 + 1 + 1, 3, none⟩ = some (.slice B4 y4.length l4) := k4_ 3 _ rfl
    generalize N0 * N4 * (M1 * M3) = VX at *
    generalize N1 * N3 * (M0 * M4) = VY at *
    obtain ⟨pZ, qZ, LZ, IZ⟩ := iz (VX - VY)
    have HSb := hid fun (W : World) (R Q : Option Addr) (c d : Nat) (m1 : Mg W R c LXt) (m2 : Mg W Q d LYt) => HRsub_g (w := W) IXt.out IYt.out IZ.out m1 m2 bX bY (bZ.ft (by omega)) rfl
    obtain ⟨tz, htz⟩ : ∃ t, decide (qZ = 0) = t := ⟨_, rfl⟩
    have HZr := hid fun (W : World) (R : Option Addr) (c : Nat) => Xz (w := W) (b := pZ) (n := qZ) (c := c) (A := R) tz htz
    have hzz : Hid (tz = true ↔ VX = VY) := by
     unfold Hid
     rw [← htz, decide_eq_true_eq, IZ.out.zero]; omega
    have hBw := Below.refl wr.heap.size wr
    clear bX bY bZ htz k0_ k1_ k3_ k4_
    go_upto_region 11 with fail
    refine wp_region_held_drew (S := fun w' => (w'.cell? ⟨w.heap.size, 0, none⟩ = some (.bool a0) ∧ w'.cell? ⟨w.heap.size, 1, none⟩ = some (.slice A0 x0.length k0)) ∧ (w'.cell? ⟨w.heap.size + 1 + 1 + 1 + 1, 0, none⟩ = some (.bool a4) ∧ w'.cell? ⟨w.heap.size + 1 + 1 + 1 + 1, 1, none⟩ = some (.slice A4 x4.length k4)) ∧ (w'.cell? ⟨w.heap.size + 1, 2, none⟩ = some (.bool b1) ∧ w'.cell? ⟨w.heap.size + 1, 3, none⟩ = some (.slice B1 y1.length l1)) ∧ (w'.cell? ⟨w.heap.size + 1 + 1 + 1, 2, none⟩ = some (.bool b3) ∧ w'.cell? ⟨w.heap.size + 1 + 1 + 1, 3, none⟩ = some (.slice B3 y3.length l3)) ∧ (w'.cell? ⟨w.heap.size + 1, 0, none⟩ = some (.bool a1) ∧ w'.cell? ⟨w.heap.size + 1, 1, none⟩ = some (.slice A1 x1.length k1)) ∧ (w'.cell? ⟨w.heap.size + 1 + 1 + 1, 0, none⟩ = some (.bool a3) ∧ w'.cell? ⟨w.heap.size + 1 + 1 + 1, 1, none⟩ = some (.slice A3 x3.length k3)) ∧ (w'.cell? ⟨w.heap.size, 2, none⟩ = some (.bool b0) ∧ w'.cell? ⟨w.heap.size, 3, none⟩ = some (.slice B0 y0.length l0)) ∧ (w'.cell? ⟨w.heap.size + 1 + 1 + 1 + 1, 2, none⟩ = some (.bool b4) ∧ w'.cell? ⟨w.heap.size + 1 + 1 + 1 + 1, 3, none⟩ = some (.slice B4 y4.length l4))) (by kernel_rfl) ?_ (fun hHeld => ?_)
    ·exact ⟨⟨s00, s01⟩, ⟨s40, s41⟩, ⟨s12, s13⟩, ⟨s32, s33⟩, ⟨s10, s11⟩, ⟨s30, s31⟩, ⟨s02, s03⟩, ⟨s42, s43⟩⟩
    refine' TKa 0 ?_
    refine' TKa 1 ?_
    refine' TKa 2 ?_
    refine' TKa 3 ?_
    refine' TKa 5 ?_
    refine' TKa 6 ?_
    refine' TKa 7 ?_
    refine' TKa 8 ?_
    refine' TKa 11 ?_
    refine' TKa 12 ?_
    refine' TKa 13 ?_
    refine' TKa 14 ?_
    refine' TKa 16 ?_
    refine' TKa 17 ?_
    refine' TKa 18 ?_
    refine' TKa 19 ?_
    refine BRa 4 (fun K hK => ?_)
    go_simp
    (go_at_call 79; (with_reducible refine (HX1.out _ BG).mono ?_); rintro e z1 ⟨R1, d1, rfl, n1, hq_⟩; have qz1 : Below wr.heap.size wr z1 := Kb BG hq_)
    (try go_wp2_with fail)
    refine' HKa hK (by (first | ((try dsimp only); repeat' (first | with_reducible assumption | apply And.intro | (with_reducible refine Kk ?_) | (with_reducible refine Kn ?_) | (with_reducible refine Kh (by omega) ?_) | (with_reducible refine Kp (by omega) ?_) | (with_reducible refine Ka (W := wr) ?_ ?_) | fail)))) (fun hHeld => ?_)
    clear hK K
    refine BRa 9 (fun K hK => ?_)
    go_simp
    (go_at_call 79; (with_reducible refine (HX2.out _ BG).mono ?_); rintro e z2 ⟨R2, d2, rfl, n2, hq_⟩; have qz2 : Below wr.heap.size wr z2 := Kb qz1 hq_; have n1 := n1.below hq_)
    (try go_wp2_with fail)
    refine' HKa hK (by (first | ((try dsimp only); repeat' (first | with_reducible assumption | apply And.intro | (with_reducible refine Kk ?_) | (with_reducible refine Kn ?_) | (with_reducible refine Kh (by omega) ?_) | (with_reducible refine Kp (by omega) ?_) | (with_reducible refine Ka (W := wr) ?_ ?_) | fail)))) (fun hHeld => ?_)
    clear hK K
    refine BRa 10 (fun K hK => ?_)
    go_simp
    (go_at_call 79; (with_reducible refine (HX3.out _ _ _ _ _ n1 n2).mono ?_); rintro e z3 ⟨R3, d3, rfl, n3, hq_⟩; have qz3 : Below wr.heap.size wr z3 := Kb qz2 hq_)
    (try go_wp2_with fail)
    refine' HKa hK (by (first | ((try dsimp only); repeat' (first | with_reducible assumption | apply And.intro | (with_reducible refine Kk ?_) | (with_reducible refine Kn ?_) | (with_reducible refine Kh (by omega) ?_) | (with_reducible refine Kp (by omega) ?_) | (with_reducible refine Ka (W := wr) ?_ ?_) | fail)))) (fun hHeld => ?_)
    clear hK K
    refine BRa 15 (fun K hK => ?_)
    go_simp
    (go_at_call 79; (with_reducible refine (HY1.out _ BG).mono ?_); rintro e z4 ⟨R4, d4, rfl, n4, hq_⟩; have qz4 : Below wr.heap.size wr z4 := Kb qz3 hq_; have n3 := n3.below hq_)
    (try go_wp2_with fail)
    refine' HKa hK (by (first | ((try dsimp only); repeat' (first | with_reducible assumption | apply And.intro | (with_reducible refine Kk ?_) | (with_reducible refine Kn ?_) | (with_reducible refine Kh (by omega) ?_) | (with_reducible refine Kp (by omega) ?_) | (with_reducible refine Ka (W := wr) ?_ ?_) | fail)))) (fun hHeld => ?_)
    clear hK K
    refine BRa 20 (fun K hK => ?_)
    go_simp
    (go_at_call 79; (with_reducible refine (HY2.out _ BG).mono ?_); rintro e z5 ⟨R5, d5, rfl, n5, hq_⟩; have qz5 : Below wr.heap.size wr z5 := Kb qz4 hq_; have n3 := n3.below hq_; have n4 := n4.below hq_)
    (try go_wp2_with fail)
    refine' HKa hK (by (first | ((try dsimp only); repeat' (first | with_reducible assumption | apply And.intro | (with_reducible refine Kk ?_) | (with_reducible refine Kn ?_) | (with_reducible refine Kh (by omega) ?_) | (with_reducible refine Kp (by omega) ?_) | (with_reducible refine Ka (W := wr) ?_ ?_) | fail)))) (fun hHeld => ?_)
    clear hK K
    refine BRa 21 (fun K hK => ?_)
    go_simp
    (go_at_call 79; (with_reducible refine (HY3.out _ _ _ _ _ n4 n5).mono ?_); rintro e z6 ⟨R6, d6, rfl, n6, hq_⟩; have qz6 : Below wr.heap.size wr z6 := Kb qz5 hq_; have n3 := n3.below hq_)
    (try go_wp2_with fail)
    refine' HKa hK (by (first | ((try dsimp only); repeat' (first | with_reducible assumption | apply And.intro | (with_reducible refine Kk ?_) | (with_reducible refine Kn ?_) | (with_reducible refine Kh (by omega) ?_) | (with_reducible refine Kp (by omega) ?_) | (with_reducible refine Ka (W := wr) ?_ ?_) | fail)))) (fun hHeld => ?_)
    clear hK K
    refine BRa 22 (fun K hK => ?_)
    go_simp
    (go_at_call 83; (with_reducible refine (HSb.out _ _ _ _ _ n3 n6).mono ?_); rintro e z7 ⟨R7, d7, rfl, n7, hq_⟩; have qz7 : Below wr.heap.size wr z7 := Kb qz6 hq_)
    (try go_wp2_with fail)
    refine' HKa hK (by (first | ((try dsimp only); repeat' (first | with_reducible assumption | apply And.intro | (with_reducible refine Kk ?_) | (with_reducible refine Kn ?_) | (with_reducible refine Kh (by omega) ?_) | (with_reducible refine Kp (by omega) ?_) | (with_reducible refine Ka (W := wr) ?_ ?_) | fail)))) (fun hHeld => ?_)
    clear hK K
    refine BRa 23 (fun K hK => ?_)
    go_simp
    (go_at_call 80; (with_reducible refine (HZr.out _ _ _).mono ?_); rintro e z8 ⟨rfl, hq_⟩; have qz8 : Below wr.heap.size wr z8 := Kb qz7 hq_)
    (try go_wp2_with fail)
    refine' HKa hK (by (first | ((try dsimp only); repeat' (first | with_reducible assumption | apply And.intro | (with_reducible refine Kk ?_) | (with_reducible refine Kn ?_) | (with_reducible refine Kh (by omega) ?_) | (with_reducible refine Kp (by omega) ?_) | (with_reducible refine Ka (W := wr) ?_ ?_) | fail)))) (fun hHeld => ?_)
    clear hK K
    refine wpAnyH_done (by kernel_rfl) ?_ _
    have r1 := Ke r1 qz8
    have zn1 := zn1.below qz8
    have HB := Kb HB qz8
    clear HX1 HX2 HX3 HY1 HY2 HY3 HSb HZr n1 n2 n3 n4 n5 n6 n7 hHeld
    cases tz
    ·have hne : VX ≠ VY := fun h => by have := hzz.out.2 h; simp at this
     have HR := hAF.out
     rw [if_neg hne] at HR
     have HR := hid HR
     clear hAF hzz
     obtain ⟨I1b, I1n, I1L, I1⟩ := iz 1
     have HFI := hid fun (w1 : World) => Xi (w := w1) I1.out (by omega) (by omega)
     go_wp2_with fail
     refine (HFI.out _).mono ?_
     rintro e yA ⟨R1, d1, rfl, m1, h1⟩
     have hsz_ := Nat.le_trans hbl.size (Nat.le_trans qz8.size h1.size)
     have hwy := hid (Nat.le_trans qz8.size h1.size)
     have hlw := Nat.lt_of_lt_of_le zn1.lt h1.size
     go_upto_region 14 with fail
     refine Qh (P := fun u => Code.wp _ _ _ _ u) ?_
     intro yB hv2 q0 q1 zq hsz2
     have hq2 := Kb h1 hv2
     have r1 := Ke r1 hq2
     have zn1 := zn1.below hq2
     have HB := Kb HB hq2
     have qyB := Kb qz8 hq2
     have m1 := m1.below hv2
     have hzq := zq.lt
     clear hsz2 h1 hv2 hq2 HFI
     have rL := HL.out yB qyB
     have hF : Fil w [(gl, Kc (zl [⟨a0, A0, x0, k0, b0, B0, y0, l0⟩, ⟨a1, A1, x1, k1, b1, B1, y1, l1⟩, ⟨a2, A2, x2, k2, b2, B2, y2, l2⟩, ⟨a3, A3, x3, k3, b3, B3, y3, l3⟩, ⟨a4, A4, x4, k4, b4, B4, y4, l4⟩, ⟨a5, A5, x5, k5, b5, B5, y5, l5⟩])), (w.heap.size + 1 + 1 + 1 + 1 + 1 + 1, Kc Kj)] yA.heap.size [1] yB := ⟨HB, by
      intro p hp
      simp only [List.mem_cons, List.not_mem_nil, or_false] at hp
      rcases hp with rfl | rfl
      ·exact ⟨rL, hZL.out.below (Kb hbl qyB), by dsimp only; omega⟩
      ·exact ⟨r1, zn1, by dsimp only; omega⟩, zq, by have := HB.size; omega, [⟨1, I1b, I1n, I1L, R1, d1⟩], rng_two q0 q1, by
      intro e he
      rw [List.mem_singleton] at he
      subst he
      exact ⟨I1.out, m1⟩, rfl⟩
     obtain ⟨ok1, z1, hbz⟩ := hLst.out
     have HOk := hid fun (W : World) (h : Below wr.heap.size wr W) e he => (ok1 e he).below h
     obtain ⟨gs, hgs⟩ : ∃ gs : List Rf, gs = [⟨a0, A0, x0, k0, b0, B0, y0, l0⟩, ⟨a1, A1, x1, k1, b1, B1, y1, l1⟩, ⟨a2, A2, x2, k2, b2, B2, y2, l2⟩, ⟨a3, A3, x3, k3, b3, B3, y3, l3⟩, ⟨a4, A4, x4, k4, b4, B4, y4, l4⟩, ⟨a5, A5, x5, k5, b5, B5, y5, l5⟩] := ⟨_, rfl⟩
     have hg6 : gs.length = 6 := by rw [hgs]; rfl
     rw [← hgs] at hF HOk z1 hbz HR
     have hzf := z1
     have hqb := hbz
     obtain ⟨qs, hqs⟩ : ∃ q, q = gs.map Rf.f := ⟨_, rfl⟩
     have hq6 : qs.length = 6 := by rw [hqs, List.length_map, hg6]
     have hgl12 : (zl gs).length = 12 := by rw [Ky, hg6]
     rw [← hqs] at hzf hqb HR
     rw [intZ_aff] at HR
     have hbC := Qe (k := 1280) (fs := qs) (fun f hf => (hqb f hf).1.2.2) 6
     rw [List.take_of_length_le (by omega), hq6] at hbC
     have hdv := Vw qs
     have hzb := Hz (k := 1280) (l := qs) (fun f hf => (hqb f hf).1.2)
     rw [hq6] at hzb
     replace HR := hid HR
     have hF' : Fil w [(gl, Kc (zl gs)), (w.heap.size + 1 + 1 + 1 + 1 + 1 + 1, Kc Kj)] yA.heap.size [((comZ (qs.take 0) : Nat) : Int)] yB := hF
     obtain ⟨gm, hgm⟩ : ∃ g, g = yA.heap.size := ⟨_, rfl⟩
     rw [← hgm] at hF' hwy ⊢
     have hgB := qyB
     have hgsH := hid hgs
     clear hF hgm z1 hbz hgs hqs m1 q0 q1 zq hzq r1 zn1 HB rL HL hZL qyB hLst HMa hlt hsz_ hlw
     generalize wr = V0 at *
     go_wp2
     go_loopw [18] (fun s18 wr => ∃ j : Nat, j ≤ 6 ∧ s18 = .int .i64 j ∧ Fil w [(gl, Kc (zl gs)), (w.heap.size + 1 + 1 + 1 + 1 + 1 + 1, Kc Kj)] gm [((comZ (qs.take j) : Nat) : Int)] wr ∧ Below V0.heap.size V0 wr) (fun s18 _ => 6 - (intOf s18).toNat)
     case atStart => exact ⟨0, by omega, rfl, hF', hgB⟩
     case round =>
      obtain ⟨j, hj, rfl, hS, hbv⟩ := hrel
      clear hF' hgB
      by_cases h6j : j < 6
      ·have hj2 : j < qs.length := by omega
       have h6i : (j : Int) < 6 := by omega
       obtain ⟨g1, g2, g3, g4⟩ := frZ_at hzf j hj2
       have hoq := HOk.out wr hbv _ (List.getElem_mem g2)
       obtain ⟨kl, _, nl⟩ := hS.k (gl, Kc (zl gs)) (by simp)
       dsimp only at kl nl
       obtain ⟨x2, x3⟩ := Jn kl g2
       rw [show (2 * j + 1) * 2 = j * 4 + 2 by omega] at x2 x3
       obtain ⟨ed, hd1, hd2, k0, k1⟩ := hS.cell0
       have hcn := U8 qs j hj2
       have hbC1 := Qe (k := 1280) (fs := qs) (fun f hf => (hqb f hf).1.2.2) j
       have hbC2 := Qe (k := 1280) (fs := qs) (fun f hf => (hqb f hf).1.2.2) (j + 1)
       rw [hq6] at hbC1 hbC2
       have hpC := Y4 (qs.take j) fun f hf => (hqb f (List.mem_of_mem_take hf)).1.1
       have hpD := (hqb qs[j] (List.getElem_mem hj2)).1.1
       have hbD := Q9 (hqb qs[j] (List.getElem_mem hj2)).1.2.2
       rw [← g4] at hbD
       generalize hC1 : comZ (qs.take (j + 1)) = C1 at *
       generalize comZ (qs.take j) = C at *
       generalize (zl gs)[2 * j + 1] = q at *
       generalize qs[j].2 = D at *
       have hG0 : 0 < Nat.gcd C D := Nat.gcd_pos_of_pos_left _ hpC
       have hGd := Nat.gcd_dvd_right C D
       have hGb : Bz 1280 ((Nat.gcd C D : Nat) : Int) := by
        have := Nat.le_of_dvd hpD hGd
        unfold Bz at hbD ⊢
        rw [g4, Int.natAbs_natCast] at hbD
        rw [Int.natAbs_natCast]
        omega
       have hQb : Bz 1280 ((D / Nat.gcd C D : Nat) : Int) := by
        have := Nat.div_le_self D (Nat.gcd C D)
        unfold Bz at hbD ⊢
        rw [g4, Int.natAbs_natCast] at hbD
        rw [Int.natAbs_natCast]
        omega
       have hC1' : ed.z * ((D / Nat.gcd C D : Nat) : Int) = (C1 : Int) := by rw [hd1, hcn, Int.natCast_mul]
       have hQ0 : dmQ q.z ((Nat.gcd C D : Nat) : Int) = ((D / Nat.gcd C D : Nat) : Int) := by rw [g4]; exact W4 (by omega) hGd
       have hG1 : ((Nat.gcd ed.z.natAbs q.z.natAbs : Nat) : Int) = ((Nat.gcd C D : Nat) : Int) := by rw [hd1, g4, Int.natAbs_natCast, Int.natAbs_natCast]
       rw [← hd1] at hbC1
       generalize Nat.gcd C D = G at *
       generalize D / G = Q at *
       obtain ⟨gb, gn, gL, IG⟩ := iz (G : Int)
       obtain ⟨qb, qn, qL, IQ⟩ := iz (Q : Int)
       obtain ⟨cb_, cn, cL, IC⟩ := iz (C1 : Int)
       have HG := hid fun (w2 : World) (h : Below wr.heap.size wr w2) => HRgcd_g (w := w2) hd2.i hoq.i IG.out (hd2.m.below h) (hoq.m.below h) (hbC1.ft (by omega)) (hbD.ft (by omega)) hG1
       have HQ := hid fun (w2 : World) (h : Below wr.heap.size wr w2) (B_ : Option Addr) (d : Nat) (m : Mg w2 B_ d gL) => Q8 (w := w2) hoq.i IG.out IQ.out (hoq.m.below h) m (hbD.ft (by omega)) (hGb.ft (by omega)) (by omega) hQ0
       have HMu := hid fun (w2 : World) (h : Below wr.heap.size wr w2) (B_ : Option Addr) (d : Nat) (m : Mg w2 B_ d qL) => Jy (w := w2) hd2.i IQ.out IC.out (hd2.m.below h) m (hbC1.ft (by omega)) (hQb.ft (by omega)) (hbC2.ft (by omega)) hC1'
       have HS := hid hS
       have hC1h := hid hC1
       have lt2 := Kd k0
       have ltx := Kd x2
       obtain ⟨dz, db, dn, dxs, dA, dc⟩ := ed
       obtain ⟨qz, qqb, qqn, qxs, qA, qc⟩ := q
       dsimp only at *
       clear hS hoq hcn hbC1 hbC2 hpC hpD hbD hG0 hGd hGb hQb hd1 hd2 hC1' hQ0 hG1 g3 g4 hC1 hzf hqb hbC hdv hzb kl
       have HB := Below.refl wr.heap.size wr
       go_upto_region 17 with fail
       refine Ords.start (x := 13) (S := fun w' => (w'.cell? ⟨gm, 0, none⟩ = some (.bool db) ∧ w'.cell? ⟨gm, 1, none⟩ = some (.slice dA dn dc)) ∧ (w'.cell? ⟨gl, j * 4 + 2, none⟩ = some (.bool qqb) ∧ w'.cell? ⟨gl, j * 4 + 3, none⟩ = some (.slice qA qqn qc))) (by kernel_rfl) ?_ (fun hHeld => ?_)
       ·exact ⟨⟨k0, k1⟩, ⟨x2, x3⟩⟩
       refine' TKo 0 ?_
       refine' TKo 1 ?_
       refine' TKo 2 ?_
       refine' TKo 3 ?_
       refine' TKo 4 ?_
       refine' TKo 5 ?_
       refine' TKo 6 ?_
       refine' TKo 7 ?_
       refine' TKo 8 ?_
       refine' TKo 9 ?_
       refine' Ords.step (i := 10) (by kernel_rfl) (by simp only [List.getElem?_toArray, List.getElem?_cons_succ, List.getElem?_cons_zero]; rfl) (fun K hK => ?_)
       go_simp
       (go_at_call 85; (with_reducible refine (HG.out _ BG).mono ?_); rintro e y1 ⟨R2, d2, rfl, m2, hq2⟩; have qv1 : Below wr.heap.size wr y1 := Kb BG hq2)
       (try go_wp2_with fail)
       refine' HKa hK (by (first | ((try dsimp only); repeat' (first | with_reducible assumption | apply And.intro | (with_reducible refine Kk ?_) | (with_reducible refine Kn ?_) | (with_reducible refine Kh (by omega) ?_) | (with_reducible refine Kp (by omega) ?_) | (with_reducible refine Ka (W := wr) ?_ ?_) | fail)))) (fun hHeld => ?_)
       clear hK K
       refine' Ords.step (i := 11) (by kernel_rfl) (by simp only [List.getElem?_toArray, List.getElem?_cons_succ, List.getElem?_cons_zero]; rfl) (fun K hK => ?_)
       go_simp
       (go_at_call 84; (with_reducible refine (HQ.out _ BG _ _ m2).mono ?_); rintro e y2 ⟨R3, d3, rfl, m3, hq3⟩; have qv2 : Below wr.heap.size wr y2 := Kb qv1 hq3)
       (try go_wp2_with fail)
       refine' HKa hK (by (first | ((try dsimp only); repeat' (first | with_reducible assumption | apply And.intro | (with_reducible refine Kk ?_) | (with_reducible refine Kn ?_) | (with_reducible refine Kh (by omega) ?_) | (with_reducible refine Kp (by omega) ?_) | (with_reducible refine Ka (W := wr) ?_ ?_) | fail)))) (fun hHeld => ?_)
       clear hK K
       refine' Ords.step (i := 12) (by kernel_rfl) (by simp only [List.getElem?_toArray, List.getElem?_cons_succ, List.getElem?_cons_zero]; rfl) (fun K hK => ?_)
       go_simp
       (go_at_call 79; (with_reducible refine (HMu.out _ BG _ _ m3).mono ?_); rintro e y3 ⟨R4, d4, rfl, m4, hq4⟩; have qv3 : Below wr.heap.size wr y3 := Kb qv2 hq4; have k0 := Ka qv3 k0; have k1 := Ka qv3 k1; have fz := (HS.out.zm.below qv3).fr)
       (try go_wp2_with fail)
       refine' HKa hK (by (first | ((try dsimp only); repeat' (first | with_reducible assumption | apply And.intro | (with_reducible refine Kk ?_) | (with_reducible refine Kn ?_) | (with_reducible refine Kh (by omega) ?_) | (with_reducible refine Kp (by omega) ?_) | (with_reducible refine Ka (W := wr) ?_ ?_) | fail)))) (fun hHeld => ?_)
       clear hK K
       refine' Ords.last (by kernel_rfl) (by simp only [List.getElem?_toArray, List.getElem?_cons_succ, List.getElem?_cons_zero]; rfl) (by kernel_rfl) (fun K hK => ?_)
       go_simp
       (try go_wp2_with fail)
       refine hK.out _ _ ?_
       clear hK K
       (try simp only [Act.put, Lp0, Lp1, Lp2])
       go_wp2
       go_roundw
       case rel => exact ⟨j + 1, by omega, by go_num, by rw [hC1h.out]; exact (HS.out.below qv3).set0 IC.out m4, Kg (Kg (Kb hbv qv3) hwy.out _ _) hwy.out _ _⟩
       case measure => simp [intOf]; omega
      ·have hj6 : (j : Int) = 6 := by omega
       rw [hj6]
       obtain rfl : j = 6 := by omega
       clear hj6
       rw [List.take_of_length_le (by omega)] at hS
       obtain ⟨zs, hzs⟩ : ∃ z, z = qs.map (fun f => f.1 * ((comZ qs / f.2 : Nat) : Int)) ++ [0, 0, (comZ qs : Int)] := ⟨_, rfl⟩
       have hzs9 : zs.length = 9 := by rw [hzs]; simp [hq6]
       have hset : (sofar zs 6).set 8 (comZ qs : Int) = zs := by rw [hzs]; exact affZ_set _ (by simp [hq6]) _
       have hzj : ∀ j (h : j < qs.length), zs[j]? = some (qs[j].1 * ((comZ qs / qs[j].2 : Nat) : Int)) := fun j h => by
        rw [hzs, List.getElem?_append_left (by simpa using h), List.getElem?_map, List.getElem?_eq_getElem h]; rfl
       have hzbb : ∀ x ∈ zs, Bz (1280 * 6 + 1 + 1280) x := fun x hx => by
        rw [hzs, List.mem_append] at hx
        rcases hx with hx | hx
        ·exact hzb x hx
        ·simp only [List.mem_cons, List.not_mem_nil, or_false] at hx
         rcases hx with rfl | rfl | rfl
         ·exact Bz.zero
         ·exact Bz.zero
         ·exact hbC.mono (by omega)
       rw [← hzs] at HR
       have hsl6 : (sofar zs 6).length = 9 := by rw [Xp _ _ (by omega), hzs9]
       clear hzs hzb
       generalize comZ qs = C at *
       obtain ⟨ec, hd1, hd2, k0, k1⟩ := hS.cell0
       have hzm := hS.zm
       obtain ⟨kl, zkl, nl⟩ := hS.k (gl, Kc (zl gs)) (by simp)
       obtain ⟨kr, zkr, nr⟩ := hS.k (w.heap.size + 1 + 1 + 1 + 1 + 1 + 1, Kc Kj) (by simp)
       dsimp only at kl zkl nl kr zkr nr
       have hgm := hzm.lt
       have hgl := zkl.lt
       have hgr := zkr.lt
       have hB0 := hS.b
       have hBs := hB0.size
       have HZ0 := hid fun (W : World) (h : Below wr.heap.size wr W) e (he : e ∈ zl gs) => HOk.out W (Kb hbv h) e he
       have HD0 := hid fun (W : World) (h : Below wr.heap.size wr W) => hd2.below h
       clear hS HOk
       go_upto_region 18 with fail
       go_upto_region 19 with fail
       refine Kw (P := fun u => Code.wp _ _ _ _ u) ?_
       intro v2 hv2 q0 zq hsz2
       clear hsz2
       have hF : Fil w [(w.heap.size + 1 + 1 + 1 + 1 + 1 + 1, Kc Kj), (gl, Kc (zl gs)), (gm, Kc [ec])] wr.heap.size (sofar zs 0) v2 := ⟨Kb hB0 hv2, by
        intro p hp
        simp only [List.mem_cons, List.not_mem_nil, or_false] at hp
        rcases hp with rfl | rfl | rfl
        ·exact ⟨Ke kr hv2, zkr.below hv2, by dsimp only; omega⟩
        ·exact ⟨Ke kl hv2, zkl.below hv2, by dsimp only; omega⟩
        ·refine ⟨?_, hzm.below hv2, by dsimp only; omega⟩
         intro j v hv
         match j, hv with
         | 0, hv => obtain rfl := Option.some.inj hv; exact Ka hv2 k0
         | 1, hv => obtain rfl := Option.some.inj hv; exact Ka hv2 k1, zq, hBs, Kx, q0, fun e he => by rw [List.eq_of_mem_replicate he]; exact ZE.zero_ok _, by rw [Zd, hzs9]; rfl⟩
       clear q0 zq k0 k1 hd2 kl zkl kr zkr hB0 hzm
       obtain ⟨gt, hgt⟩ : ∃ gt, gt = wr.heap.size := ⟨_, rfl⟩
       rw [← hgt] at hF hgm hgl hgr hBs ⊢
       have hgU := hid (show wr.heap.size ≤ gt from Nat.le_of_eq hgt.symm)
       clear hgt hbv
       generalize wr = V1 at *
       go_wp2
       go_loopw [20] (fun s20 wr => ∃ j : Nat, j ≤ 6 ∧ s20 = .int .i64 j ∧ Fil w [(w.heap.size + 1 + 1 + 1 + 1 + 1 + 1, Kc Kj), (gl, Kc (zl gs)), (gm, Kc [ec])] gt (sofar zs j) wr ∧ Below V1.heap.size V1 wr) (fun s20 _ => 6 - (intOf s20).toNat)
       case atStart => exact ⟨0, by omega, rfl, hF, hv2⟩
       case round =>
        obtain ⟨j, hj, rfl, hS, hbv⟩ := hrel
        clear hF hv2
        by_cases h6j : j < 6
        ·have hj2 : j < qs.length := by omega
         have h6i : (j : Int) < 6 := by omega
         have h9i : (j : Int) < 9 := by omega
         obtain ⟨g1, g2, g3, g4⟩ := frZ_at hzf j hj2
         have hop := HZ0.out wr hbv _ (List.getElem_mem g1)
         have hoq := HZ0.out wr hbv _ (List.getElem_mem g2)
         obtain ⟨kl, _, nl'⟩ := hS.k (gl, Kc (zl gs)) (by simp)
         obtain ⟨kc, _, nc⟩ := hS.k (gm, Kc [ec]) (by simp)
         dsimp only at kl nl' kc nc
         obtain ⟨x0, x1⟩ := Jn kl g1
         obtain ⟨x2, x3⟩ := Jn kl g2
         rw [show 2 * j * 2 = j * 4 by omega] at x0 x1
         rw [show (2 * j + 1) * 2 = j * 4 + 2 by omega] at x2 x3
         have hd2 := HD0.out wr hbv
         have k0 : wr.cell? ⟨gm, 0, none⟩ = some (.bool ec.b) := kc 0 _ rfl
         have k1 : wr.cell? ⟨gm, 1, none⟩ = some (.slice ec.A ec.n ec.c) := kc 1 _ rfl
         have hpD := (hqb qs[j] (List.getElem_mem hj2)).1.1
         have hbD := Q9 (hqb qs[j] (List.getElem_mem hj2)).1.2.2
         have hbN := (hqb qs[j] (List.getElem_mem hj2)).1.2.1
         have hdj := hdv qs[j] (List.getElem_mem hj2)
         have hjz : j < zs.length := by omega
         have hzz : zs[j] = qs[j].1 * ((C / qs[j].2 : Nat) : Int) := by have := hzj j hj2; rw [List.getElem?_eq_getElem hjz] at this; exact Option.some.inj this
         have hzbj := hzbb zs[j] (List.getElem_mem hjz)
         have hlen : (sofar zs j).length = 9 := by rw [Xp _ _ (by omega), hzs9]
         obtain ⟨td, _, _, c0, c1⟩ := hS.cell (j := j) (by omega)
         have hsn := Up zs j hjz
         rw [← g4] at hbD
         rw [← g3] at hbN hzz
         generalize (zl gs)[2 * j] = p at *
         generalize (zl gs)[2 * j + 1] = q at *
         generalize qs[j].2 = D at *
         have hQb : Bz (1280 * 6 + 1) ((C / D : Nat) : Int) := by
          have := Nat.div_le_self C D
          unfold Bz at hbC ⊢
          rw [Int.natAbs_natCast] at hbC ⊢
          omega
         have hQ0 : dmQ ec.z q.z = ((C / D : Nat) : Int) := by rw [hd1, g4]; exact W4 (by omega) hdj
         have hzz' : p.z * ((C / D : Nat) : Int) = zs[j] := hzz.symm
         have hbC' := hbC
         rw [← hd1] at hbC'
         generalize C / D = Q at *
         obtain ⟨qb, qn, qL, IQ⟩ := iz (Q : Int)
         obtain ⟨cb, cn, cL, IC⟩ := iz (zs[j])
         have HQ := hid fun (w2 : World) (h : Below wr.heap.size wr w2) => Q8 (w := w2) hd2.i hoq.i IQ.out (hd2.m.below h) (hoq.m.below h) (hbC'.ft (by omega)) (hbD.ft (by omega)) (by rw [g4]; omega) hQ0
         have HMu := hid fun (w2 : World) (h : Below wr.heap.size wr w2) (B : Option Addr) (d : Nat) (m : Mg w2 B d qL) => Jy (w := w2) hop.i IQ.out IC.out (hop.m.below h) m (hbN.ft (by omega)) (hQb.ft (by omega)) (hzbj.ft (by omega)) hzz'
         have HS := hid hS
         have HN := hid hsn
         have ltx := Kd x0
         have lt2 := Kd k0
         have ltm := Kd c0
         have fm := hS.zm.fr
         clear hS kc kl hop hoq hd2 hbC hbC' hpD hbD hbN hdj hzz hzz' hzbj hQb hQ0 g3 g4 hsn hd1 hzf hqb hdv hzj hzbb hset
         obtain ⟨pz, pb, pn, pxs, pA, pc⟩ := p
         obtain ⟨qz, qqb, qqn, qxs, qA, qc⟩ := q
         obtain ⟨zd_, bd_, nd_, xd_, Ad_, cd_⟩ := td
         dsimp only at *
         have HB := Below.refl wr.heap.size wr
         go_upto_region 22 with fail
         refine wp_region_held_drew (S := fun w' => (w'.cell? ⟨gm, 0, none⟩ = some (.bool ec.b) ∧ w'.cell? ⟨gm, 1, none⟩ = some (.slice ec.A ec.n ec.c)) ∧ (w'.cell? ⟨gl, j * 4, none⟩ = some (.bool pb) ∧ w'.cell? ⟨gl, j * 4 + 1, none⟩ = some (.slice pA pn pc)) ∧ (w'.cell? ⟨gl, j * 4 + 2, none⟩ = some (.bool qqb) ∧ w'.cell? ⟨gl, j * 4 + 3, none⟩ = some (.slice qA qqn qc))) (by kernel_rfl) ?_ (fun hHeld => ?_)
         ·exact ⟨⟨k0, k1⟩, ⟨x0, x1⟩, ⟨x2, x3⟩⟩
         refine' TKa 0 ?_
         refine' TKa 1 ?_
         refine' TKa 2 ?_
         refine' TKa 3 ?_
         refine' TKa 4 ?_
         refine' TKa 5 ?_
         refine' TKa 6 ?_
         refine' TKa 7 ?_
         refine' TKa 8 ?_
         refine' TKa 9 ?_
         refine BRa 10 (fun K hK => ?_)
         go_simp
         (go_at_call 84; (with_reducible refine (HQ.out _ (Kb HB BG)).mono ?_); rintro e y1 ⟨R3, d3, rfl, m3, hq3⟩; have qv1 : Below wr.heap.size wr y1 := Kb BG hq3)
         (try go_wp2_with fail)
         refine' HKa hK (by (first | ((try dsimp only); repeat' (first | with_reducible assumption | apply And.intro | (with_reducible refine Kk ?_) | (with_reducible refine Kn ?_) | (with_reducible refine Kh (by omega) ?_) | (with_reducible refine Kp (by omega) ?_) | (with_reducible refine Ka (W := wr) ?_ ?_) | fail)))) (fun hHeld => ?_)
         clear hK K
         refine BRa 11 (fun K hK => ?_)
         go_simp
         (go_at_call 79; (with_reducible refine (HMu.out _ (Kb HB BG) _ _ m3).mono ?_); rintro e y3 ⟨R4, d4, rfl, m4, hq4⟩; have qv3 : Below wr.heap.size wr y3 := Kb BG hq4; have c0 := Ka qv3 c0; have c1 := Ka qv3 c1; have fz := (HS.out.zm.below qv3).fr; have k0 := Ka qv3 k0; have k1 := Ka qv3 k1; have x0 := Ka qv3 x0; have x1 := Ka qv3 x1; have x2 := Ka qv3 x2; have x3 := Ka qv3 x3)
         (try go_wp2_with fail)
         refine' HKa hK (by (first | ((try dsimp only); repeat' (first | with_reducible assumption | apply And.intro | (with_reducible refine Kk ?_) | (with_reducible refine Kn ?_) | (with_reducible refine Kh (by omega) ?_) | (with_reducible refine Kp (by omega) ?_) | (with_reducible refine Ka (W := wr) ?_ ?_) | fail)))) (fun hHeld => ?_)
         clear hK K
         refine' TKa 12 ?_
         refine BRa 13 (fun K hK => ?_)
         go_simp
         skip
         (try go_wp2_with fail)
         refine' HKa hK (by (exact ⟨⟨Kh (Ne.symm nc) (Kh (Ne.symm nc) k0), Kh (Ne.symm nc) (Kh (Ne.symm nc) k1)⟩, ⟨Kh (Ne.symm nl') (Kh (Ne.symm nl') x0), Kh (Ne.symm nl') (Kh (Ne.symm nl') x1)⟩, ⟨Kh (Ne.symm nl') (Kh (Ne.symm nl') x2), Kh (Ne.symm nl') (Kh (Ne.symm nl') x3)⟩⟩)) (fun hHeld => ?_)
         clear hK K
         refine wpAnyH_done (by kernel_rfl) ?_ _
         have hF5 := (HS.out.below qv3).set (j := j) (by omega) IC.out m4
         rw [HN.out] at hF5
         have HF5 := hid hF5
         have hb5 := hid (Kg (Kg (Kb hbv qv3) hgU.out (j * 2) (.bool cb)) hgU.out (j * 2 + 1) (.slice R4 cn d4))
         clear hF5
         go_wp2
         go_roundw
         case rel => exact ⟨j + 1, by omega, by go_num, HF5.out, hb5.out⟩
         case measure => simp [intOf]; omega
        ·have hj6 : (j : Int) = 6 := by omega
         rw [hj6]
         obtain rfl : j = 6 := by omega
         clear hj6
         obtain ⟨kc, _, nc⟩ := hS.k (gm, Kc [ec]) (by simp)
         obtain ⟨kr, zkr, nr'⟩ := hS.k (w.heap.size + 1 + 1 + 1 + 1 + 1 + 1, Kc Kj) (by simp)
         dsimp only at kc nc kr zkr nr'
         have k0 : wr.cell? ⟨gm, 0, none⟩ = some (.bool ec.b) := kc 0 _ rfl
         have k1 : wr.cell? ⟨gm, 1, none⟩ = some (.slice ec.A ec.n ec.c) := kc 1 _ rfl
         have hd2 := HD0.out wr hbv
         obtain ⟨td, hx1, hx2, c0, c1⟩ := hS.cell (j := 8) (by omega)
         clear hx1 hx2
         have c0 : wr.cell? ⟨gt, 16, none⟩ = some (.bool td.b) := c0
         have c1 : wr.cell? ⟨gt, 17, none⟩ = some (.slice td.A td.n td.c) := c1
         have fm := hS.zm.fr
         have hS5 := hS.set (j := 8) (by omega) hd2.i hd2.m
         rw [hd1, hset] at hS5
         have hS5 := hid hS5
         have ltm := Kd c0
         have lt2 := Kd k0
         have hz16 := hid (And.intro hzs9 hzbb)
         clear hS hd1 hd2 hset hzj hzbb hdv hbC hzf hqb HZ0 HD0 kc hsl6
         obtain ⟨zd_, bd_, nd_, xd_, Ad_, cd_⟩ := td
         obtain ⟨ecz, ecb, ecn, ecx, ecA, ecc⟩ := ec
         dsimp only at *
         go_upto_region 24 with fail
         generalize hU : (wr.setCell ⟨gt, 16, none⟩ (.bool ecb)).setCell ⟨gt, 17, none⟩ (.slice ecA ecn ecc) = U at *
         have hS5 : Fil w [(w.heap.size + 1 + 1 + 1 + 1 + 1 + 1, Kc Kj), (gl, Kc (zl gs)), (gm, Kc [⟨ecz, ecb, ecn, ecx, ecA, ecc⟩])] gt zs U := hS5.out
         clear hU
         obtain ⟨lm, e2, e3, e4⟩ := hS5.ex
         have HB := hS5.b
         obtain ⟨r1, zn1, _⟩ := hS5.k (w.heap.size + 1 + 1 + 1 + 1 + 1 + 1, Kc Kj) (by simp)
         dsimp only at r1 zn1
         have e1 : lm.length = 9 := by rw [← List.length_map (·.z), e4, hz16.out.1]
         have hi9 := hid (show (Tryz.prog.info? 94).map (·.size) = some (Kc lm).length by rw [Kf, e1]; kernel_rfl)
         have HPa := hid (El lm e1 e3 (k := 1280 * 6 + 1 + 1280) (by omega) (fun e he => hz16.out.2 e.z (e4 ▸ List.mem_map.2 ⟨e, he, rfl⟩)))
         rw [e4] at HPa
         clear hS5 e3
         go_wp2_with (first | refine wpList_load_mid (by rfl) _ _ (by rfl) gt 0 (by rfl) (Kc lm) _ e2 RT54 (by rfl) hi9.out ?_ | fail)
         refine HPa.out.mono ?_
         rintro e w4 ⟨lh, rfl, hz_, hok_, h4⟩
         have r1 := Ke r1 h4
         have zn1 := zn1.below h4
         have HB := Kb HB h4
         have hzs9 := hz16.out.1
         have HR := hid (hgsH.out ▸ HR.out)
         clear h4 HPa e2 hi9
         have hl18 : lh.length = 18 := by rw [← List.length_map (·.z), hz_]; exact Wf (by assumption)
         have ht := Kq r1 zn1
         rw [show (Kc Kj).length = (Kc lh).toArray.size by rw [List.size_toArray, Kf, Kf, hl18]; rfl] at ht
         have hi36 := hid (show (Tryz.prog.info? 32).map (·.size) = some (Kc lh).toArray.size by rw [List.size_toArray, Kf, hl18]; exact T32i)
         have hi36' := hid (show (Tryz.prog.info? 32).map (·.size) = some (Kc lh).length by rw [Kf, hl18]; exact T32i)
         have ho := all_oneCell_toArray (Km lh)
         obtain ⟨d32, u32, row32⟩ := T32u
         obtain ⟨G1, G2, G3, G4⟩ := Ju (w := w) (l := lh) (cs := Kj) u32 row32 hi36'.out HB (by omega) r1 zn1 (by rw [hl18]; rfl) hok_
         have HF := hid (And.intro hz_ (And.intro G3 G4))
         clear G1 G3 G4 hz_ hok_
         go_wp2_with (first | refine wpList_store_mid (by rfl) _ _ _ (by rfl) (w.heap.size + 1 + 1 + 1 + 1 + 1 + 1) 0 (Kc lh).toArray (by rfl) (by rfl) ht hi36.out ho ?_ | fail)
         refine bodyPost_ret (v := .tuple #[.agg (Kc lh).toArray, .int .i64 (resZ zs).2]) ?_ rfl ?_
         ·simp [results, Tryz.results49, Sem.run_bind, asAddr, G2]
         ·rw [HR.out]
          exact ⟨lh, rfl, HF.out.1, HF.out.2.2, HF.out.2.1⟩
    ·have heq : VX = VY := hzz.out.1 rfl
     have HR := hAF.out
     rw [if_pos heq] at HR
     have HR := hid HR
     clear hAF hzz heq
     go_upto_region 12 with fail
     have ht := Kq r1 zn1
     have ho := all_oneCell_toArray (Km Kj)
     obtain ⟨d32, u32, row32⟩ := T32u
     obtain ⟨G1, G2, G3, G4⟩ := Ju (w := w) (l := Kj) (cs := Kj) u32 row32 T32i HB (by omega) r1 zn1 rfl (fun e he => by rw [List.eq_of_mem_replicate he]; exact ZE.zero_ok _)
     have HF := hid (And.intro G3 G4)
     clear G1 G3 G4
     go_wp2_with (first | refine wpList_store_mid (by rfl) _ _ _ (by rfl) (w.heap.size + 1 + 1 + 1 + 1 + 1 + 1) 0 (Kc Kj).toArray (by rfl) (by rfl) ht T32i ho ?_ | fail)
     refine bodyPost_ret (v := .tuple #[.agg (Kc Kj).toArray, .int .i64 24]) ?_ rfl ?_
     ·simp [results, Tryz.results49, Sem.run_bind, asAddr, G2]
     ·rw [HR.out]
      exact ⟨Kj, rfl, rfl, HF.out.2, HF.out.1⟩
   ·have hzi : (40 : Int) < sz := by omega
    have HR : Hid (affE fs = (List.replicate 18 0, 4)) := by
     have h := hck.out
     rw [if_neg hz] at h
     show affE fs = _
     unfold affE
     rw [if_neg (by rw [h]; decide), h]
    have HR := hid (show affE [f0, f1, f2, f3, f4, f5] = (List.replicate 18 0, 4) from by rw [← hfs.out]; exact HR.out)
    clear hck
    go_upto_region 10 with fail
    have ht := Kq r1 zn1
    have ho := all_oneCell_toArray (Km Kj)
    obtain ⟨d32, u32, row32⟩ := T32u
    obtain ⟨G1, G2, G3, G4⟩ := Ju (w := w) (l := Kj) (cs := Kj) u32 row32 T32i HB (by omega) r1 zn1 rfl (fun e he => by rw [List.eq_of_mem_replicate he]; exact ZE.zero_ok _)
    have HF := hid (And.intro G3 G4)
    clear G1 G3 G4
    go_wp2_with (first | refine wpList_store_mid (by rfl) _ _ _ (by rfl) (w.heap.size + 1 + 1 + 1 + 1 + 1 + 1) 0 (Kc Kj).toArray (by rfl) (by rfl) ht T32i ho ?_ | fail)
    refine bodyPost_ret (v := .tuple #[.agg (Kc Kj).toArray, .int .i64 4]) ?_ rfl ?_
    ·simp [results, Tryz.results49, Sem.run_bind, asAddr, G2]
    ·rw [HR.out]
     exact ⟨Kj, rfl, rfl, HF.out.2, HF.out.1⟩
end Go.Proofs.YtdkgbkbbbldliaaGreat
