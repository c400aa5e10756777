/- Package fraction: the walk of unfold. Conditions: none. -/
import Derived.Test.YtfdmlfpldgobjaaGreatDoorZFrM
import Derived.Test.YtfdmlfpldgobjaaGreatDoorZYB
import Derived.Deep.DeepCutAuto
import Derived.Deep.Light
set_option linter.unusedVariables false
set_option linter.unusedSimpArgs false
namespace Go.Proofs.YtfdmlfpldgobjaaGreatDoor
open Go.RowKit Big
theorem Zn.alloc {W : World} {g : Nat} {o : Obj} (h : Zn W g) : Zn (W.alloc o) g := h.below ((Below.refl _ _).alloc (Nat.le_refl _) _)
theorem Zn.drew {W : World} {g : Nat} (h : Zn W g) : Zn W.drew g := ⟨h.lt, h.fr⟩
theorem Zn.set {W : World} {g : Nat} {a : Addr} {u : Value} (h : Zn W g) : Zn (W.setCell a u) g := ⟨by have := h.lt; simpa using this, fun i => by have := h.fr i; simpa using this⟩
theorem Zn.new {W : World} {X : Array Value} {t : TypeId} {g : Nat} (hg : g = W.heap.size) : Zn (W.alloc (.cells X t)) g := by
 subst hg
 obtain ⟨_, q, r⟩ := box_keep (w := W) (Below.refl _ (W.alloc (.cells X t)))
 exact ⟨r, q⟩
/-- a term of a continued fraction, and where its limbs lie -/
structure Te where
 t : Nat
 A : Option Addr
 c : Nat
structure TeAt (w : World) (g o : Nat) (f : Te) : Prop where
 c0 : w.cell? ⟨g, o, none⟩ = some (.bool false)
 c1 : w.cell? ⟨g, o + 1, none⟩ = some (.slice f.A (limbs f.t).length f.c)
 m : Mg w f.A f.c (limbs f.t)
theorem TeAt.below {w w' : World} {g o : Nat} {f : Te} (h : TeAt w g o f) (hb : Below w.heap.size w w') : TeAt w' g o f :=
 ⟨keep_cell hb h.c0, keep_cell hb h.c1, h.m.below hb⟩
def foldU (ts : List Te) (last : Nat) : Nat × Nat := (ts.map Te.t).foldr stepU (last, 1)
theorem foldU_drop {ts : List Te} {last j : Nat} (h : j < ts.length) : foldU (ts.drop j) last = stepU ts[j].t (foldU (ts.drop (j + 1)) last) := by
 unfold foldU; rw [List.drop_eq_getElem_cons h]; rfl
/-- two fields of a box written: what the new world is good for -/
theorem setI2F {W : World} {g : Nat} {b0 : Bool} {A1 : Option Addr} {n1 c1 : Nat} {u0 u1 : Value} (k0 : W.cell? ⟨g, 0, none⟩ = some (.bool b0)) (k1 : W.cell? ⟨g, 1, none⟩ = some (.slice A1 n1 c1)) :
  ((W.setCell ⟨g, 0, none⟩ u0).setCell ⟨g, 1, none⟩ u1).cell? ⟨g, 0, none⟩ = some u0 ∧ ((W.setCell ⟨g, 0, none⟩ u0).setCell ⟨g, 1, none⟩ u1).cell? ⟨g, 1, none⟩ = some u1 ∧ (∀ b o v, b ≠ g → W.cell? ⟨b, o, none⟩ = some v → ((W.setCell ⟨g, 0, none⟩ u0).setCell ⟨g, 1, none⟩ u1).cell? ⟨b, o, none⟩ = some v) ∧ (∀ A c xs, Mg W A c xs → Mg ((W.setCell ⟨g, 0, none⟩ u0).setCell ⟨g, 1, none⟩ u1) A c xs) ∧ (∀ b, Zn W b → Zn ((W.setCell ⟨g, 0, none⟩ u0).setCell ⟨g, 1, none⟩ u1) b) ∧ (∀ B a, B ≤ g → Below B a W → Below B a ((W.setCell ⟨g, 0, none⟩ u0).setCell ⟨g, 1, none⟩ u1)) :=
 setI2 k0 k1 (P := fun V => V.cell? ⟨g, 0, none⟩ = some u0 ∧ V.cell? ⟨g, 1, none⟩ = some u1 ∧ (∀ b o v, b ≠ g → W.cell? ⟨b, o, none⟩ = some v → V.cell? ⟨b, o, none⟩ = some v) ∧ (∀ A c xs, Mg W A c xs → Mg V A c xs) ∧ (∀ b, Zn W b → Zn V b) ∧ (∀ B a, B ≤ g → Below B a W → Below B a V)) fun V h1 h2 h3 h4 h5 h6 _ => ⟨h1, h2, h3, h4, h5, h6⟩
/-- the state of unfold's loop -/
structure USt (wr : World) (p : Nat × Nat) (gr gn gd : Nat) : Prop where
 ex : ∃ (bn : Bool) (kn : Nat) (Ln : List Nat) (An : Option Addr) (cn : Nat) (bd : Bool) (kd : Nat) (Ld : List Nat) (Ad : Option Addr) (cd : Nat), Hid (Iz (p.1 : Nat) bn kn Ln) ∧ Hid (Iz (p.2 : Nat) bd kd Ld) ∧ Mg wr An cn Ln ∧ Mg wr Ad cd Ld ∧
  wr.cell? ⟨gn, 0, none⟩ = some (.bool bn) ∧ wr.cell? ⟨gn, 1, none⟩ = some (.slice An kn cn) ∧ wr.cell? ⟨gd, 0, none⟩ = some (.bool bd) ∧ wr.cell? ⟨gd, 1, none⟩ = some (.slice Ad kd cd)
 res : ∃ x0 x2 A1 n1 c1 B1 m1 d1, wr.cell? ⟨gr, 0, none⟩ = some (.bool x0) ∧ wr.cell? ⟨gr, 1, none⟩ = some (.slice A1 n1 c1) ∧ wr.cell? ⟨gr, 2, none⟩ = some (.bool x2) ∧ wr.cell? ⟨gr, 3, none⟩ = some (.slice B1 m1 d1)
 z1 : Zn wr gr
 z2 : Zn wr gn
 z3 : Zn wr gd
set_option maxRecDepth 100000 in
set_option maxHeartbeats 8000000 in
theorem Frunfold_n (ts : List Te) (T : Option Addr) (ct : Nat) (last : Nat) {b : Bool} {k : Nat} {L : List Nat} {A : Option Addr} {c : Nat} (w : World) (hct : ts.length ≤ ct) (hcm : ct ≤ 9223372036854775807) (hts : 0 < ts.length → ∃ g, T = some ⟨g, 0, none⟩ ∧ ∀ j (h : j < ts.length), TeAt w g (j * 2) ts[j])
  (hl : Iz (last : Nat) b k L) (ma : Mg w A c L) (hfit : ∀ j, j ≤ ts.length → fits ((foldU (ts.drop j) last).1 : Nat) ∧ fits ((foldU (ts.drop j) last).2 : Nat)) (hft : ∀ j (h : j < ts.length), fits (ts[j].t : Nat)) :
  Calls Tryz.prog 62 #[.slice T ts.length ct, .agg #[.bool b, .slice A k c]] w (RetFEn w (newE ((foldU ts last).1 : Nat) ((foldU ts last).2 : Nat))) := by
 obtain ⟨b1, k1, L1, I1⟩ := iz 1
 have H1 := hid fun (w1 : World) => FromInt_g (w := w1) I1.out (by omega) (by omega)
 have hff := hid hfit
 have hff2 := hid hft
 have hl' := hid hl
 have htt := hid hts
 have hcap := ma.cap
 have hmax := ma.max
 clear hfit hft hl hts
 go_enter Tryz.func62, Tryz.ntmps62
 go_wp2_with fail
 refine enterIF (P := fun u => Code.wp _ _ _ _ u) ?_
 intro u HB q0 q1 r0 r1 r2 r3 z1 z2 hsz
 clear hsz
 have f_z1 := z1.fr
 have f_z2 := z2.fr
 have lt_q0 := cell_lt q0
 have lt_r0 := cell_lt r0
 have mu := ma.below HB
 go_cut [6, 7] (fun s6 s7 wx => ∃ (g g' : Nat) (R : Option Addr) (cR : Nat), s6 = .pointer (some ⟨g, 0, none⟩) ∧ s7 = .pointer (some ⟨g', 0, none⟩) ∧ u.heap.size ≤ g ∧ u.heap.size ≤ g' ∧ g ≠ g' ∧ Below u.heap.size u wx ∧ Mg wx R cR L1 ∧ wx.cell? ⟨g, 0, none⟩ = some (.bool b) ∧ wx.cell? ⟨g, 1, none⟩ = some (.slice A k c) ∧ wx.cell? ⟨g', 0, none⟩ = some (.bool b1) ∧ wx.cell? ⟨g', 1, none⟩ = some (.slice R k1 cR) ∧ Zn wx g ∧ Zn wx g')
 case first =>
  go_region_held3 (fun w' => w'.cell? ⟨w.heap.size, 0, none⟩ = some (.bool b) ∧ w'.cell? ⟨w.heap.size, 1, none⟩ = some (.slice A k c)) (first | ((try dsimp only); repeat' (first | with_reducible assumption | apply And.intro | (with_reducible refine keep_alloc ?_) | (with_reducible refine keep_drew ?_) | (with_reducible refine keep_set (by first | omega | (simp only [World.size_alloc, World.size_setCell, World.size_drew]; done) | (simp only [World.size_alloc, World.size_setCell, World.size_drew]; omega)) ?_) | (with_reducible refine keep_cell (W := u) ?_ ?_) | fail))) ((go_at_call 38; (with_reducible refine (H1.out _).mono ?_); rintro e y1 ⟨R1, e1, rfl, p1, hq_⟩; have qy1 : Below u.heap.size u y1 := bel_step BG hq_; obtain ⟨hc10, hf10⟩ := bcell hq_; have hz10 := hq_.size; (try simp only [World.size_alloc, World.size_drew] at hz10); have hs10 := qy1.size; (try have hx1 : u.heap.size < y1.heap.size := by omega)))
  all_goals
   go_wp2_with fail
   go_meet
  all_goals
   go_light
   refine ⟨_, _, R1, e1, rfl, rfl, ?_, ?_, ?_, BG, ?_, ?_, ?_, ?_, ?_, ?_, ?_⟩
  any_goals ((repeat' (first | with_reducible assumption | (with_reducible refine Mg.alloc ?_) | (with_reducible refine Mg.setB ?_ ?_) | (with_reducible refine Mg.setS ?_ ?_) | (with_reducible refine at_alloc0 (by first | omega | (simp only [World.size_alloc, World.size_setCell, World.size_drew]; done) | (simp only [World.size_alloc, World.size_setCell, World.size_drew]; omega))) | (with_reducible refine at_alloc1 (by first | omega | (simp only [World.size_alloc, World.size_setCell, World.size_drew]; done) | (simp only [World.size_alloc, World.size_setCell, World.size_drew]; omega))) | (with_reducible refine keep_alloc ?_) | (with_reducible refine keep_off (by omega) ?_) | (with_reducible refine keep_set (by first | omega | (simp only [World.size_alloc, World.size_setCell, World.size_drew]; done) | (simp only [World.size_alloc, World.size_setCell, World.size_drew]; omega)) ?_) | (with_reducible refine at_setB ?_) | (with_reducible refine at_setS ?_) | (with_reducible refine keep_drew ?_) | (with_reducible refine (hc11 _ _ (by first | omega | (simp only [World.size_alloc, World.size_setCell, World.size_drew]; done) | (simp only [World.size_alloc, World.size_setCell, World.size_drew]; omega))).trans ?_) | (with_reducible refine (hc10 _ _ (by first | omega | (simp only [World.size_alloc, World.size_setCell, World.size_drew]; done) | (simp only [World.size_alloc, World.size_setCell, World.size_drew]; omega))).trans ?_) | fail)); done)
  any_goals ((repeat' (first | with_reducible assumption | (with_reducible refine Zn.new (by first | rfl | omega | (simp; done) | fail)) | (with_reducible refine Zn.alloc ?_) | (with_reducible refine Zn.set ?_) | (with_reducible refine Zn.drew ?_) | (with_reducible refine Zn.below ?_ hq_) | fail)); done)
  all_goals first | omega | (simp; done) | (simp; omega)
 case rest =>
  obtain ⟨gn, gd, R, cR, rfl, rfl, hgn, hgd, hne, hx, mR, n0, n1, d0, d1, zn, zd⟩ := hcut
  have hv_ : Below u.heap.size u wc := Below.trans (b := _) (by repeat (first | assumption | exact Bv _ _ | refine Ba ?_ (by simp; try omega) _ | refine Bd ?_ | refine Bn ?_ _)) (hx.mono (by simp; try omega))
  replace mu := mu.below hv_
  replace r0 := keep_cell hv_ r0
  replace r1 := keep_cell hv_ r1
  replace r2 := keep_cell hv_ r2
  replace r3 := keep_cell hv_ r3
  have lt_r0 := cell_lt r0
  have lt_r1 := cell_lt r1
  have lt_r2 := cell_lt r2
  have lt_r3 := cell_lt r3
  replace z2 := z2.below hv_
  replace f_z2 := z2.fr
  replace HB := HB.trans (hv_.mono HB.size)
  clear hv_
  have hgn2 : w.heap.size + 1 < gn := by omega
  have hgd2 : w.heap.size + 1 < gd := by omega
  have hcI : ts.length ≤ ct := hct
  have hU : Hid (USt wc (foldU (ts.drop ts.length) last) (w.heap.size + 1) gn gd) := by
   rw [List.drop_length]
   exact ⟨⟨_, _, _, _, _, _, _, _, _, _, hl', I1, mu, mR, n0, n1, d0, d1⟩, ⟨_, _, _, _, _, _, _, _, r0, r1, r2, r3⟩, z2, zn, zd⟩
  clear hx mR n0 n1 d0 d1 zn zd mu r0 r1 r2 r3 z2 f_z2 q0 q1 z1 f_z1 I1 H1 hgn hgd
  go_wp2
  go_loopw [8] (fun s8 wr => ∃ j : Nat, j ≤ ts.length ∧ s8 = .int .i64 ((j : Int) - 1) ∧ Below w.heap.size w wr ∧ Hid (USt wr (foldU (ts.drop j) last) (w.heap.size + 1) gn gd)) (fun s8 _ => (intOf s8 + 1).toNat)
  case atStart => exact ⟨ts.length, Nat.le_refl _, rfl, HB, hU⟩
  case round =>
   clear HB hU
   obtain ⟨j, hj, rfl, hbl, hst⟩ := hrel
   obtain ⟨bn, kn, Ln, An, cn, bd, kd, Ld, Ad, cd, iN, iD, mn, md, n0, n1, d0, d1⟩ := hst.out.ex
   obtain ⟨x0, x2, A1, nn1, c1, B1, mm1, dd1, r0, r1, r2, r3⟩ := hst.out.res
   have zr := hst.out.z1
   have zn := hst.out.z2
   have zd := hst.out.z3
   have f_zr := zr.fr
   have f_zn := zn.fr
   have f_zd := zd.fr
   clear hst
   have hwz := hbl.size
   by_cases h0 : 0 < j
   ·obtain ⟨i, rfl⟩ : ∃ i, j = i + 1 := ⟨j - 1, by omega⟩
    have e1 : ((i + 1 : Nat) : Int) - 1 = (i : Int) := by omega
    rw [e1]
    have hi : i < ts.length := by omega
    obtain ⟨g, rfl, hTe⟩ := htt.out (by omega)
    have hAt := (hTe i hi).below hbl
    have hfo := hid (foldU_drop (last := last) hi)
    have hf1 := hff.out i (by omega)
    have hf2 := hff.out (i + 1) (by omega)
    have hf3 := hff2.out i hi
    rw [hfo.out] at hf1
    generalize hPj : foldU (ts.drop i) last = P' at *
    have HPj := hid hPj
    clear hPj
    generalize foldU (ts.drop (i + 1)) last = P at *
    generalize ts[i] = f at *
    obtain ⟨t, At, cT⟩ := f
    obtain ⟨e0, e1', mt⟩ := hAt
    obtain ⟨N, D⟩ := P
    dsimp only [stepU] at *
    have It : Hid (Iz (t : Int) false (limbs t).length (limbs t)) := ⟨by simp, by simp, rfl⟩
    generalize (limbs t).length = kt at *
    generalize limbs t = Lt at *
    obtain ⟨b5, k5, L5, I5⟩ := iz ((t * N : Nat) : Int)
    obtain ⟨b6, k6, L6, I6⟩ := iz ((t * N + D : Nat) : Int)
    have ft5 : fits ((t * N : Nat) : Int) := by rw [fits_nat]; exact Nat.le_trans (limbs_mono (Nat.le_add_right _ D)) ((fits_nat _).1 hf1.1)
    have HMu := hid fun (w1 : World) (m : Mg w1 At cT Lt) (m' : Mg w1 An cn Ln) => Mul_g (w := w1) It.out iN.out I5.out (fitE_yes ft5) m m' hf3 hf2.1 (by push_cast; rfl)
    have HAd := hid fun (w1 : World) (R Q : Option Addr) (c d : Nat) (m : Mg w1 R c L5) (m' : Mg w1 Q d Ld) => Add_g (w := w1) I5.out iD.out I6.out (fitE_yes hf1.1) m m' ft5 hf2.2 (by push_cast; rfl)
    clear hf1 hf2 hf3 ft5 It I5 iD hTe
    have HB := hbl
    have lt_e := cell_lt e0
    have lt_n := cell_lt n0
    have lt_d := cell_lt d0
    have lt_r := cell_lt r0
    go_wp2_with fail
    go_cut [9, 10] (fun s1 s2 wx => s2 = .int .i64 (0) ∧ ∃ (g : Nat) (R : Option Addr) (c : Nat), s1 = .pointer (some ⟨g, 0, none⟩) ∧ Below wr.heap.size wr wx ∧ Mg wx R c L5 ∧ wx.cell? ⟨g, 0, none⟩ = some (.bool b5) ∧ wx.cell? ⟨g, 1, none⟩ = some (.slice R k5 c))
    case first =>
     go_region_held3 (fun w' => (w'.cell? ⟨g, i * 2, none⟩ = some (.bool false) ∧ w'.cell? ⟨g, i * 2 + 1, none⟩ = some (.slice At kt cT)) ∧ (w'.cell? ⟨gn, 0, none⟩ = some (.bool bn) ∧ w'.cell? ⟨gn, 1, none⟩ = some (.slice An kn cn))) (first | ((try dsimp only); repeat' (first | with_reducible assumption | apply And.intro | (with_reducible refine keep_alloc ?_) | (with_reducible refine keep_drew ?_) | (with_reducible refine keep_set (by first | omega | (simp only [World.size_alloc, World.size_setCell, World.size_drew]; done) | (simp only [World.size_alloc, World.size_setCell, World.size_drew]; omega)) ?_) | (with_reducible refine keep_cell (W := wr) ?_ ?_) | fail))) (first | (go_at_call 95; (with_reducible refine (HMu.out _ (mt.below BG) (mn.below BG)).mono ?_); rintro e y1 ⟨R2, c2, rfl, m2, hq_⟩; have qy1 : Below wr.heap.size wr y1 := bel_step BG hq_; obtain ⟨hc10, hf10⟩ := bcell hq_; have hz10 := hq_.size; (try simp only [World.size_alloc, World.size_drew] at hz10); have hs10 := qy1.size; (try have hx1 : wr.heap.size < y1.heap.size := by omega)))
     all_goals
      go_wp2_with fail
      go_meet
     all_goals
      go_light
      refine ⟨rfl, _, R2, c2, rfl, BG, ?_, ?_, ?_⟩
     any_goals ((repeat' (first | with_reducible assumption | (with_reducible refine Mg.alloc ?_) | (with_reducible refine Mg.setB ?_ ?_) | (with_reducible refine Mg.setS ?_ ?_) | (with_reducible refine at_alloc0 (by first | omega | (simp only [World.size_alloc, World.size_setCell, World.size_drew]; done) | (simp only [World.size_alloc, World.size_setCell, World.size_drew]; omega))) | (with_reducible refine at_alloc1 (by first | omega | (simp only [World.size_alloc, World.size_setCell, World.size_drew]; done) | (simp only [World.size_alloc, World.size_setCell, World.size_drew]; omega))) | (with_reducible refine keep_alloc ?_) | (with_reducible refine keep_off (by omega) ?_) | (with_reducible refine keep_set (by first | omega | (simp only [World.size_alloc, World.size_setCell, World.size_drew]; done) | (simp only [World.size_alloc, World.size_setCell, World.size_drew]; omega)) ?_) | (with_reducible refine at_setB ?_) | (with_reducible refine at_setS ?_) | (with_reducible refine keep_drew ?_) | (with_reducible refine (hc11 _ _ (by first | omega | (simp only [World.size_alloc, World.size_setCell, World.size_drew]; done) | (simp only [World.size_alloc, World.size_setCell, World.size_drew]; omega))).trans ?_) | (with_reducible refine (hc10 _ _ (by first | omega | (simp only [World.size_alloc, World.size_setCell, World.size_drew]; done) | (simp only [World.size_alloc, World.size_setCell, World.size_drew]; omega))).trans ?_) | fail)); done)
    case rest =>
     obtain ⟨rfl, g9, R9, c9, rfl, hx9, m9, w0_, w1_⟩ := hcut
     have hv_ : Below wr.heap.size wr wc := Below.trans (b := _) (by repeat (first | assumption | exact Bv _ _ | refine Ba ?_ (by simp; try omega) _ | refine Bd ?_ | refine Bn ?_ _)) (hx9.mono (by simp; try omega))
     replace mn := mn.below hv_
     replace md := md.below hv_
     replace n0 := keep_cell hv_ n0
     replace n1 := keep_cell hv_ n1
     replace d0 := keep_cell hv_ d0
     replace d1 := keep_cell hv_ d1
     replace r0 := keep_cell hv_ r0
     replace r1 := keep_cell hv_ r1
     replace r2 := keep_cell hv_ r2
     replace r3 := keep_cell hv_ r3
     have lt_n0 := cell_lt n0
     have lt_n1 := cell_lt n1
     have lt_d0 := cell_lt d0
     have lt_d1 := cell_lt d1
     have lt_r0 := cell_lt r0
     have lt_r1 := cell_lt r1
     have lt_r2 := cell_lt r2
     have lt_r3 := cell_lt r3
     replace zr := zr.below hv_
     replace zn := zn.below hv_
     replace zd := zd.below hv_
     replace f_zr := zr.fr
     replace f_zn := zn.fr
     replace f_zd := zd.fr
     replace HB := HB.trans (hv_.mono HB.size)
     clear hv_
     go_wp2_with fail
     refine (HAd.out _ _ _ _ _ m9 md).mono ?_
     rintro e w5 ⟨R11, c11, rfl, m11, h5⟩
     have hv_ : Below wc.heap.size wc w5 := Below.trans (b := _) (by repeat (first | assumption | exact Bv _ _ | refine Ba ?_ (by simp; try omega) _ | refine Bd ?_ | refine Bn ?_ _)) (h5.mono (by simp; try omega))
     replace mn := mn.below hv_
     replace n0 := keep_cell hv_ n0
     replace n1 := keep_cell hv_ n1
     replace d0 := keep_cell hv_ d0
     replace d1 := keep_cell hv_ d1
     replace r0 := keep_cell hv_ r0
     replace r1 := keep_cell hv_ r1
     replace r2 := keep_cell hv_ r2
     replace r3 := keep_cell hv_ r3
     have lt_n0 := cell_lt n0
     have lt_n1 := cell_lt n1
     have lt_d0 := cell_lt d0
     have lt_d1 := cell_lt d1
     have lt_r0 := cell_lt r0
     have lt_r1 := cell_lt r1
     have lt_r2 := cell_lt r2
     have lt_r3 := cell_lt r3
     replace zr := zr.below hv_
     replace zn := zn.below hv_
     replace zd := zd.below hv_
     replace f_zr := zr.fr
     replace f_zn := zn.fr
     replace f_zd := zd.fr
     replace HB := HB.trans (hv_.mono HB.size)
     clear hv_
     go_upto_region 11 with fail
     have x0 := at_alloc0 (W := w5) (a := .bool b6) (b := .slice R11 k6 c11) (t := 24) rfl
     have x1 := at_alloc1 (W := w5) (a := .bool b6) (b := .slice R11 k6 c11) (t := 24) rfl
     have hv_ : Below w5.heap.size w5 (w5.alloc (.cells #[.bool b6, .slice R11 k6 c11] 24)) := (Below.refl _ _).alloc (Nat.le_refl _) _
     generalize w5.alloc (.cells #[.bool b6, .slice R11 k6 c11] 24) = u5 at *
     replace m11 := m11.below hv_
     replace mn := mn.below hv_
     replace zr := zr.below hv_
     replace zn := zn.below hv_
     replace zd := zd.below hv_
     replace n0 := keep_cell hv_ n0
     replace n1 := keep_cell hv_ n1
     replace d0 := keep_cell hv_ d0
     replace d1 := keep_cell hv_ d1
     replace r0 := keep_cell hv_ r0
     replace r1 := keep_cell hv_ r1
     replace r2 := keep_cell hv_ r2
     replace r3 := keep_cell hv_ r3
     replace HB := HB.trans (hv_.mono HB.size)
     clear hv_
     have f_zr := zr.fr
     have f_zn := zn.fr
     have f_zd := zd.fr
     have lt_n := cell_lt n0
     have lt_d := cell_lt d0
     have lt_x := cell_lt x0
     obtain ⟨v0, v1, hoth, hmg, hzn, hbel⟩ := setI2F (u0 := .bool b6) (u1 := .slice R11 k6 c11) n0 n1
     have hd0 := hoth _ _ _ (Ne.symm hne) d0
     have hd1 := hoth _ _ _ (Ne.symm hne) d1
     obtain ⟨v2, v3, hoth2, hmg2, hzn2, hbel2⟩ := setI2F (u0 := .bool bn) (u1 := .slice An kn cn) hd0 hd1
     have hne1 : w.heap.size + 1 ≠ gn := by omega
     have hne2 : w.heap.size + 1 ≠ gd := by omega
     have HU := hid (USt.mk (p := (t * N + D, N)) (gr := w.heap.size + 1) ⟨_, _, _, _, _, _, _, _, _, _, I6, iN, hmg2 _ _ _ (hmg _ _ _ m11), hmg2 _ _ _ (hmg _ _ _ mn), hoth2 _ _ _ hne v0, hoth2 _ _ _ hne v1, v2, v3⟩ ⟨_, _, _, _, _, _, _, _, hoth2 _ _ _ hne2 (hoth _ _ _ hne1 r0), hoth2 _ _ _ hne2 (hoth _ _ _ hne1 r1), hoth2 _ _ _ hne2 (hoth _ _ _ hne1 r2), hoth2 _ _ _ hne2 (hoth _ _ _ hne1 r3)⟩ (hzn2 _ (hzn _ zr)) (hzn2 _ (hzn _ zn)) (hzn2 _ (hzn _ zd)))
     have HBB := hid (hbel2 _ _ (by omega : w.heap.size ≤ gd) (hbel _ _ (by omega : w.heap.size ≤ gn) HB))
     clear hoth hmg hzn hbel hoth2 hmg2 hzn2 hbel2 v0 v1 v2 v3 hd0 hd1
     go_wp2_with fail
     go_roundw
     case rel => exact ⟨i, by omega, by first | rfl | go_num, HBB.out, by rw [HPj.out, hfo.out]; exact HU⟩
     case measure => simp [intOf] <;> omega
   ·obtain rfl : j = 0 := by omega
    rw [List.drop_zero] at *
    have hf := hff.out 0 (by omega)
    rw [List.drop_zero] at hf
    obtain ⟨⟨p, err⟩, hq⟩ : ∃ q, newE ((foldU ts last).1 : Nat) ((foldU ts last).2 : Nat) = q := ⟨_, rfl⟩
    obtain ⟨bq, kq, Xq, lq, Yq, IQ⟩ := fz p
    have HN := hid fun (w1 : World) (hw : w.heap.size ≤ w1.heap.size) (m : Mg w1 An cn Ln) (m' : Mg w1 Ad cd Ld) => (show Calls Tryz.prog 9 #[.agg #[.bool bn, .slice An kn cn], .agg #[.bool bd, .slice Ad kd cd]] w1 (GFn w.heap.size w1 bq kq Xq lq Yq err) by
     have h := FrNew_n (w := w1) (na := bn) (nb := bd) m m'
     have hr := newR_int ((foldU ts last).1 : Nat) ((foldU ts last).2 : Nat) hf.1 hf.2
     rw [← iN.out.hb, ← iN.out.hx, ← iD.out.hb, ← iD.out.hx] at hr
     rw [hr, hq, ← iN.out.hn, ← iD.out.hn] at h
     exact h.mono fun e w' h => (RetFEn.g h IQ.out).up hw)
    have HQ := hid hq
    have HB := hbl
    clear hq hf iN iD hff hff2
    go_wp2_with fail
    refine (HN.out _ HB.size mn md).mono ?_
    rintro e w1 ⟨R1, e1, R2, e2, rfl, m1, m2, h1⟩
    have hv_ : Below wr.heap.size wr w1 := Below.trans (b := _) (by repeat (first | assumption | exact Bv _ _ | refine Ba ?_ (by simp; try omega) _ | refine Bd ?_ | refine Bn ?_ _)) (h1.mono (by simp; try omega))
    replace r0 := keep_cell hv_ r0
    replace r1 := keep_cell hv_ r1
    replace r2 := keep_cell hv_ r2
    replace r3 := keep_cell hv_ r3
    have lt_r0 := cell_lt r0
    have lt_r1 := cell_lt r1
    have lt_r2 := cell_lt r2
    have lt_r3 := cell_lt r3
    replace zr := zr.below hv_
    replace f_zr := zr.fr
    replace HB := HB.trans (hv_.mono HB.size)
    clear hv_
    go_wp2
    refine bodyPost_ret (v := .tuple #[.agg #[.bool bq, .slice R1 kq e1, .bool false, .slice R2 lq e2], .int .i64 err]) ?_ rfl ?_
    ·simp [results, Tryz.results62, go_sem, r0, r1, r2, r3]
    ·obtain ⟨j1_, j2_, j3_⟩ := fin_frn m1 m2 HB (by omega) r0 r1 r2 r3 (.bool bq) (.slice R1 kq e1) (.bool false) (.slice R2 lq e2)
     rw [HQ.out]
     exact GFn.r ⟨R1, e1, R2, e2, rfl, j1_, j2_, j3_⟩ IQ.out
end Go.Proofs.YtfdmlfpldgobjaaGreatDoor
/- A row of terms that the call owns: elements of two cells. Conditions: none. -/
namespace Go.Proofs.YtfdmlfpldgobjaaGreatDoor
open Go.RowKit Big
theorem infoInt2 : (Tryz.prog.info? 24).map (fun i => (i.zero, i.size, i.bytes)) = some (some (.agg #[.bool false, .slice none 0 0]), 2, 32) := by kernel_rfl
def Te.cells (f : Te) : List Value := [.bool false, .slice f.A (limbs f.t).length f.c]
def cellsT : List Te → List Value
 | [] => []
 | f :: ts => f.cells ++ cellsT ts
theorem cellsT_app (a b : List Te) : cellsT (a ++ b) = cellsT a ++ cellsT b := by
 induction a with
 | nil => rfl
 | cons f a ih => simp [cellsT, ih]
theorem cellsT_get : ∀ (ts : List Te) (j : Nat) (h : j < ts.length), (cellsT ts)[j * 2]? = some (.bool false) ∧ (cellsT ts)[j * 2 + 1]? = some (.slice ts[j].A (limbs ts[j].t).length ts[j].c)
 | [], j, h => by simp at h
 | f :: ts, 0, _ => ⟨rfl, rfl⟩
 | f :: ts, j + 1, h => by
  have h' := cellsT_get ts j (by simpa using h)
  have e1 : (j + 1) * 2 = j * 2 + 2 := by omega
  have e2 : (j + 1) * 2 + 1 = j * 2 + 1 + 2 := by omega
  rw [e1]
  exact ⟨h'.1, h'.2⟩
def isW : Value → Bool
 | .int .u32 _ => true
 | _ => false
theorem isW_cells (f : Te) : ∀ x ∈ f.cells, isW x = false := by
 intro x hx
 simp only [Te.cells, List.mem_cons, List.not_mem_nil, or_false] at hx
 rcases hx with rfl | rfl <;> rfl
theorem isW_cellsT : ∀ ts : List Te, ∀ x ∈ cellsT ts, isW x = false
 | [], x, hx => by simp [cellsT] at hx
 | f :: ts, x, hx => by
  rcases List.mem_append.1 hx with h | h
  ·exact isW_cells f x h
  ·exact isW_cellsT ts x h
theorem isW_zero (n : Nat) : ∀ x ∈ (Builtin.zeroCells #[.bool false, .slice none 0 0] n).toList, isW x = false := by
 intro x hx
 simp only [Builtin.zeroCells, Array.toList_map, List.mem_map] at hx
 obtain ⟨i, _, rfl⟩ := hx
 have h2 : i % 2 = 0 ∨ i % 2 = 1 := by omega
 rcases h2 with h | h <;> (show isW (#[Value.bool false, .slice none 0 0][i % 2]!) = false; rw [h]; rfl)
/-- a row of terms that the call owns; no cell of its block holds a limb -/
structure OwnT (w : World) (base : Nat) (v : Value) (ts : List Te) : Prop where
 own : w.ownsRow base 24 2 v ts.length (cellsT ts)
 ni : ∀ k, v.ownBlock = some k → ∀ cur e fz, w.heap[k]? = some (.cells cur e fz) → ∀ x ∈ cur.toList, isW x = false
theorem OwnT.nil (w : World) (base : Nat) : OwnT w base (.slice none 0 0) [] := ⟨World.ownsRow_nil _ _ _ _, fun k h => by simp [Value.ownBlock] at h⟩
theorem OwnT.below {w w' : World} {base : Nat} {v : Value} {ts : List Te} (h : OwnT w base v ts) (hb : Below w.heap.size w w') : OwnT w' base v ts := by
 refine ⟨⟨h.own.1, ?_⟩, fun k hk cur e fz hc => ?_⟩
 ·rcases h.own.2 with h2 | ⟨g, cap, cur, hv, hg, hh, r⟩
  ·exact .inl h2
  ·exact .inr ⟨g, cap, cur, hv, hg, (hb.block g (Array.getElem?_eq_some_iff.1 hh).1).trans hh, r⟩
 ·exact h.ni k hk cur e fz ((hb.block k (h.own.lt k hk).2).symm.trans hc)
/-- limbs lie in no such block -/
theorem OwnT.far {w : World} {base : Nat} {v : Value} {ts : List Te} (h : OwnT w base v ts) {A : Option Addr} {c : Nat} {xs : List Nat} (m : Mg w A c xs) (hl : 0 < xs.length) : ∀ p, A = some p → some p.block ≠ v.ownBlock := by
 intro p hp he
 obtain ⟨b, o, e, hB, hc⟩ := m.rd hl
 rw [e] at hp
 injection hp with hp
 subst hp
 have h1 := hc 0 hl
 have h2 := h.ni b he.symm
 unfold World.cell? at h1
 simp only [Option.isSome_none, Bool.false_eq_true, if_false] at h1
 split at h1
 ·rename_i cur e' fz hq
  have h3 := h2 cur e' fz hq (lim xs[0]) (by
   obtain ⟨h4, h5⟩ := Array.getElem?_eq_some_iff.1 h1
   rw [← h5]; exact Array.getElem_mem_toList h4)
  simp [lim, isW] at h3
 ·cases h1
theorem Mg.grownT {w w' : World} {base : Nat} {v : Value} {ts : List Te} (h : OwnT w base v ts) {A : Option Addr} {c : Nat} {xs : List Nat} (m : Mg w A c xs) (hg : w.grownBy w' v.ownBlock) : Mg w' A c xs :=
 ⟨m.cap, m.max, m.ok, fun hl => by
  have hne := h.far m hl
  obtain ⟨b, o, e, hB, hc⟩ := m.rd hl
  exact ⟨b, o, e, Nat.lt_of_lt_of_le hB hg.size, fun j hj => (World.cell?_of_block (a := ⟨b, o + j, none⟩) (hg.block b hB (hne _ e))).trans (hc j hj)⟩⟩
theorem cell_grownT {w w' : World} {row : Option Nat} (hg : w.grownBy w' row) {b o : Nat} {x : Value} (hne : some b ≠ row) (h : w.cell? ⟨b, o, none⟩ = some x) : w'.cell? ⟨b, o, none⟩ = some x :=
 (World.cell?_of_block (a := ⟨b, o, none⟩) (hg.block b (cell_lt h) hne)).trans h
theorem Zn.grownT {w w' : World} {row : Option Nat} (hg : w.grownBy w' row) {b : Nat} (hne : some b ≠ row) (h : Zn w b) : Zn w' b :=
 ⟨Nat.lt_of_lt_of_le h.lt hg.size, fun i => (World.frozen?_of_block (a := ⟨b, i, none⟩) (hg.block b h.lt hne)).trans (h.fr i)⟩
section
variable {P : Program}
theorem run_appT {w : World} (ty : TypeId) (base : Nat) (v : Value) (ts : List Te) (f : Te) (g : Nat) (hown : OwnT w base v ts)
    (c0 : w.cell? ⟨g, 0, none⟩ = some (.bool false)) (c1 : w.cell? ⟨g, 1, none⟩ = some (.slice f.A (limbs f.t).length f.c)) (hl : ts.length ≤ 1000000) (hbase : base ≤ w.heap.size) :
    ∃ v' w', (Builtin.append_ #[75, 75] ty #[v, .slice (some ⟨g, 0, none⟩) 1 1]).run Tryz.prog w = .ok v' w' ∧ OwnT w' base v' (ts ++ [f]) ∧ w.grownBy w' v.ownBlock := by
  obtain ⟨i, hi, hzz⟩ := Option.map_eq_some_iff.1 infoInt2
  simp only [Prod.mk.injEq] at hzz
  obtain ⟨hz, hs2, hb⟩ := hzz
  have hnews : ∀ j u, f.cells[j]? = some u → w.cell? ((⟨g, 0, none⟩ : Addr).add j) = some u := fun j u hu => by
    match j, hu with
    | 0, hu => have e : u = .bool false := by simpa [Te.cells] using hu.symm
               subst e; exact c0
    | 1, hu => have e : u = .slice f.A (limbs f.t).length f.c := by simpa [Te.cells] using hu.symm
               subst e; exact c1
    | j + 2, hu => simp [Te.cells] at hu
  have hone : ∀ u ∈ f.cells, u.oneCell' = true := fun u hu => by simp [Te.cells] at hu; rcases hu with rfl | rfl <;> rfl
  have hul : Tryz.prog.underlying 75 = some (.slice 24) := Tryz.underlying75
  obtain ⟨v', w', hrun, h2, h3, _, _⟩ := run_append_own_at (P := Tryz.prog) w base 75 ty 24 i _ 2 32 hul hi hz hs2 hb rfl (by omega) v ts.length (cellsT ts) hown.own ⟨g, 0, none⟩ 1 1 f.cells rfl hnews hone (by unfold maxLen; omega) (by omega) hbase
  refine ⟨v', w', hrun, ⟨by rw [List.length_append, cellsT_app]; simpa [cellsT] using h2, ?_⟩, h3⟩
  have hni := hown.ni
  have hge (old : Nat) : ∀ x ∈ (cellsT ts ++ f.cells ++ (Builtin.zeroCells #[.bool false, .slice none 0 0] old).toList), isW x = false := by
    intro x hx
    rcases List.mem_append.1 hx with hx | hx
    · rcases List.mem_append.1 hx with hx | hx
      · exact isW_cellsT _ x hx
      · exact isW_cells _ x hx
    · exact isW_zero _ x hx
  rcases hown.own.2 with ⟨hv, hn⟩ | ⟨g', cap, cur, hv, hbg, hg, hnc, hcm, hcs, htake⟩
  · subst hv
    have ht : ts = [] := List.eq_nil_of_length_eq_zero hn
    subst ht
    have hr := run_append_nil (P := Tryz.prog) w 75 ty 24 i _ hul hi hz ⟨g, 0, none⟩ 1 1 f.cells (by rw [hs2]; rfl) hnews (by omega) (by omega) (by rw [hb]; omega)
    rw [hrun] at hr
    injection hr with e1 e2
    subst e1 e2
    intro k hk cur e fz hc
    simp only [Value.ownBlock, Option.some.injEq] at hk
    subst hk
    have := heap_alloc_new w.drew (.cells (f.cells.toArray ++ Builtin.zeroCells #[.bool false, .slice none 0 0] (grownCap w 1 0 24 - 1)) 24)
    have hc2 := this.symm.trans hc
    injection hc2 with hc2
    injection hc2 with hc2
    subst hc2
    intro x hx
    refine hge (grownCap w 1 0 24 - 1) x ?_
    simpa [cellsT] using hx
  · subst hv
    by_cases hroom : ts.length + 1 ≤ cap
    · have hr := run_append_room (P := Tryz.prog) w 75 ty 24 i hul hi g' ts.length cap cur hg ⟨g, 0, none⟩ 1 1 f.cells (by rw [hs2]; rfl) hnews hone hroom (by rw [hs2, hcs]; simp [Te.cells]; omega)
      rw [hrun] at hr
      injection hr with e1 e2
      subst e1 e2
      intro k hk cur' e fz hc
      simp only [Value.ownBlock, Option.some.injEq] at hk
      subst hk
      have hc2 := (setRow_heap w g' cur _ 24 _ hg).symm.trans hc
      injection hc2 with hc2
      injection hc2 with hc2
      subst hc2
      intro x hx
      have h0 := hni g' rfl _ _ _ hg
      rcases List.mem_append.1 hx with hx | hx
      · rcases List.mem_append.1 hx with hx | hx
        · exact h0 x (List.mem_of_mem_take hx)
        · exact isW_cells _ x hx
      · exact h0 x (List.mem_of_mem_drop hx)
    · have holds := hown.own.cells (g := g') rfl
      have hr := run_append_grow (P := Tryz.prog) w 75 ty 24 i _ hul hi hz ⟨g', 0, none⟩ ts.length cap (cellsT ts) (by rw [hs2]; exact hown.own.1) holds ⟨g, 0, none⟩ 1 1 f.cells (by rw [hs2]; rfl) hnews (by omega) (by omega) (by rw [hb]; exact growslice_fits (by omega) (by omega))
      rw [hrun] at hr
      injection hr with e1 e2
      subst e1 e2
      intro k hk cur' e fz hc
      simp only [Value.ownBlock, Option.some.injEq] at hk
      subst hk
      have hc2 := (heap_alloc_new w.drew _).symm.trans hc
      injection hc2 with hc2
      injection hc2 with hc2
      subst hc2
      intro x hx
      refine hge (grownCap w (ts.length + 1) cap 24 - (ts.length + 1)) x ?_
      have e0 : (Value.agg #[Value.bool false, Value.slice none 0 0]).cells = #[Value.bool false, .slice none 0 0] := rfl
      rw [e0] at hx
      simpa using hx
theorem wpList_appT {w : World} {ops : Array Oper} {rest : List Oper} {o : Oper} {a : Act} {Q : Exit → Act → World → Prop} (hgd : o.guard = none) (s x : Operand)
  (ho : o.op = .call { callee := .builtin .append, args := #[s, x], argTypes := #[75, 75] })
  (base : Nat) (v : Value) (ts : List Te) (f : Te) (g : Nat) (hs : a.eval s = v) (hown : OwnT w base v ts) (hx : a.eval x = .slice (some ⟨g, 0, none⟩) 1 1)
  (c0 : w.cell? ⟨g, 0, none⟩ = some (.bool false)) (c1 : w.cell? ⟨g, 1, none⟩ = some (.slice f.A (limbs f.t).length f.c))
  (hl : ts.length ≤ 1000000) (hbase : base ≤ w.heap.size)
  (h : ∀ v' w', OwnT w' base v' (ts ++ [f]) → w.grownBy w' v.ownBlock → wpList Tryz.prog ops Q rest (a.put o.dst v') w') : wpList Tryz.prog ops Q (o :: rest) a w := by
 refine wpList_plain hgd fun _ hK => ?_
 obtain ⟨v', w', hrun, h2, h3⟩ := run_appT o.type base v ts f g hown c0 c1 hl hbase
 unfold Oper.wp execOp
 simp only [ho, resolve, invoke, builtin, Sem.run_bind, Sem.run_pure, Result.andThen_ok, List.map_toArray, List.map_cons, List.map_nil, hs, hx, hrun]
 exact hK _ _ (h v' w' h2 h3)
end
/-- the limbs of the terms -/
structure TMg (w : World) (ts : List Te) : Prop where
 m : ∀ j (h : j < ts.length), Mg w ts[j].A ts[j].c (limbs ts[j].t)
theorem TMg.below {w w' : World} {ts : List Te} (h : TMg w ts) (hb : Below w.heap.size w w') : TMg w' ts := ⟨fun j hj => (h.m j hj).below hb⟩
theorem TMg.nil (w : World) : TMg w [] := ⟨fun j h => by simp at h⟩
theorem TMg.grown {w w' : World} {base : Nat} {v : Value} {ts us : List Te} (h : TMg w ts) (ho : OwnT w base v us) (hg : w.grownBy w' v.ownBlock) : TMg w' ts := ⟨fun j hj => (h.m j hj).grownT ho hg⟩
theorem TMg.snoc {w : World} {ts : List Te} {f : Te} (h : TMg w ts) (m : Mg w f.A f.c (limbs f.t)) : TMg w (ts ++ [f]) := ⟨fun j hj => by
 by_cases h1 : j < ts.length
 ·rw [List.getElem_append_left h1]; exact h.m j h1
 ·rw [List.getElem_append_right (by omega)]; simpa using m⟩
theorem TMg.mono {w w' : World} {ts : List Te} (h : TMg w ts) (f : ∀ A c xs, Mg w A c xs → Mg w' A c xs) : TMg w' ts := ⟨fun j hj => f _ _ _ (h.m j hj)⟩
theorem OwnT.form {w : World} {base : Nat} {v : Value} {ts : List Te} (h : OwnT w base v ts) : ∃ A c, v = .slice A ts.length c ∧ ts.length ≤ c ∧ c ≤ 9223372036854775807 := by
 rcases h.own.2 with ⟨rfl, h0⟩ | ⟨g, cap, cur, rfl, _, hg, hnc, hmx, hcs, htake⟩
 ·exact ⟨none, 0, by rw [h0], by omega, by omega⟩
 ·exact ⟨_, cap, rfl, hnc, by unfold maxLen at hmx; omega⟩
theorem OwnT.at_ {w : World} {base : Nat} {A : Option Addr} {n c : Nat} {ts : List Te} (h : OwnT w base (.slice A n c) ts) (hm : TMg w ts) : 0 < ts.length → ∃ g, A = some ⟨g, 0, none⟩ ∧ ∀ j (h : j < ts.length), TeAt w g (j * 2) ts[j] := by
 intro h0
 rcases h.own.2 with ⟨_, h1⟩ | ⟨g, cap, cur, hv, _, hg, hnc, hmx, hcs, htake⟩
 ·omega
 ·injection hv with hv
  refine ⟨g, hv, fun j hj => ?_⟩
  obtain ⟨h1, h2⟩ := cellsT_get ts j hj
  rw [← htake] at h1 h2
  rw [List.getElem?_take, if_pos (by omega)] at h1 h2
  refine ⟨?_, ?_, hm.m j hj⟩
  ·rw [cell_of_row w g _ cur _ _ hg]; simpa using h1
  ·rw [cell_of_row w g _ cur _ _ hg]; simpa using h2
/-- another block is written: the row stays -/
theorem OwnT.set {w : World} {base : Nat} {v : Value} {ts : List Te} (h : OwnT w base v ts) {g i : Nat} {u : Value} (hg : g < base) : OwnT (w.setCell ⟨g, i, none⟩ u) base v ts := by
 have hne : ∀ k, v.ownBlock = some k → (w.setCell ⟨g, i, none⟩ u).heap[k]? = w.heap[k]? := fun k hk => by
  have := (h.own.lt k hk).1
  exact Below.heap_setCell w ⟨g, i, none⟩ u k (by simp; omega)
 refine ⟨⟨h.own.1, ?_⟩, fun k hk cur e fz hc => h.ni k hk cur e fz ((hne k hk).symm.trans hc)⟩
 rcases h.own.2 with h2 | ⟨g', cap, cur, hv, hg', hh, r⟩
 ·exact .inl h2
 ·exact .inr ⟨g', cap, cur, hv, hg', (hne g' (by rw [hv]; rfl)).trans hh, r⟩
end Go.Proofs.YtfdmlfpldgobjaaGreatDoor
