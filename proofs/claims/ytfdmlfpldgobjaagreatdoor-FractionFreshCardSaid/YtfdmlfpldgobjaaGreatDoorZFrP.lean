/- Package fraction: the walk of Simplest. Conditions: none. -/
import Derived.Test.YtfdmlfpldgobjaaGreatDoorZFrO
import Derived.Test.YtfdmlfpldgobjaaGreatDoorZYB
set_option linter.unusedVariables false
set_option linter.unusedSimpArgs false
namespace Go.Proofs.YtfdmlfpldgobjaaGreatDoor
open Go.RowKit Big
theorem at_allocF0 {W : World} {g : Nat} {a b c d : Value} {t : TypeId} (hg : g = W.heap.size) : (W.alloc (.cells #[a, b, c, d] t)).cell? ⟨g, 0, none⟩ = some a := by
 subst hg; exact (World.cell?_alloc_at _ _ _ _ rfl).trans rfl
theorem at_allocF1 {W : World} {g : Nat} {a b c d : Value} {t : TypeId} (hg : g = W.heap.size) : (W.alloc (.cells #[a, b, c, d] t)).cell? ⟨g, 1, none⟩ = some b := by
 subst hg; exact (World.cell?_alloc_at _ _ _ _ rfl).trans rfl
theorem at_allocF2 {W : World} {g : Nat} {a b c d : Value} {t : TypeId} (hg : g = W.heap.size) : (W.alloc (.cells #[a, b, c, d] t)).cell? ⟨g, 2, none⟩ = some c := by
 subst hg; exact (World.cell?_alloc_at _ _ _ _ rfl).trans rfl
theorem at_allocF3 {W : World} {g : Nat} {a b c d : Value} {t : TypeId} (hg : g = W.heap.size) : (W.alloc (.cells #[a, b, c, d] t)).cell? ⟨g, 3, none⟩ = some d := by
 subst hg; exact (World.cell?_alloc_at _ _ _ _ rfl).trans rfl
theorem Mg.setB2 {W : World} {A : Option Addr} {c : Nat} {xs : List Nat} {g : Nat} {u : Value} (hv : W.cell? ⟨g, 2, none⟩ = some (.bool false)) (h : Mg W A c xs) : Mg (W.setCell ⟨g, 2, none⟩ u) A c xs := h.set_ g 2 _ u hv (by simp)
theorem Mg.setS3 {W : World} {A : Option Addr} {c : Nat} {xs : List Nat} {g : Nat} {u : Value} (hv : W.cell? ⟨g, 3, none⟩ = some (.slice none 0 0)) (h : Mg W A c xs) : Mg (W.setCell ⟨g, 3, none⟩ u) A c xs := h.set_ g 3 _ u hv (by simp)
theorem at_setB2 {W : World} {g : Nat} {u : Value} (h : W.cell? ⟨g, 2, none⟩ = some (.bool false)) : (W.setCell ⟨g, 2, none⟩ u).cell? ⟨g, 2, none⟩ = some u := at_set h
theorem at_setS3 {W : World} {g : Nat} {u : Value} (h : W.cell? ⟨g, 3, none⟩ = some (.slice none 0 0)) : (W.setCell ⟨g, 3, none⟩ u).cell? ⟨g, 3, none⟩ = some u := at_set h
set_option maxRecDepth 100000 in
set_option maxHeartbeats 4000000 in
theorem FrSimplest_n {na nb nc nd : Bool} {xs ys us vs : List Nat} {A B C D : Option Addr} {ca cb cc cd : Nat} {w : World} (ma : Mg w A ca xs) (mb : Mg w B cb ys) (mc : Mg w C cc us) (md : Mg w D cd vs) :
  Calls Tryz.prog 14 #[.agg #[.bool na, .slice A xs.length ca, .bool nb, .slice B ys.length cb], .agg #[.bool nc, .slice C us.length cc, .bool nd, .slice D vs.length cd]] w (RetFEn w (opR simE na xs nb ys nc us nd vs)) := by
 have HX := hid fun (w1 : World) (h : Below w.heap.size w w1) => FrCmp_any (na := na) (nb := nb) (nc := nc) (nd := nd) (w := w1) (ma.below h) (mb.below h) (mc.below h) (md.below h)
 cases hv : (fvB na xs nb ys && fvB nc us nd vs)
 ·have hc_ : cmpR na xs nb ys nc us nd vs = (0, 1) := by unfold cmpR; rw [hv]; rfl
  have hr_ : opR simE na xs nb ys nc us nd vs = ((0, 0), 1) := by unfold opR; rw [hv]; rfl
  rw [hr_]
  rw [hc_] at HX
  clear hr_ hc_ hv ma mb mc md
  generalize xs.length = ka at *
  generalize ys.length = la at *
  generalize us.length = kb at *
  generalize vs.length = lb at *
  go_enter Tryz.func14, Tryz.ntmps14
  go_wp2_with fail
  refine enterFFF (P := fun u => Calls _ _ _ u _) ?_
  intro u HB q0 q1 q2 q3 r0 r1 r2 r3 s0 s1 s2 s3 z1 z2 z3 hsz
  clear hsz
  have f_z1 := z1.fr
  have f_z2 := z2.fr
  have f_z3 := z3.fr
  have lt_q0 := cell_lt q0
  have lt_r0 := cell_lt r0
  have lt_s0 := cell_lt s0
  refine (HX.out _ HB).mono ?_
  rintro e w1 ⟨rfl, h1⟩
  have hv_ : Below u.heap.size u w1 := Below.trans (b := _) (by repeat (first | assumption | exact Bv _ _ | refine Ba ?_ (by simp; try omega) _ | refine Bd ?_ | refine Bn ?_ _)) (h1.mono (by simp; try omega))
  replace q0 := keep_cell hv_ q0
  replace q1 := keep_cell hv_ q1
  replace q2 := keep_cell hv_ q2
  replace q3 := keep_cell hv_ q3
  replace r0 := keep_cell hv_ r0
  replace r1 := keep_cell hv_ r1
  replace r2 := keep_cell hv_ r2
  replace r3 := keep_cell hv_ r3
  replace s0 := keep_cell hv_ s0
  replace s1 := keep_cell hv_ s1
  replace s2 := keep_cell hv_ s2
  replace s3 := keep_cell hv_ s3
  have lt_q0 := cell_lt q0
  have lt_q1 := cell_lt q1
  have lt_q2 := cell_lt q2
  have lt_q3 := cell_lt q3
  have lt_r0 := cell_lt r0
  have lt_r1 := cell_lt r1
  have lt_r2 := cell_lt r2
  have lt_r3 := cell_lt r3
  have lt_s0 := cell_lt s0
  have lt_s1 := cell_lt s1
  have lt_s2 := cell_lt s2
  have lt_s3 := cell_lt s3
  replace z1 := z1.below hv_
  replace z2 := z2.below hv_
  replace z3 := z3.below hv_
  replace f_z1 := z1.fr
  replace f_z2 := z2.fr
  replace f_z3 := z3.fr
  replace HB := HB.trans (hv_.mono HB.size)
  clear hv_
  go_wp2
  refine bodyPost_ret (v := .tuple #[.agg #[.bool false, .slice none 0 0, .bool false, .slice none 0 0], .int .i64 1]) ?_ rfl ?_
  ·simp [results, Tryz.results14, go_sem, s0, s1, s2, s3]
  ·exact retFEn_set 1 HB (by omega) s0 s1 s2 s3
 ·have hvv_ := hv
  simp only [Bool.and_eq_true] at hvv_
  obtain ⟨v1, v2⟩ := hvv_
  have hc_ : cmpR na xs nb ys nc us nd vs = (cmpF (sg na (val xs), val ys) (sg nc (val us), val vs), 0) := by unfold cmpR; rw [hv]; rfl
  rw [hc_] at HX
  clear hc_ hv
  obtain ⟨rfl, p1, p2, p3, p4, p5, p6⟩ := fvB_ok ma.ok mb.ok v1
  obtain ⟨rfl, p7, p8, p9, p10, p11, p12⟩ := fvB_ok mc.ok md.ok v2
  have hr_ : opR simE na xs false ys nc us false vs = simE (sg na (val xs), val ys) (sg nc (val us), val vs) := by unfold opR; rw [v1, v2]; rfl
  rw [hr_]
  have IF : Hid (Fz (sg na (val xs), val ys) na xs.length xs ys.length ys) := ⟨p1, by rw [natAbs_sg]; exact p2, rfl, p3, rfl⟩
  have IG : Hid (Fz (sg nc (val us), val vs) nc us.length us vs.length vs) := ⟨p7, by rw [natAbs_sg]; exact p8, rfl, p9, rfl⟩
  generalize (sg na (val xs), val ys) = f at *
  generalize (sg nc (val us), val vs) = g at *
  have NF := hid p4
  have NG := hid p10
  clear hr_ v1 v2 p1 p2 p3 p4 p7 p8 p9 p10
  generalize xs.length = ka at *
  generalize ys.length = la at *
  generalize us.length = kb at *
  generalize vs.length = lb at *
  have ff1 : fits f.1 := by unfold fits; rw [IF.out.n.len]; exact p5
  have ff2 : fits (f.2 : Nat) := by rw [fits_nat, IF.out.d.len]; exact p6
  have fg1 : fits g.1 := by unfold fits; rw [IG.out.n.len]; exact p11
  have fg2 : fits (g.2 : Nat) := by rw [fits_nat, IG.out.d.len]; exact p12
  have ffa : fits (f.1.natAbs : Nat) := by rw [fits_nat, IF.out.n.len]; exact p5
  have fga : fits (g.1.natAbs : Nat) := by rw [fits_nat, IG.out.n.len]; exact p11
  have hfd := NF.out.1
  have hgd := NG.out.1
  have hna := hid IF.out.hb
  have hnc := hid IG.out.hb
  by_cases hz : 0 < cmpF f g
  ·have hs : simE f g = ((0, 0), 3) := by unfold simE; rw [if_pos hz]
   rw [hs]
   generalize cmpF f g = z at *
   clear hs ff1 ff2 fg1 fg2 ffa fga hfd hgd hna hnc IF IG NF NG p5 p6 p11 p12 ma mb mc md
   go_enter Tryz.func14, Tryz.ntmps14
   go_wp2_with fail
   refine enterFFF (P := fun u => Calls _ _ _ u _) ?_
   intro u HB q0 q1 q2 q3 r0 r1 r2 r3 s0 s1 s2 s3 z1 z2 z3 hsz
   clear hsz
   have f_z1 := z1.fr
   have f_z2 := z2.fr
   have f_z3 := z3.fr
   have lt_q0 := cell_lt q0
   have lt_r0 := cell_lt r0
   have lt_s0 := cell_lt s0
   refine (HX.out _ HB).mono ?_
   rintro e w1 ⟨rfl, h1⟩
   have hv_ : Below u.heap.size u w1 := Below.trans (b := _) (by repeat (first | assumption | exact Bv _ _ | refine Ba ?_ (by simp; try omega) _ | refine Bd ?_ | refine Bn ?_ _)) (h1.mono (by simp; try omega))
   replace q0 := keep_cell hv_ q0
   replace q1 := keep_cell hv_ q1
   replace q2 := keep_cell hv_ q2
   replace q3 := keep_cell hv_ q3
   replace r0 := keep_cell hv_ r0
   replace r1 := keep_cell hv_ r1
   replace r2 := keep_cell hv_ r2
   replace r3 := keep_cell hv_ r3
   replace s0 := keep_cell hv_ s0
   replace s1 := keep_cell hv_ s1
   replace s2 := keep_cell hv_ s2
   replace s3 := keep_cell hv_ s3
   have lt_q0 := cell_lt q0
   have lt_q1 := cell_lt q1
   have lt_q2 := cell_lt q2
   have lt_q3 := cell_lt q3
   have lt_r0 := cell_lt r0
   have lt_r1 := cell_lt r1
   have lt_r2 := cell_lt r2
   have lt_r3 := cell_lt r3
   have lt_s0 := cell_lt s0
   have lt_s1 := cell_lt s1
   have lt_s2 := cell_lt s2
   have lt_s3 := cell_lt s3
   replace z1 := z1.below hv_
   replace z2 := z2.below hv_
   replace z3 := z3.below hv_
   replace f_z1 := z1.fr
   replace f_z2 := z2.fr
   replace f_z3 := z3.fr
   replace HB := HB.trans (hv_.mono HB.size)
   clear hv_
   go_wp2
   refine bodyPost_ret (v := .tuple #[.agg #[.bool false, .slice none 0 0, .bool false, .slice none 0 0], .int .i64 3]) ?_ rfl ?_
   ·simp [results, Tryz.results14, go_sem, s0, s1, s2, s3]
   ·exact retFEn_set 3 HB (by omega) s0 s1 s2 s3
  ·by_cases hg0 : g.1 < 0
   ·obtain ⟨hf0, hle⟩ := cmp_negs hz hg0 hfd hgd
    have hnc1 : nc = true := by rw [hnc.out]; simpa using hg0
    subst hnc1
    obtain ⟨X, hX⟩ : ∃ X, simpl g.1.natAbs g.2 f.1.natAbs f.2 = X := ⟨_, rfl⟩
    have hXn : newE (X.1 : Nat) (X.2 : Nat) = (((X.1 : Int), X.2), 0) := by rw [← hX]; exact simpl_new hgd hfd (by omega) hle fga fg2
    have hXf : fits (X.1 : Int) := by rw [← hX]; exact fits_mono (simpl_le hgd hfd hle).1 fga
    have hI := BInv.start hgd hfd (show 0 < g.1.natAbs by omega) hle fga fg2 ffa ff2
    have hS : bl g.1.natAbs + bl g.2 + bl f.1.natAbs + bl f.2 ≤ 100000 := by
     have := bl_fits ffa; have := bl_fits fga; have := bl_fits ff2; have := bl_fits fg2; omega
    rw [hX] at hI
    have hs : simE f g = (fneg ((X.1 : Int), X.2), 0) := by unfold simE; rw [if_neg hz, if_pos hg0, hX]; rfl
    rw [hs]
    obtain ⟨bq, kq, Xq, lq, Yq, IQ⟩ := fz (fneg ((X.1 : Int), X.2))
    obtain ⟨bx, kx, Xx, lx, Yx, IX⟩ := fz ((X.1 : Int), X.2)
    obtain ⟨bg, kg, Xg, lg, Yg, IGn⟩ := fz (fneg g)
    obtain ⟨bf, kf, Xf, lf, Yf, IFn⟩ := fz (fneg f)
    have iN : Iz (g.1.natAbs : Nat) bg kg Xg := by have h := IGn.out.num; rwa [show (fneg g).1 = (g.1.natAbs : Int) by unfold fneg; simp only; omega] at h
    have iM : Iz (f.1.natAbs : Nat) bf kf Xf := by have h := IFn.out.num; rwa [show (fneg f).1 = (f.1.natAbs : Int) by unfold fneg; simp only; omega] at h
    have HO1 := hid fun (w1 : World) (h : Below w.heap.size w w1) => Fropposite_g (w := w1) IG.out IGn.out rfl fg1 (mc.below h) (md.below h)
    have HO2 := hid fun (w1 : World) (h : Below w.heap.size w w1) => Fropposite_g (w := w1) IF.out IFn.out rfl ff1 (ma.below h) (mb.below h)
    have HBt := hid fun (w1 : World) (R Q R' Q' : Option Addr) (c d c' d' : Nat) (m1 : Mg w1 R c Xg) (m2 : Mg w1 Q d Yg) (m3 : Mg w1 R' c' Xf) (m4 : Mg w1 Q' d' Yf) (hw : w.heap.size ≤ w1.heap.size) => (Frbetween_n (w := w1) iN IGn.out.den iM IFn.out.den m1 m2 m3 m4 X _ hI hS).mono fun e w' k => by
     rw [hXn] at k; exact (RetFEn.g k IX.out).up hw
    have HO3 := hid fun (w1 : World) (R Q : Option Addr) (c d : Nat) (m1 : Mg w1 R c Xx) (m2 : Mg w1 Q d Yx) (hw : w.heap.size ≤ w1.heap.size) => (Fropposite_gn (w := w1) IX.out IQ.out rfl hXf m1 m2).mono fun _ _ => GFVo.up hw
    generalize fneg ((X.1 : Int), X.2) = p at *
    generalize cmpF f g = z at *
    clear hs hX hXn hXf hI hS ff1 ff2 fg1 fg2 ffa fga hfd hgd hna hnc IF IG NF NG IX IGn IFn iN iM p5 p6 p11 p12 ma mb mc md hle hf0 hg0
    go_enter Tryz.func14, Tryz.ntmps14
    go_wp2_with fail
    refine enterFFF (P := fun u => Calls _ _ _ u _) ?_
    intro u HB q0 q1 q2 q3 r0 r1 r2 r3 s0 s1 s2 s3 z1 z2 z3 hsz
    clear hsz
    have f_z1 := z1.fr
    have f_z2 := z2.fr
    have f_z3 := z3.fr
    have lt_q0 := cell_lt q0
    have lt_r0 := cell_lt r0
    have lt_s0 := cell_lt s0
    refine (HX.out _ HB).mono ?_
    rintro e w1 ⟨rfl, h1⟩
    have hv_ : Below u.heap.size u w1 := Below.trans (b := _) (by repeat (first | assumption | exact Bv _ _ | refine Ba ?_ (by simp; try omega) _ | refine Bd ?_ | refine Bn ?_ _)) (h1.mono (by simp; try omega))
    replace q0 := keep_cell hv_ q0
    replace q1 := keep_cell hv_ q1
    replace q2 := keep_cell hv_ q2
    replace q3 := keep_cell hv_ q3
    replace r0 := keep_cell hv_ r0
    replace r1 := keep_cell hv_ r1
    replace r2 := keep_cell hv_ r2
    replace r3 := keep_cell hv_ r3
    replace s0 := keep_cell hv_ s0
    replace s1 := keep_cell hv_ s1
    replace s2 := keep_cell hv_ s2
    replace s3 := keep_cell hv_ s3
    have lt_q0 := cell_lt q0
    have lt_q1 := cell_lt q1
    have lt_q2 := cell_lt q2
    have lt_q3 := cell_lt q3
    have lt_r0 := cell_lt r0
    have lt_r1 := cell_lt r1
    have lt_r2 := cell_lt r2
    have lt_r3 := cell_lt r3
    have lt_s0 := cell_lt s0
    have lt_s1 := cell_lt s1
    have lt_s2 := cell_lt s2
    have lt_s3 := cell_lt s3
    replace z1 := z1.below hv_
    replace z2 := z2.below hv_
    replace z3 := z3.below hv_
    replace f_z1 := z1.fr
    replace f_z2 := z2.fr
    replace f_z3 := z3.fr
    replace HB := HB.trans (hv_.mono HB.size)
    clear hv_
    go_wp2_with fail
    go_cut [8, 9] (fun s1 s2 wx => s2 = .int .i64 (0) ∧ ∃ (g_ : Nat) (R_ : Option Addr) (c_ : Nat) (Q_ : Option Addr) (d_ : Nat), s1 = .pointer (some ⟨g_, 0, none⟩) ∧ w1.heap.size ≤ g_ ∧ Below w1.heap.size w1 wx ∧ Mg wx R_ c_ Xx ∧ Mg wx Q_ d_ Yx ∧ Hid (Nw w.heap.size wx Q_) ∧ wx.cell? ⟨g_, 0, none⟩ = some (.bool bx) ∧ wx.cell? ⟨g_, 1, none⟩ = some (.slice R_ kx c_) ∧ wx.cell? ⟨g_, 2, none⟩ = some (.bool false) ∧ wx.cell? ⟨g_, 3, none⟩ = some (.slice Q_ lx d_))
    case first =>
     go_region_held3 (fun w' => (w'.cell? ⟨w.heap.size, 0, none⟩ = some (.bool na) ∧ w'.cell? ⟨w.heap.size, 1, none⟩ = some (.slice A ka ca) ∧ w'.cell? ⟨w.heap.size, 2, none⟩ = some (.bool false) ∧ w'.cell? ⟨w.heap.size, 3, none⟩ = some (.slice B la cb)) ∧ (w'.cell? ⟨w.heap.size + 1, 0, none⟩ = some (.bool true) ∧ w'.cell? ⟨w.heap.size + 1, 1, none⟩ = some (.slice C kb cc) ∧ w'.cell? ⟨w.heap.size + 1, 2, none⟩ = some (.bool false) ∧ w'.cell? ⟨w.heap.size + 1, 3, none⟩ = some (.slice D lb cd))) (first | ((try dsimp only); repeat' (first | with_reducible assumption | apply And.intro | (with_reducible refine keep_alloc ?_) | (with_reducible refine keep_drew ?_) | (with_reducible refine keep_set (by first | omega | (simp only [World.size_alloc, World.size_setCell, World.size_drew]; done) | (simp only [World.size_alloc, World.size_setCell, World.size_drew]; omega)) ?_) | (with_reducible refine keep_cell (W := w1) ?_ ?_) | fail))) (first | (go_at_call 34; (with_reducible refine (HO1.out _ (bel_step HB BG)).mono ?_); rintro e y1 ⟨R1, c1, Q1, d1, rfl, m1, m1b, hq_⟩; have qy1 : Below w1.heap.size w1 y1 := bel_step BG hq_; obtain ⟨hc10, hf10⟩ := bcell hq_; have hz10 := hq_.size; (try simp only [World.size_alloc, World.size_drew] at hz10); have hs10 := qy1.size; (try have hx10 : w1.heap.size < y1.heap.size := by omega)) | (go_at_call 34; (with_reducible refine (HO2.out _ (bel_step HB BG)).mono ?_); rintro e y2 ⟨R2, c2, Q2, d2, rfl, m2, m2b, hq_⟩; have qy2 : Below w1.heap.size w1 y2 := bel_step BG hq_; have py2 : Below y1.heap.size y1 y2 := bel_step BG hq_; obtain ⟨hc11, hf11⟩ := bcell hq_; have hz11 := hq_.size; (try simp only [World.size_alloc, World.size_drew] at hz11); have hs11 := qy2.size; have ht11 := py2.size; (try have hx11 : w1.heap.size < y2.heap.size := by omega); (try have hw11 : y1.heap.size < y2.heap.size := by omega); skip) | (go_at_call 37; (with_reducible refine (HBt.out _ _ _ _ _ _ _ _ _ (m1.below BG) (m1b.below BG) (m2.below BG) (m2b.below BG) (bel_step HB BG).size).mono ?_); rintro e y3 ⟨R3, c3, Q3, d3, rfl, ⟨m3, n3a⟩, ⟨m3b, n3b⟩, hq_⟩; have qy3 : Below w1.heap.size w1 y3 := bel_step BG hq_; have py3 : Below y2.heap.size y2 y3 := bel_step BG hq_; obtain ⟨hc12, hf12⟩ := bcell hq_; have hz12 := hq_.size; (try simp only [World.size_alloc, World.size_drew] at hz12); have hs12 := qy3.size; have ht12 := py3.size; (try have hx12 : w1.heap.size < y3.heap.size := by omega); (try have hw12 : y2.heap.size < y3.heap.size := by omega); (try have hv12 : y1.heap.size < y3.heap.size := by omega)))
     all_goals
      go_wp2_with fail
      go_meet
     all_goals
      go_light
      refine ⟨rfl, _, R3, c3, Q3, d3, rfl, (by first | omega | (simp; done) | (simp; omega)), BG, ?_, ?_, ?_, ?_, ?_, ?_, ?_⟩
     any_goals ((unfold Hid; repeat' (first | with_reducible assumption | (with_reducible refine Nw.alloc ?_ _) | (with_reducible refine Nw.set ?_ _ _) | (with_reducible refine Nw.drew ?_) | fail)); done)
     any_goals ((repeat' (first | with_reducible assumption | (with_reducible refine Mg.alloc ?_) | (with_reducible refine Mg.setB ?_ ?_) | (with_reducible refine Mg.setS ?_ ?_) | (with_reducible refine Mg.setB2 ?_ ?_) | (with_reducible refine Mg.setS3 ?_ ?_) | (with_reducible refine at_allocF0 (by first | omega | (simp only [World.size_alloc, World.size_setCell, World.size_drew]; done) | (simp only [World.size_alloc, World.size_setCell, World.size_drew]; omega))) | (with_reducible refine at_allocF1 (by first | omega | (simp only [World.size_alloc, World.size_setCell, World.size_drew]; done) | (simp only [World.size_alloc, World.size_setCell, World.size_drew]; omega))) | (with_reducible refine at_allocF2 (by first | omega | (simp only [World.size_alloc, World.size_setCell, World.size_drew]; done) | (simp only [World.size_alloc, World.size_setCell, World.size_drew]; omega))) | (with_reducible refine at_allocF3 (by first | omega | (simp only [World.size_alloc, World.size_setCell, World.size_drew]; done) | (simp only [World.size_alloc, World.size_setCell, World.size_drew]; omega))) | (with_reducible refine keep_alloc ?_) | (with_reducible refine keep_off (by omega) ?_) | (with_reducible refine keep_set (by first | omega | (simp only [World.size_alloc, World.size_setCell, World.size_drew]; done) | (simp only [World.size_alloc, World.size_setCell, World.size_drew]; omega)) ?_) | (with_reducible refine at_setB ?_) | (with_reducible refine at_setS ?_) | (with_reducible refine at_setB2 ?_) | (with_reducible refine at_setS3 ?_) | (with_reducible refine keep_drew ?_) | (with_reducible refine (hc12 _ _ (by first | omega | (simp only [World.size_alloc, World.size_setCell, World.size_drew]; done) | (simp only [World.size_alloc, World.size_setCell, World.size_drew]; omega))).trans ?_) | (with_reducible refine (hc11 _ _ (by first | omega | (simp only [World.size_alloc, World.size_setCell, World.size_drew]; done) | (simp only [World.size_alloc, World.size_setCell, World.size_drew]; omega))).trans ?_) | (with_reducible refine (hc10 _ _ (by first | omega | (simp only [World.size_alloc, World.size_setCell, World.size_drew]; done) | (simp only [World.size_alloc, World.size_setCell, World.size_drew]; omega))).trans ?_) | fail)); done)
    case rest =>
     obtain ⟨rfl, g9, R9, c9, Q9, d9, rfl, hg9, hx9, m9, m9b, n9, t0, t1, t2, t3⟩ := hcut
     have hv_ : Below w1.heap.size w1 wc := Below.trans (b := _) (by repeat (first | assumption | exact Bv _ _ | refine Ba ?_ (by simp; try omega) _ | refine Bd ?_ | refine Bn ?_ _)) (hx9.mono (by simp; try omega))
     replace s0 := keep_cell hv_ s0
     replace s1 := keep_cell hv_ s1
     replace s2 := keep_cell hv_ s2
     replace s3 := keep_cell hv_ s3
     have lt_s0 := cell_lt s0
     have lt_s1 := cell_lt s1
     have lt_s2 := cell_lt s2
     have lt_s3 := cell_lt s3
     replace z3 := z3.below hv_
     replace f_z3 := z3.fr
     replace HB := HB.trans (hv_.mono HB.size)
     clear hv_
     have lt_t := cell_lt t0
     go_wp2_with fail
     refine (HO3.out _ _ _ _ _ m9 m9b HB.size).mono ?_
     rintro e w7 ⟨R4, c4, rfl, m4, m4b, h7⟩
     have n9 := hid (n9.out.below h7)
     have hv_ : Below wc.heap.size wc w7 := Below.trans (b := _) (by repeat (first | assumption | exact Bv _ _ | refine Ba ?_ (by simp; try omega) _ | refine Bd ?_ | refine Bn ?_ _)) (h7.mono (by simp; try omega))
     replace s0 := keep_cell hv_ s0
     replace s1 := keep_cell hv_ s1
     replace s2 := keep_cell hv_ s2
     replace s3 := keep_cell hv_ s3
     have lt_s0 := cell_lt s0
     have lt_s1 := cell_lt s1
     have lt_s2 := cell_lt s2
     have lt_s3 := cell_lt s3
     replace z3 := z3.below hv_
     replace f_z3 := z3.fr
     replace HB := HB.trans (hv_.mono HB.size)
     clear hv_
     go_wp2
     refine bodyPost_ret (v := .tuple #[.agg #[.bool bq, .slice R4 kq c4, .bool false, .slice Q9 lq d9], .int .i64 0]) ?_ rfl ?_
     ·simp [results, Tryz.results14, go_sem, s0, s1, s2, s3]
     ·obtain ⟨j1_, j2_, j3_⟩ := fin_frn m4 (MgN.mk m4b n9.out) HB (by omega) s0 s1 s2 s3 (.bool bq) (.slice R4 kq c4) (.bool false) (.slice Q9 lq d9)
      exact GFn.r ⟨R4, c4, Q9, d9, rfl, j1_, j2_, j3_⟩ IQ.out
   ·have hnc1 : nc = false := by rw [hnc.out]; simpa using hg0
    subst hnc1
    by_cases hf0 : f.1 ≤ 0
    ·have hs : simE f g = ((0, 1), 0) := by unfold simE; rw [if_neg hz, if_neg hg0, if_pos hf0]
     rw [hs]
     obtain ⟨bq, kq, Xq, lq, Yq, IQ⟩ := fz (0, 1)
     obtain ⟨b1, k1, L1, I1⟩ := iz 1
     have H1 := hid fun (w1 : World) (h : Below w.heap.size w w1) => (FromInt_1n (w := w1) I1.out).mono fun _ _ => GZn.up h.size
     have hor : Hid (na = true ∨ ka = 0) := by
      rcases (show f.1 < 0 ∨ f.1 = 0 by omega) with h | h
      ·left; rw [hna.out]; simpa using h
      ·right; exact IF.out.num.zero.2 h
     have e1 : Yq = L1 := by rw [IQ.out.hy, I1.out.hx]; rfl
     have e2 : lq = k1 := by rw [IQ.out.hl, I1.out.hn, e1]
     have e3 : Xq = [] := by rw [IQ.out.hx]; exact limbs_zero
     have e4 : kq = 0 := by rw [IQ.out.hk, e3]; rfl
     have e5 : bq = false := by rw [IQ.out.hb]; rfl
     have e6 : b1 = false := by rw [I1.out.hb]; rfl
     subst e1 e2 e3 e4 e5 e6
     have IQ2 := hid IQ
     generalize cmpF f g = z at *
     clear hs ff1 ff2 fg1 fg2 ffa fga hfd hgd hna hnc IF IG NF NG I1 IQ p5 p6 p11 p12 ma mb mc md hf0 hg0
     rcases hor.out with hn | hn
     ·subst hn
      clear hor
      go_enter Tryz.func14, Tryz.ntmps14
      go_wp2_with fail
      refine enterFFF (P := fun u => Calls _ _ _ u _) ?_
      intro u HB q0 q1 q2 q3 r0 r1 r2 r3 s0 s1 s2 s3 z1 z2 z3 hsz
      clear hsz
      have f_z1 := z1.fr
      have f_z2 := z2.fr
      have f_z3 := z3.fr
      have lt_q0 := cell_lt q0
      have lt_r0 := cell_lt r0
      have lt_s0 := cell_lt s0
      refine (HX.out _ HB).mono ?_
      rintro e w1 ⟨rfl, h1⟩
      have hv_ : Below u.heap.size u w1 := Below.trans (b := _) (by repeat (first | assumption | exact Bv _ _ | refine Ba ?_ (by simp; try omega) _ | refine Bd ?_ | refine Bn ?_ _)) (h1.mono (by simp; try omega))
      replace q0 := keep_cell hv_ q0
      replace q1 := keep_cell hv_ q1
      replace q2 := keep_cell hv_ q2
      replace q3 := keep_cell hv_ q3
      replace r0 := keep_cell hv_ r0
      replace r1 := keep_cell hv_ r1
      replace r2 := keep_cell hv_ r2
      replace r3 := keep_cell hv_ r3
      replace s0 := keep_cell hv_ s0
      replace s1 := keep_cell hv_ s1
      replace s2 := keep_cell hv_ s2
      replace s3 := keep_cell hv_ s3
      have lt_q0 := cell_lt q0
      have lt_q1 := cell_lt q1
      have lt_q2 := cell_lt q2
      have lt_q3 := cell_lt q3
      have lt_r0 := cell_lt r0
      have lt_r1 := cell_lt r1
      have lt_r2 := cell_lt r2
      have lt_r3 := cell_lt r3
      have lt_s0 := cell_lt s0
      have lt_s1 := cell_lt s1
      have lt_s2 := cell_lt s2
      have lt_s3 := cell_lt s3
      replace z1 := z1.below hv_
      replace z2 := z2.below hv_
      replace z3 := z3.below hv_
      replace f_z1 := z1.fr
      replace f_z2 := z2.fr
      replace f_z3 := z3.fr
      replace HB := HB.trans (hv_.mono HB.size)
      clear hv_
      go_wp2_with fail
      refine (H1.out _ HB).mono ?_
      rintro e w2 ⟨R1, c1, rfl, m1, h2⟩
      have hv_ : Below w1.heap.size w1 w2 := Below.trans (b := _) (by repeat (first | assumption | exact Bv _ _ | refine Ba ?_ (by simp; try omega) _ | refine Bd ?_ | refine Bn ?_ _)) (h2.mono (by simp; try omega))
      replace s0 := keep_cell hv_ s0
      replace s1 := keep_cell hv_ s1
      replace s2 := keep_cell hv_ s2
      replace s3 := keep_cell hv_ s3
      have lt_s0 := cell_lt s0
      have lt_s1 := cell_lt s1
      have lt_s2 := cell_lt s2
      have lt_s3 := cell_lt s3
      replace z3 := z3.below hv_
      replace f_z3 := z3.fr
      replace HB := HB.trans (hv_.mono HB.size)
      clear hv_
      go_wp2
      refine bodyPost_ret (v := .tuple #[.agg #[.bool false, .slice none 0 0, .bool false, .slice R1 lq c1], .int .i64 0]) ?_ rfl ?_
      ·simp [results, Tryz.results14, go_sem, s0, s1, s2, s3]
      ·obtain ⟨j1_, j2_, j3_⟩ := fin_frn (mgN_nil _ _) m1 HB (by omega) s0 s1 s2 s3 (.bool false) (.slice none 0 0) (.bool false) (.slice R1 lq c1)
       exact GFn.r ⟨none, 0, R1, c1, rfl, j1_, j2_, j3_⟩ IQ2.out.out
     ·subst hn
      clear hor
      cases na
      ·go_enter Tryz.func14, Tryz.ntmps14
       go_wp2_with fail
       refine enterFFF (P := fun u => Calls _ _ _ u _) ?_
       intro u HB q0 q1 q2 q3 r0 r1 r2 r3 s0 s1 s2 s3 z1 z2 z3 hsz
       clear hsz
       have f_z1 := z1.fr
       have f_z2 := z2.fr
       have f_z3 := z3.fr
       have lt_q0 := cell_lt q0
       have lt_r0 := cell_lt r0
       have lt_s0 := cell_lt s0
       refine (HX.out _ HB).mono ?_
       rintro e w1 ⟨rfl, h1⟩
       have hv_ : Below u.heap.size u w1 := Below.trans (b := _) (by repeat (first | assumption | exact Bv _ _ | refine Ba ?_ (by simp; try omega) _ | refine Bd ?_ | refine Bn ?_ _)) (h1.mono (by simp; try omega))
       replace q0 := keep_cell hv_ q0
       replace q1 := keep_cell hv_ q1
       replace q2 := keep_cell hv_ q2
       replace q3 := keep_cell hv_ q3
       replace r0 := keep_cell hv_ r0
       replace r1 := keep_cell hv_ r1
       replace r2 := keep_cell hv_ r2
       replace r3 := keep_cell hv_ r3
       replace s0 := keep_cell hv_ s0
       replace s1 := keep_cell hv_ s1
       replace s2 := keep_cell hv_ s2
       replace s3 := keep_cell hv_ s3
       have lt_q0 := cell_lt q0
       have lt_q1 := cell_lt q1
       have lt_q2 := cell_lt q2
       have lt_q3 := cell_lt q3
       have lt_r0 := cell_lt r0
       have lt_r1 := cell_lt r1
       have lt_r2 := cell_lt r2
       have lt_r3 := cell_lt r3
       have lt_s0 := cell_lt s0
       have lt_s1 := cell_lt s1
       have lt_s2 := cell_lt s2
       have lt_s3 := cell_lt s3
       replace z1 := z1.below hv_
       replace z2 := z2.below hv_
       replace z3 := z3.below hv_
       replace f_z1 := z1.fr
       replace f_z2 := z2.fr
       replace f_z3 := z3.fr
       replace HB := HB.trans (hv_.mono HB.size)
       clear hv_
       go_wp2_with fail
       refine (H1.out _ HB).mono ?_
       rintro e w2 ⟨R1, c1, rfl, m1, h2⟩
       have hv_ : Below w1.heap.size w1 w2 := Below.trans (b := _) (by repeat (first | assumption | exact Bv _ _ | refine Ba ?_ (by simp; try omega) _ | refine Bd ?_ | refine Bn ?_ _)) (h2.mono (by simp; try omega))
       replace s0 := keep_cell hv_ s0
       replace s1 := keep_cell hv_ s1
       replace s2 := keep_cell hv_ s2
       replace s3 := keep_cell hv_ s3
       have lt_s0 := cell_lt s0
       have lt_s1 := cell_lt s1
       have lt_s2 := cell_lt s2
       have lt_s3 := cell_lt s3
       replace z3 := z3.below hv_
       replace f_z3 := z3.fr
       replace HB := HB.trans (hv_.mono HB.size)
       clear hv_
       go_wp2
       refine bodyPost_ret (v := .tuple #[.agg #[.bool false, .slice none 0 0, .bool false, .slice R1 lq c1], .int .i64 0]) ?_ rfl ?_
       ·simp [results, Tryz.results14, go_sem, s0, s1, s2, s3]
       ·obtain ⟨j1_, j2_, j3_⟩ := fin_frn (mgN_nil _ _) m1 HB (by omega) s0 s1 s2 s3 (.bool false) (.slice none 0 0) (.bool false) (.slice R1 lq c1)
        exact GFn.r ⟨none, 0, R1, c1, rfl, j1_, j2_, j3_⟩ IQ2.out.out
      ·go_enter Tryz.func14, Tryz.ntmps14
       go_wp2_with fail
       refine enterFFF (P := fun u => Calls _ _ _ u _) ?_
       intro u HB q0 q1 q2 q3 r0 r1 r2 r3 s0 s1 s2 s3 z1 z2 z3 hsz
       clear hsz
       have f_z1 := z1.fr
       have f_z2 := z2.fr
       have f_z3 := z3.fr
       have lt_q0 := cell_lt q0
       have lt_r0 := cell_lt r0
       have lt_s0 := cell_lt s0
       refine (HX.out _ HB).mono ?_
       rintro e w1 ⟨rfl, h1⟩
       have hv_ : Below u.heap.size u w1 := Below.trans (b := _) (by repeat (first | assumption | exact Bv _ _ | refine Ba ?_ (by simp; try omega) _ | refine Bd ?_ | refine Bn ?_ _)) (h1.mono (by simp; try omega))
       replace q0 := keep_cell hv_ q0
       replace q1 := keep_cell hv_ q1
       replace q2 := keep_cell hv_ q2
       replace q3 := keep_cell hv_ q3
       replace r0 := keep_cell hv_ r0
       replace r1 := keep_cell hv_ r1
       replace r2 := keep_cell hv_ r2
       replace r3 := keep_cell hv_ r3
       replace s0 := keep_cell hv_ s0
       replace s1 := keep_cell hv_ s1
       replace s2 := keep_cell hv_ s2
       replace s3 := keep_cell hv_ s3
       have lt_q0 := cell_lt q0
       have lt_q1 := cell_lt q1
       have lt_q2 := cell_lt q2
       have lt_q3 := cell_lt q3
       have lt_r0 := cell_lt r0
       have lt_r1 := cell_lt r1
       have lt_r2 := cell_lt r2
       have lt_r3 := cell_lt r3
       have lt_s0 := cell_lt s0
       have lt_s1 := cell_lt s1
       have lt_s2 := cell_lt s2
       have lt_s3 := cell_lt s3
       replace z1 := z1.below hv_
       replace z2 := z2.below hv_
       replace z3 := z3.below hv_
       replace f_z1 := z1.fr
       replace f_z2 := z2.fr
       replace f_z3 := z3.fr
       replace HB := HB.trans (hv_.mono HB.size)
       clear hv_
       go_wp2_with fail
       refine (H1.out _ HB).mono ?_
       rintro e w2 ⟨R1, c1, rfl, m1, h2⟩
       have hv_ : Below w1.heap.size w1 w2 := Below.trans (b := _) (by repeat (first | assumption | exact Bv _ _ | refine Ba ?_ (by simp; try omega) _ | refine Bd ?_ | refine Bn ?_ _)) (h2.mono (by simp; try omega))
       replace s0 := keep_cell hv_ s0
       replace s1 := keep_cell hv_ s1
       replace s2 := keep_cell hv_ s2
       replace s3 := keep_cell hv_ s3
       have lt_s0 := cell_lt s0
       have lt_s1 := cell_lt s1
       have lt_s2 := cell_lt s2
       have lt_s3 := cell_lt s3
       replace z3 := z3.below hv_
       replace f_z3 := z3.fr
       replace HB := HB.trans (hv_.mono HB.size)
       clear hv_
       go_wp2
       refine bodyPost_ret (v := .tuple #[.agg #[.bool false, .slice none 0 0, .bool false, .slice R1 lq c1], .int .i64 0]) ?_ rfl ?_
       ·simp [results, Tryz.results14, go_sem, s0, s1, s2, s3]
       ·obtain ⟨j1_, j2_, j3_⟩ := fin_frn (mgN_nil _ _) m1 HB (by omega) s0 s1 s2 s3 (.bool false) (.slice none 0 0) (.bool false) (.slice R1 lq c1)
        exact GFn.r ⟨none, 0, R1, c1, rfl, j1_, j2_, j3_⟩ IQ2.out.out
    ·have hna1 : na = false := by rw [hna.out]; simp; omega
     subst hna1
     have hle := cmp_poss hz (by omega) (by omega)
     have hka : ((ka : Int) == 0) = false := by rw [beq_eq_false_iff_ne]; have : ka ≠ 0 := fun h => (by have := IF.out.num.zero.1 h; omega); omega
     obtain ⟨X, hX⟩ : ∃ X, simpl f.1.natAbs f.2 g.1.natAbs g.2 = X := ⟨_, rfl⟩
     have hXn : newE (X.1 : Nat) (X.2 : Nat) = (((X.1 : Int), X.2), 0) := by rw [← hX]; exact simpl_new hfd hgd (by omega) hle ffa ff2
     have hI := BInv.start hfd hgd (show 0 < f.1.natAbs by omega) hle ffa ff2 fga fg2
     have hS : bl f.1.natAbs + bl f.2 + bl g.1.natAbs + bl g.2 ≤ 100000 := by
      have := bl_fits ffa; have := bl_fits fga; have := bl_fits ff2; have := bl_fits fg2; omega
     rw [hX] at hI
     have hs : simE f g = (((X.1 : Int), X.2), 0) := by unfold simE; rw [if_neg hz, if_neg hg0, if_neg hf0, hX]
     rw [hs]
     obtain ⟨bx, kx, Xx, lx, Yx, IX⟩ := fz ((X.1 : Int), X.2)
     have iN : Iz (f.1.natAbs : Nat) false ka xs := by have h := IF.out.num; rwa [show f.1 = (f.1.natAbs : Int) by omega] at h
     have iM : Iz (g.1.natAbs : Nat) false kb us := by have h := IG.out.num; rwa [show g.1 = (g.1.natAbs : Int) by omega] at h
     have HBt := hid fun (w1 : World) (h : Below w.heap.size w w1) => (Frbetween_n (w := w1) iN IF.out.den iM IG.out.den (ma.below h) (mb.below h) (mc.below h) (md.below h) X _ hI hS).mono fun e w' k => by
      rw [hXn] at k; exact (RetFEn.g k IX.out).up h.size
     generalize ((X.1 : Int), X.2) = p at *
     generalize cmpF f g = z at *
     clear hs hX hXn hI hS ff1 ff2 fg1 fg2 ffa fga hfd hgd hna hnc IF IG NF NG iN iM p5 p6 p11 p12 ma mb mc md hle hf0 hg0
     go_enter Tryz.func14, Tryz.ntmps14
     go_wp2_with fail
     refine enterFFF (P := fun u => Calls _ _ _ u _) ?_
     intro u HB q0 q1 q2 q3 r0 r1 r2 r3 s0 s1 s2 s3 z1 z2 z3 hsz
     clear hsz
     have f_z1 := z1.fr
     have f_z2 := z2.fr
     have f_z3 := z3.fr
     have lt_q0 := cell_lt q0
     have lt_r0 := cell_lt r0
     have lt_s0 := cell_lt s0
     refine (HX.out _ HB).mono ?_
     rintro e w1 ⟨rfl, h1⟩
     have hv_ : Below u.heap.size u w1 := Below.trans (b := _) (by repeat (first | assumption | exact Bv _ _ | refine Ba ?_ (by simp; try omega) _ | refine Bd ?_ | refine Bn ?_ _)) (h1.mono (by simp; try omega))
     replace q0 := keep_cell hv_ q0
     replace q1 := keep_cell hv_ q1
     replace q2 := keep_cell hv_ q2
     replace q3 := keep_cell hv_ q3
     replace r0 := keep_cell hv_ r0
     replace r1 := keep_cell hv_ r1
     replace r2 := keep_cell hv_ r2
     replace r3 := keep_cell hv_ r3
     replace s0 := keep_cell hv_ s0
     replace s1 := keep_cell hv_ s1
     replace s2 := keep_cell hv_ s2
     replace s3 := keep_cell hv_ s3
     have lt_q0 := cell_lt q0
     have lt_q1 := cell_lt q1
     have lt_q2 := cell_lt q2
     have lt_q3 := cell_lt q3
     have lt_r0 := cell_lt r0
     have lt_r1 := cell_lt r1
     have lt_r2 := cell_lt r2
     have lt_r3 := cell_lt r3
     have lt_s0 := cell_lt s0
     have lt_s1 := cell_lt s1
     have lt_s2 := cell_lt s2
     have lt_s3 := cell_lt s3
     replace z1 := z1.below hv_
     replace z2 := z2.below hv_
     replace z3 := z3.below hv_
     replace f_z1 := z1.fr
     replace f_z2 := z2.fr
     replace f_z3 := z3.fr
     replace HB := HB.trans (hv_.mono HB.size)
     clear hv_
     go_wp2_with fail
     refine (HBt.out _ HB).mono ?_
     rintro e w2 ⟨R1, c1, Q1, d1, rfl, m1, m1b, h2⟩
     have hv_ : Below w1.heap.size w1 w2 := Below.trans (b := _) (by repeat (first | assumption | exact Bv _ _ | refine Ba ?_ (by simp; try omega) _ | refine Bd ?_ | refine Bn ?_ _)) (h2.mono (by simp; try omega))
     replace s0 := keep_cell hv_ s0
     replace s1 := keep_cell hv_ s1
     replace s2 := keep_cell hv_ s2
     replace s3 := keep_cell hv_ s3
     have lt_s0 := cell_lt s0
     have lt_s1 := cell_lt s1
     have lt_s2 := cell_lt s2
     have lt_s3 := cell_lt s3
     replace z3 := z3.below hv_
     replace f_z3 := z3.fr
     replace HB := HB.trans (hv_.mono HB.size)
     clear hv_
     go_wp2
     refine bodyPost_ret (v := .tuple #[.agg #[.bool bx, .slice R1 kx c1, .bool false, .slice Q1 lx d1], .int .i64 0]) ?_ rfl ?_
     ·simp [results, Tryz.results14, go_sem, s0, s1, s2, s3]
     ·obtain ⟨j1_, j2_, j3_⟩ := fin_frn m1 m1b HB (by omega) s0 s1 s2 s3 (.bool bx) (.slice R1 kx c1) (.bool false) (.slice Q1 lx d1)
      exact GFn.r ⟨R1, c1, Q1, d1, rfl, j1_, j2_, j3_⟩ IX.out
theorem FrSimplest_any {na nb nc nd : Bool} {xs ys us vs : List Nat} {A B C D : Option Addr} {ca cb cc cd : Nat} {w : World} (ma : Mg w A ca xs) (mb : Mg w B cb ys) (mc : Mg w C cc us) (md : Mg w D cd vs) :
  Calls Tryz.prog 14 #[.agg #[.bool na, .slice A xs.length ca, .bool nb, .slice B ys.length cb], .agg #[.bool nc, .slice C us.length cc, .bool nd, .slice D vs.length cd]] w (RetFE w (opR simE na xs nb ys nc us nd vs)) := (FrSimplest_n ma mb mc md).mono fun _ _ h => h.any
end Go.Proofs.YtfdmlfpldgobjaaGreatDoor
