/- Package fraction: walks of opposite, reciprocal, Sub, Mul, Div. Conditions: none. -/
import Derived.Test.YtgnfobnkhjlbbaaZYL
import Derived.Test.YtgnfobnkhjlbbaaZYB
import Derived.Deep.DeepCutAuto
import Derived.Deep.Light
set_option linter.unusedVariables false
set_option linter.unusedSimpArgs false
namespace Go.Proofs.Ytgnfobnkhjlbbaa
open Go.RowKit Big


/-- a fraction handed back -/
def GFV (w : World) (b : Bool) (k : Nat) (xs : List Nat) (l : Nat) (ys : List Nat) (e : Ending) (w' : World) : Prop :=
  ∃ A c B d, e = .returned (.agg #[.bool b, .slice A k c, .bool false, .slice B l d]) ∧ Mg w' A c xs ∧ Mg w' B d ys ∧ Below w.heap.size w w'
set_option maxRecDepth 100000 in
set_option maxHeartbeats 4000000 in
theorem Fropposite_g {f g : Int × Nat} {b b' : Bool} {k l k' l' : Nat} {xs ys us vs : List Nat} {A B : Option Addr} {ca cb : Nat} {w : World} (hf : Fz f b k xs l ys) (hg : Fz g b' k' us l' vs) (h : fneg f = g) (ff : fits f.1) (ma : Mg w A ca xs) (mb : Mg w B cb ys) :
    Calls Try.prog 63 #[.agg #[.bool b, .slice A k ca, .bool false, .slice B l cb]] w (GFV w b' k' us l' vs) := by
  have hn := hid fun (w1 : World) (h' : Below w.heap.size w w1) => Neg_g (w := w1) hf.num hg.num (ma.below h') ff (by rw [← h]; rfl)
  have hd : vs = ys ∧ l' = l := by
    have e : g.2 = f.2 := by rw [← h]; rfl
    have h1 : vs = ys := by rw [hg.hy, hf.hy, e]
    exact ⟨h1, by rw [hg.hl, hf.hl, h1]⟩
  obtain ⟨rfl, rfl⟩ := hd
  have HM := hid fun (w1 : World) (h' : Below w.heap.size w w1) => mb.below h'
  clear hf hg h ff ma mb
  go_enter Try.func63, Try.ntmps63
  go_wp2_with fail
  refine enterFF (P := fun u => Code.wp _ _ _ _ u) ?_
  intro u HB q0 q1 q2 q3 r0 r1 r2 r3 z1 z2 hsz
  clear hsz
  have f_z1 := z1.fr
  have f_z2 := z2.fr
  have lt_q0 := cell_lt q0
  have lt_r0 := cell_lt r0
  go_region_held3 (fun w' => w'.cell? ⟨w.heap.size, 0, none⟩ = some (.bool b) ∧ w'.cell? ⟨w.heap.size, 1, none⟩ = some (.slice A k ca) ∧ w'.cell? ⟨w.heap.size, 2, none⟩ = some (.bool false) ∧ w'.cell? ⟨w.heap.size, 3, none⟩ = some (.slice B l' cb)) (first | ((try dsimp only); repeat' (first | with_reducible assumption | apply And.intro | (with_reducible refine keep_alloc ?_) | (with_reducible refine keep_drew ?_) | (with_reducible refine keep_set (by first | omega | (simp only [World.size_alloc, World.size_setCell, World.size_drew]; done) | (simp only [World.size_alloc, World.size_setCell, World.size_drew]; omega)) ?_) | (with_reducible refine keep_cell (W := u) ?_ ?_) | fail))) ((go_at_call 47; (with_reducible refine (hn.out _ (bel_step HB BG)).mono ?_); rintro e y1 ⟨R1, c1, rfl, m1, hq_⟩; have qy1 : Below u.heap.size u y1 := bel_step BG hq_; have r0 := keep_cell qy1 r0; have r1 := keep_cell qy1 r1; have r2 := keep_cell qy1 r2; have r3 := keep_cell qy1 r3; have z2 := z2.below qy1; have f_z2 := z2.fr))
  replace HB := bel_step HB qy1
  have m2 := HM.out _ HB
  go_wp2
  refine bodyPost_ret (v := .agg #[.bool b', .slice R1 k' c1, .bool false, .slice B l' cb]) ?_ rfl ?_
  · simp [results, Try.results63, go_sem, r0, r1, r2, r3]
  · obtain ⟨j1_, j2_, j3_⟩ := fin_fr m1 m2 HB (by omega) r0 r1 r2 r3 (.bool b') (.slice R1 k' c1) (.bool false) (.slice B l' cb)
    exact ⟨R1, c1, B, cb, rfl, j1_, j2_, j3_⟩
set_option maxRecDepth 100000 in
set_option maxHeartbeats 4000000 in
theorem FrMul_any {na nb nc nd : Bool} {xs ys us vs : List Nat} {A B C D : Option Addr} {ca cb cc cd : Nat} {w : World} (ma : Mg w A ca xs) (mb : Mg w B cb ys) (mc : Mg w C cc us) (md : Mg w D cd vs) :
    Calls Try.prog 41 #[.agg #[.bool na, .slice A xs.length ca, .bool nb, .slice B ys.length cb], .agg #[.bool nc, .slice C us.length cc, .bool nd, .slice D vs.length cd]] w (RetFE w (opR mulE na xs nb ys nc us nd vs)) := by
  have HX := hid fun (w1 : World) (h : Below w.heap.size w w1) => Frvalid2 (na := na) (nb := nb) (nc := nc) (nd := nd) (u := w1) (ma.below h) (mb.below h) (mc.below h) (md.below h)
  cases hv : (fvB na xs nb ys && fvB nc us nd vs)
  · have hr_ : opR mulE na xs nb ys nc us nd vs = ((0, 0), 1) := by unfold opR; rw [hv]; rfl
    rw [hr_]
    rw [hv] at HX
    clear hr_ hv ma mb mc md
    generalize xs.length = ka at *
    generalize ys.length = la at *
    generalize us.length = kb at *
    generalize vs.length = lb at *
    go_enter Try.func41, Try.ntmps41
    go_wp2_with fail
    refine enterFFF (P := fun u => Calls _ _ _ (u.alloc _) _) ?_
    intro u HB q0 q1 q2 q3 r0 r1 r2 r3 s0 s1 s2 s3 z1 z2 z3 hsz
    have f_z1 := z1.fr
    have f_z2 := z2.fr
    have f_z3 := z3.fr
    have lt_q0 := cell_lt q0
    have lt_r0 := cell_lt r0
    have lt_s0 := cell_lt s0
    have HX2 := HX.out u HB
    rw [hsz.out] at HX2
    refine HX2.mono ?_
    clear HX2
    rintro e w1 ⟨rfl, h1⟩
    have hv_ : Below u.heap.size u w1 := Below.trans (b := _) (by repeat (first | assumption | exact Bv _ _ | refine Ba ?_ (by simp; try omega) _ | refine Bd ?_ | refine Bn ?_ _)) (h1.mono (by simp; try omega))
    replace q0 := keep_cell hv_ q0
    replace q1 := keep_cell hv_ q1
    replace q2 := keep_cell hv_ q2
    replace q3 := keep_cell hv_ q3
    replace r0 := keep_cell hv_ r0
    replace r1 := keep_cell hv_ r1
    replace r2 := keep_cell hv_ r2
    replace r3 := keep_cell hv_ r3
    replace s0 := keep_cell hv_ s0
    replace s1 := keep_cell hv_ s1
    replace s2 := keep_cell hv_ s2
    replace s3 := keep_cell hv_ s3
    have lt_q0 := cell_lt q0
    have lt_q1 := cell_lt q1
    have lt_q2 := cell_lt q2
    have lt_q3 := cell_lt q3
    have lt_r0 := cell_lt r0
    have lt_r1 := cell_lt r1
    have lt_r2 := cell_lt r2
    have lt_r3 := cell_lt r3
    have lt_s0 := cell_lt s0
    have lt_s1 := cell_lt s1
    have lt_s2 := cell_lt s2
    have lt_s3 := cell_lt s3
    replace z1 := z1.below hv_
    replace z2 := z2.below hv_
    replace z3 := z3.below hv_
    replace f_z1 := z1.fr
    replace f_z2 := z2.fr
    replace f_z3 := z3.fr
    replace HB := HB.trans (hv_.mono HB.size)
    clear hv_
    go_wp2
    refine bodyPost_ret (v := .tuple #[.agg #[.bool false, .slice none 0 0, .bool false, .slice none 0 0], .int .i64 1]) ?_ rfl ?_
    · simp [results, Try.results41, go_sem, s0, s1, s2, s3]
    · exact retFE_set 1 HB (by omega) s0 s1 s2 s3
  · rw [hv] at HX
    have hvv_ := hv
    simp only [Bool.and_eq_true] at hvv_
    obtain ⟨v1, v2⟩ := hvv_
    clear hv
    obtain ⟨rfl, p1, p2, p3, p4, p5, p6⟩ := fvB_ok ma.ok mb.ok v1
    obtain ⟨rfl, p7, p8, p9, p10, p11, p12⟩ := fvB_ok mc.ok md.ok v2
    have hr_ : opR mulE na xs false ys nc us false vs = mulE (sg na (val xs), val ys) (sg nc (val us), val vs) := by unfold opR; rw [v1, v2]; rfl
    rw [hr_]
    have IF : Hid (Fz (sg na (val xs), val ys) na xs.length xs ys.length ys) := ⟨p1, by rw [natAbs_sg]; exact p2, rfl, p3, rfl⟩
    have IG : Hid (Fz (sg nc (val us), val vs) nc us.length us vs.length vs) := ⟨p7, by rw [natAbs_sg]; exact p8, rfl, p9, rfl⟩
    generalize (sg na (val xs), val ys) = f at *
    generalize (sg nc (val us), val vs) = g at *
    have NF := hid p4
    have NG := hid p10
    clear hr_ v1 v2 p1 p2 p3 p4 p7 p8 p9 p10
    generalize xs.length = ka at *
    generalize ys.length = la at *
    generalize us.length = kb at *
    generalize vs.length = lb at *
    obtain ⟨p, err, hp⟩ : ∃ p err, mulE f g = (p, err) := ⟨_, _, rfl⟩
    obtain ⟨bq, kq, Xq, lq, Yq, IQ⟩ := fz p
    have HS := hid fun (w1 : World) (h : Below w.heap.size w w1) => (Frproduct2 (u := w1) IF.out IG.out NF.out NG.out (ma.below h) (mb.below h) (mc.below h) (md.below h) p5 p6 p11 p12).mono fun e w' h => by
      rw [hp] at h; exact RetFE.g h IQ.out
    rw [hp]
    clear hp ma mb mc md IF IG NF NG
    go_enter Try.func41, Try.ntmps41
    go_wp2_with fail
    refine enterFFF (P := fun u => Calls _ _ _ (u.alloc _) _) ?_
    intro u HB q0 q1 q2 q3 r0 r1 r2 r3 s0 s1 s2 s3 z1 z2 z3 hsz
    have f_z1 := z1.fr
    have f_z2 := z2.fr
    have f_z3 := z3.fr
    have lt_q0 := cell_lt q0
    have lt_r0 := cell_lt r0
    have lt_s0 := cell_lt s0
    have HX2 := HX.out u HB
    rw [hsz.out] at HX2
    refine HX2.mono ?_
    clear HX2
    rintro e w1 ⟨rfl, h1⟩
    have hv_ : Below u.heap.size u w1 := Below.trans (b := _) (by repeat (first | assumption | exact Bv _ _ | refine Ba ?_ (by simp; try omega) _ | refine Bd ?_ | refine Bn ?_ _)) (h1.mono (by simp; try omega))
    replace q0 := keep_cell hv_ q0
    replace q1 := keep_cell hv_ q1
    replace q2 := keep_cell hv_ q2
    replace q3 := keep_cell hv_ q3
    replace r0 := keep_cell hv_ r0
    replace r1 := keep_cell hv_ r1
    replace r2 := keep_cell hv_ r2
    replace r3 := keep_cell hv_ r3
    replace s0 := keep_cell hv_ s0
    replace s1 := keep_cell hv_ s1
    replace s2 := keep_cell hv_ s2
    replace s3 := keep_cell hv_ s3
    have lt_q0 := cell_lt q0
    have lt_q1 := cell_lt q1
    have lt_q2 := cell_lt q2
    have lt_q3 := cell_lt q3
    have lt_r0 := cell_lt r0
    have lt_r1 := cell_lt r1
    have lt_r2 := cell_lt r2
    have lt_r3 := cell_lt r3
    have lt_s0 := cell_lt s0
    have lt_s1 := cell_lt s1
    have lt_s2 := cell_lt s2
    have lt_s3 := cell_lt s3
    replace z1 := z1.below hv_
    replace z2 := z2.below hv_
    replace z3 := z3.below hv_
    replace f_z1 := z1.fr
    replace f_z2 := z2.fr
    replace f_z3 := z3.fr
    replace HB := HB.trans (hv_.mono HB.size)
    clear hv_
    go_wp2_with fail
    refine (HS.out _ HB).mono ?_
    rintro e w2 ⟨R1, c1, R2, c2, rfl, m1, m2, h2⟩
    have hv_ : Below w1.heap.size w1 w2 := Below.trans (b := _) (by repeat (first | assumption | exact Bv _ _ | refine Ba ?_ (by simp; try omega) _ | refine Bd ?_ | refine Bn ?_ _)) (h2.mono (by simp; try omega))
    replace q0 := keep_cell hv_ q0
    replace q1 := keep_cell hv_ q1
    replace q2 := keep_cell hv_ q2
    replace q3 := keep_cell hv_ q3
    replace r0 := keep_cell hv_ r0
    replace r1 := keep_cell hv_ r1
    replace r2 := keep_cell hv_ r2
    replace r3 := keep_cell hv_ r3
    replace s0 := keep_cell hv_ s0
    replace s1 := keep_cell hv_ s1
    replace s2 := keep_cell hv_ s2
    replace s3 := keep_cell hv_ s3
    have lt_q0 := cell_lt q0
    have lt_q1 := cell_lt q1
    have lt_q2 := cell_lt q2
    have lt_q3 := cell_lt q3
    have lt_r0 := cell_lt r0
    have lt_r1 := cell_lt r1
    have lt_r2 := cell_lt r2
    have lt_r3 := cell_lt r3
    have lt_s0 := cell_lt s0
    have lt_s1 := cell_lt s1
    have lt_s2 := cell_lt s2
    have lt_s3 := cell_lt s3
    replace z1 := z1.below hv_
    replace z2 := z2.below hv_
    replace z3 := z3.below hv_
    replace f_z1 := z1.fr
    replace f_z2 := z2.fr
    replace f_z3 := z3.fr
    replace HB := HB.trans (hv_.mono HB.size)
    clear hv_
    go_wp2
    refine bodyPost_ret (v := .tuple #[.agg #[.bool bq, .slice R1 kq c1, .bool false, .slice R2 lq c2], .int .i64 err]) ?_ rfl ?_
    · simp [results, Try.results41, go_sem, s0, s1, s2, s3]
    · obtain ⟨j1_, j2_, j3_⟩ := fin_fr m1 m2 HB (by omega) s0 s1 s2 s3 (.bool bq) (.slice R1 kq c1) (.bool false) (.slice R2 lq c2)
      exact GF.r ⟨R1, c1, R2, c2, rfl, j1_, j2_, j3_⟩ IQ.out
theorem subE_add (f g : Int × Nat) : addE f (fneg g) = subE f g := by unfold addE subE fneg; rw [Int.neg_mul, ← Int.sub_eq_add_neg]
set_option maxRecDepth 100000 in
set_option maxHeartbeats 4000000 in
theorem FrSub_any {na nb nc nd : Bool} {xs ys us vs : List Nat} {A B C D : Option Addr} {ca cb cc cd : Nat} {w : World} (ma : Mg w A ca xs) (mb : Mg w B cb ys) (mc : Mg w C cc us) (md : Mg w D cd vs) :
    Calls Try.prog 40 #[.agg #[.bool na, .slice A xs.length ca, .bool nb, .slice B ys.length cb], .agg #[.bool nc, .slice C us.length cc, .bool nd, .slice D vs.length cd]] w (RetFE w (opR subE na xs nb ys nc us nd vs)) := by
  have HX := hid fun (w1 : World) (h : Below w.heap.size w w1) => Frvalid2 (na := na) (nb := nb) (nc := nc) (nd := nd) (u := w1) (ma.below h) (mb.below h) (mc.below h) (md.below h)
  cases hv : (fvB na xs nb ys && fvB nc us nd vs)
  · have hr_ : opR subE na xs nb ys nc us nd vs = ((0, 0), 1) := by unfold opR; rw [hv]; rfl
    rw [hr_]
    rw [hv] at HX
    clear hr_ hv ma mb mc md
    generalize xs.length = ka at *
    generalize ys.length = la at *
    generalize us.length = kb at *
    generalize vs.length = lb at *
    go_enter Try.func40, Try.ntmps40
    go_wp2_with fail
    refine enterFFF (P := fun u => Calls _ _ _ (u.alloc _) _) ?_
    intro u HB q0 q1 q2 q3 r0 r1 r2 r3 s0 s1 s2 s3 z1 z2 z3 hsz
    have f_z1 := z1.fr
    have f_z2 := z2.fr
    have f_z3 := z3.fr
    have lt_q0 := cell_lt q0
    have lt_r0 := cell_lt r0
    have lt_s0 := cell_lt s0
    have HX2 := HX.out u HB
    rw [hsz.out] at HX2
    refine HX2.mono ?_
    clear HX2
    rintro e w1 ⟨rfl, h1⟩
    have hv_ : Below u.heap.size u w1 := Below.trans (b := _) (by repeat (first | assumption | exact Bv _ _ | refine Ba ?_ (by simp; try omega) _ | refine Bd ?_ | refine Bn ?_ _)) (h1.mono (by simp; try omega))
    replace q0 := keep_cell hv_ q0
    replace q1 := keep_cell hv_ q1
    replace q2 := keep_cell hv_ q2
    replace q3 := keep_cell hv_ q3
    replace r0 := keep_cell hv_ r0
    replace r1 := keep_cell hv_ r1
    replace r2 := keep_cell hv_ r2
    replace r3 := keep_cell hv_ r3
    replace s0 := keep_cell hv_ s0
    replace s1 := keep_cell hv_ s1
    replace s2 := keep_cell hv_ s2
    replace s3 := keep_cell hv_ s3
    have lt_q0 := cell_lt q0
    have lt_q1 := cell_lt q1
    have lt_q2 := cell_lt q2
    have lt_q3 := cell_lt q3
    have lt_r0 := cell_lt r0
    have lt_r1 := cell_lt r1
    have lt_r2 := cell_lt r2
    have lt_r3 := cell_lt r3
    have lt_s0 := cell_lt s0
    have lt_s1 := cell_lt s1
    have lt_s2 := cell_lt s2
    have lt_s3 := cell_lt s3
    replace z1 := z1.below hv_
    replace z2 := z2.below hv_
    replace z3 := z3.below hv_
    replace f_z1 := z1.fr
    replace f_z2 := z2.fr
    replace f_z3 := z3.fr
    replace HB := HB.trans (hv_.mono HB.size)
    clear hv_
    go_wp2
    refine bodyPost_ret (v := .tuple #[.agg #[.bool false, .slice none 0 0, .bool false, .slice none 0 0], .int .i64 1]) ?_ rfl ?_
    · simp [results, Try.results40, go_sem, s0, s1, s2, s3]
    · exact retFE_set 1 HB (by omega) s0 s1 s2 s3
  · rw [hv] at HX
    have hvv_ := hv
    simp only [Bool.and_eq_true] at hvv_
    obtain ⟨v1, v2⟩ := hvv_
    clear hv
    obtain ⟨rfl, p1, p2, p3, p4, p5, p6⟩ := fvB_ok ma.ok mb.ok v1
    obtain ⟨rfl, p7, p8, p9, p10, p11, p12⟩ := fvB_ok mc.ok md.ok v2
    have hr_ : opR subE na xs false ys nc us false vs = subE (sg na (val xs), val ys) (sg nc (val us), val vs) := by unfold opR; rw [v1, v2]; rfl
    rw [hr_]
    have IF : Hid (Fz (sg na (val xs), val ys) na xs.length xs ys.length ys) := ⟨p1, by rw [natAbs_sg]; exact p2, rfl, p3, rfl⟩
    have IG : Hid (Fz (sg nc (val us), val vs) nc us.length us vs.length vs) := ⟨p7, by rw [natAbs_sg]; exact p8, rfl, p9, rfl⟩
    generalize (sg na (val xs), val ys) = f at *
    generalize (sg nc (val us), val vs) = g at *
    have NF := hid p4
    have NG := hid p10
    clear hr_ v1 v2 p1 p2 p3 p4 p7 p8 p9 p10
    generalize xs.length = ka at *
    generalize ys.length = la at *
    generalize us.length = kb at *
    generalize vs.length = lb at *
    obtain ⟨p, err, hp⟩ : ∃ p err, subE f g = (p, err) := ⟨_, _, rfl⟩
    obtain ⟨bq, kq, Xq, lq, Yq, IQ⟩ := fz p
    obtain ⟨bn, kn, Xn, ln, Yn, IN⟩ := fz (fneg g)
    have hkn : kn ≤ 512 := by rw [← IN.out.n.len]; unfold fneg; rw [Int.natAbs_neg, IG.out.n.len]; exact p11
    have hln : ln ≤ 512 := by rw [← IN.out.d.len]; unfold fneg; rw [IG.out.d.len]; exact p12
    have HO := hid fun (w1 : World) (h : Below w.heap.size w w1) => Fropposite_g (w := w1) IG.out IN.out rfl (by unfold fits; rw [IG.out.n.len]; exact p11) (mc.below h) (md.below h)
    have HS := hid fun (w1 : World) (h : Below w.heap.size w w1) (R Q : Option Addr) (c d : Nat) (m : Mg w1 R c Xn) (m' : Mg w1 Q d Yn) => (Frsum2 (u := w1) IF.out IN.out NF.out (fneg_nf NG.out) (ma.below h) (mb.below h) m m' p5 p6 hkn hln).mono fun e w' h => by
      rw [subE_add, hp] at h; exact RetFE.g h IQ.out
    rw [hp]
    clear hp ma mb mc md IF IG NF NG IN hkn hln
    go_enter Try.func40, Try.ntmps40
    go_wp2_with fail
    refine enterFFF (P := fun u => Calls _ _ _ (u.alloc _) _) ?_
    intro u HB q0 q1 q2 q3 r0 r1 r2 r3 s0 s1 s2 s3 z1 z2 z3 hsz
    have f_z1 := z1.fr
    have f_z2 := z2.fr
    have f_z3 := z3.fr
    have lt_q0 := cell_lt q0
    have lt_r0 := cell_lt r0
    have lt_s0 := cell_lt s0
    have HX2 := HX.out u HB
    rw [hsz.out] at HX2
    refine HX2.mono ?_
    clear HX2
    rintro e w1 ⟨rfl, h1⟩
    have hv_ : Below u.heap.size u w1 := Below.trans (b := _) (by repeat (first | assumption | exact Bv _ _ | refine Ba ?_ (by simp; try omega) _ | refine Bd ?_ | refine Bn ?_ _)) (h1.mono (by simp; try omega))
    replace q0 := keep_cell hv_ q0
    replace q1 := keep_cell hv_ q1
    replace q2 := keep_cell hv_ q2
    replace q3 := keep_cell hv_ q3
    replace r0 := keep_cell hv_ r0
    replace r1 := keep_cell hv_ r1
    replace r2 := keep_cell hv_ r2
    replace r3 := keep_cell hv_ r3
    replace s0 := keep_cell hv_ s0
    replace s1 := keep_cell hv_ s1
    replace s2 := keep_cell hv_ s2
    replace s3 := keep_cell hv_ s3
    have lt_q0 := cell_lt q0
    have lt_q1 := cell_lt q1
    have lt_q2 := cell_lt q2
    have lt_q3 := cell_lt q3
    have lt_r0 := cell_lt r0
    have lt_r1 := cell_lt r1
    have lt_r2 := cell_lt r2
    have lt_r3 := cell_lt r3
    have lt_s0 := cell_lt s0
    have lt_s1 := cell_lt s1
    have lt_s2 := cell_lt s2
    have lt_s3 := cell_lt s3
    replace z1 := z1.below hv_
    replace z2 := z2.below hv_
    replace z3 := z3.below hv_
    replace f_z1 := z1.fr
    replace f_z2 := z2.fr
    replace f_z3 := z3.fr
    replace HB := HB.trans (hv_.mono HB.size)
    clear hv_
    go_wp2_with fail
    go_region_held3 (fun w' => (w'.cell? ⟨w.heap.size, 0, none⟩ = some (.bool na) ∧ w'.cell? ⟨w.heap.size, 1, none⟩ = some (.slice A ka ca) ∧ w'.cell? ⟨w.heap.size, 2, none⟩ = some (.bool false) ∧ w'.cell? ⟨w.heap.size, 3, none⟩ = some (.slice B la cb)) ∧ (w'.cell? ⟨w.heap.size + 1, 0, none⟩ = some (.bool nc) ∧ w'.cell? ⟨w.heap.size + 1, 1, none⟩ = some (.slice C kb cc) ∧ w'.cell? ⟨w.heap.size + 1, 2, none⟩ = some (.bool false) ∧ w'.cell? ⟨w.heap.size + 1, 3, none⟩ = some (.slice D lb cd))) (first | ((try dsimp only); repeat' (first | with_reducible assumption | apply And.intro | (with_reducible refine keep_alloc ?_) | (with_reducible refine keep_drew ?_) | (with_reducible refine keep_set (by first | omega | (simp only [World.size_alloc, World.size_setCell, World.size_drew]; done) | (simp only [World.size_alloc, World.size_setCell, World.size_drew]; omega)) ?_) | (with_reducible refine keep_cell (W := w1) ?_ ?_) | fail))) (first | (go_at_call 63; (with_reducible refine (HO.out _ (bel_step HB BG)).mono ?_); rintro e y1 ⟨Rn, cn, Qn, dn, rfl, mn, mn2, hq_⟩; have qy1 : Below w1.heap.size w1 y1 := bel_step BG hq_) | (go_at_call 62; (with_reducible refine (HS.out _ (bel_step HB BG) _ _ _ _ (mn.below BG) (mn2.below BG)).mono ?_); rintro e y2 ⟨R1, c1, R2, c2, rfl, m1, m2, hq_⟩; have qy2 : Below w1.heap.size w1 y2 := bel_step BG hq_; have s0 := keep_cell qy2 s0; have s1 := keep_cell qy2 s1; have s2 := keep_cell qy2 s2; have s3 := keep_cell qy2 s3; have z3 := z3.below qy2; have f_z3 := z3.fr))
    replace HB := bel_step HB qy2
    go_wp2
    refine bodyPost_ret (v := .tuple #[.agg #[.bool bq, .slice R1 kq c1, .bool false, .slice R2 lq c2], .int .i64 err]) ?_ rfl ?_
    · simp [results, Try.results40, go_sem, s0, s1, s2, s3]
    · obtain ⟨j1_, j2_, j3_⟩ := fin_fr m1 m2 HB (by omega) s0 s1 s2 s3 (.bool bq) (.slice R1 kq c1) (.bool false) (.slice R2 lq c2)
      exact GF.r ⟨R1, c1, R2, c2, rfl, j1_, j2_, j3_⟩ IQ.out
end Go.Proofs.Ytgnfobnkhjlbbaa
/- Package fraction: walks of Cmp, Floor, Round. Conditions: none. -/
namespace Go.Proofs.Ytgnfobnkhjlbbaa
open Go.RowKit Big
end Go.Proofs.Ytgnfobnkhjlbbaa
/- Package fraction: the walk of unfold. Conditions: none. -/
namespace Go.Proofs.Ytgnfobnkhjlbbaa
open Go.RowKit Big

theorem Zn.alloc {W : World} {g : Nat} {o : Obj} (h : Zn W g) : Zn (W.alloc o) g := h.below ((Below.refl _ _).alloc (Nat.le_refl _) _)
theorem Zn.drew {W : World} {g : Nat} (h : Zn W g) : Zn W.drew g := ⟨h.lt, h.fr⟩
theorem Zn.set {W : World} {g : Nat} {a : Addr} {u : Value} (h : Zn W g) : Zn (W.setCell a u) g := ⟨by have := h.lt; simpa using this, fun i => by have := h.fr i; simpa using this⟩
theorem Zn.new {W : World} {X : Array Value} {t : TypeId} {g : Nat} (hg : g = W.heap.size) : Zn (W.alloc (.cells X t)) g := by
  subst hg
  obtain ⟨_, q, r⟩ := box_keep (w := W) (Below.refl _ (W.alloc (.cells X t)))
  exact ⟨r, q⟩
/-- a term of a continued fraction, and where its limbs lie -/
structure Te where
  t : Nat
  A : Option Addr
  c : Nat
structure TeAt (w : World) (g o : Nat) (f : Te) : Prop where
  c0 : w.cell? ⟨g, o, none⟩ = some (.bool false)
  c1 : w.cell? ⟨g, o + 1, none⟩ = some (.slice f.A (limbs f.t).length f.c)
  m : Mg w f.A f.c (limbs f.t)
theorem TeAt.below {w w' : World} {g o : Nat} {f : Te} (h : TeAt w g o f) (hb : Below w.heap.size w w') : TeAt w' g o f :=
  ⟨keep_cell hb h.c0, keep_cell hb h.c1, h.m.below hb⟩
end Go.Proofs.Ytgnfobnkhjlbbaa
/- A row of terms that the call owns: elements of two cells. Conditions: none. -/
namespace Go.Proofs.Ytgnfobnkhjlbbaa
open Go.RowKit Big
def Te.cells (f : Te) : List Value := [.bool false, .slice f.A (limbs f.t).length f.c]
def cellsT : List Te → List Value
  | [] => []
  | f :: ts => f.cells ++ cellsT ts
theorem cellsT_get : ∀ (ts : List Te) (j : Nat) (h : j < ts.length), (cellsT ts)[j * 2]? = some (.bool false) ∧ (cellsT ts)[j * 2 + 1]? = some (.slice ts[j].A (limbs ts[j].t).length ts[j].c)
  | [], j, h => by simp at h
  | f :: ts, 0, _ => ⟨rfl, rfl⟩
  | f :: ts, j + 1, h => by
    have h' := cellsT_get ts j (by simpa using h)
    have e1 : (j + 1) * 2 = j * 2 + 2 := by omega
    have e2 : (j + 1) * 2 + 1 = j * 2 + 1 + 2 := by omega
    rw [e1]
    exact ⟨h'.1, h'.2⟩
def isW : Value → Bool
  | .int .u32 _ => true
  | _ => false
/-- a row of terms that the call owns; no cell of its block holds a limb -/
structure OwnT (w : World) (base : Nat) (v : Value) (ts : List Te) : Prop where
  own : w.ownsRow base 24 2 v ts.length (cellsT ts)
  ni : ∀ k, v.ownBlock = some k → ∀ cur e fz, w.heap[k]? = some (.cells cur e fz) → ∀ x ∈ cur.toList, isW x = false
theorem OwnT.nil (w : World) (base : Nat) : OwnT w base (.slice none 0 0) [] := ⟨World.ownsRow_nil _ _ _ _, fun k h => by simp [Value.ownBlock] at h⟩
theorem OwnT.below {w w' : World} {base : Nat} {v : Value} {ts : List Te} (h : OwnT w base v ts) (hb : Below w.heap.size w w') : OwnT w' base v ts := by
  refine ⟨⟨h.own.1, ?_⟩, fun k hk cur e fz hc => ?_⟩
  · rcases h.own.2 with h2 | ⟨g, cap, cur, hv, hg, hh, r⟩
    · exact .inl h2
    · exact .inr ⟨g, cap, cur, hv, hg, (hb.block g (Array.getElem?_eq_some_iff.1 hh).1).trans hh, r⟩
  · exact h.ni k hk cur e fz ((hb.block k (h.own.lt k hk).2).symm.trans hc)
/-- limbs lie in no such block -/
theorem OwnT.far {w : World} {base : Nat} {v : Value} {ts : List Te} (h : OwnT w base v ts) {A : Option Addr} {c : Nat} {xs : List Nat} (m : Mg w A c xs) (hl : 0 < xs.length) : ∀ p, A = some p → some p.block ≠ v.ownBlock := by
  intro p hp he
  obtain ⟨b, o, e, hB, hc⟩ := m.rd hl
  rw [e] at hp
  injection hp with hp
  subst hp
  have h1 := hc 0 hl
  have h2 := h.ni b he.symm
  unfold World.cell? at h1
  simp only [Option.isSome_none, Bool.false_eq_true, if_false] at h1
  split at h1
  · rename_i cur e' fz hq
    have h3 := h2 cur e' fz hq (lim xs[0]) (by
      obtain ⟨h4, h5⟩ := Array.getElem?_eq_some_iff.1 h1
      rw [← h5]; exact Array.getElem_mem_toList h4)
    simp [lim, isW] at h3
  · cases h1
theorem Mg.grownT {w w' : World} {base : Nat} {v : Value} {ts : List Te} (h : OwnT w base v ts) {A : Option Addr} {c : Nat} {xs : List Nat} (m : Mg w A c xs) (hg : w.grownBy w' v.ownBlock) : Mg w' A c xs :=
  ⟨m.cap, m.max, m.ok, fun hl => by
    have hne := h.far m hl
    obtain ⟨b, o, e, hB, hc⟩ := m.rd hl
    exact ⟨b, o, e, Nat.lt_of_lt_of_le hB hg.size, fun j hj => (World.cell?_of_block (a := ⟨b, o + j, none⟩) (hg.block b hB (hne _ e))).trans (hc j hj)⟩⟩
theorem Zn.grownT {w w' : World} {row : Option Nat} (hg : w.grownBy w' row) {b : Nat} (hne : some b ≠ row) (h : Zn w b) : Zn w' b :=
  ⟨Nat.lt_of_lt_of_le h.lt hg.size, fun i => (World.frozen?_of_block (a := ⟨b, i, none⟩) (hg.block b h.lt hne)).trans (h.fr i)⟩
section
variable {P : Program}
end

/-- the limbs of the terms -/
structure TMg (w : World) (ts : List Te) : Prop where
  m : ∀ j (h : j < ts.length), Mg w ts[j].A ts[j].c (limbs ts[j].t)
theorem TMg.below {w w' : World} {ts : List Te} (h : TMg w ts) (hb : Below w.heap.size w w') : TMg w' ts := ⟨fun j hj => (h.m j hj).below hb⟩
theorem TMg.nil (w : World) : TMg w [] := ⟨fun j h => by simp at h⟩
theorem TMg.grown {w w' : World} {base : Nat} {v : Value} {ts us : List Te} (h : TMg w ts) (ho : OwnT w base v us) (hg : w.grownBy w' v.ownBlock) : TMg w' ts := ⟨fun j hj => (h.m j hj).grownT ho hg⟩
theorem TMg.mono {w w' : World} {ts : List Te} (h : TMg w ts) (f : ∀ A c xs, Mg w A c xs → Mg w' A c xs) : TMg w' ts := ⟨fun j hj => f _ _ _ (h.m j hj)⟩
theorem OwnT.form {w : World} {base : Nat} {v : Value} {ts : List Te} (h : OwnT w base v ts) : ∃ A c, v = .slice A ts.length c ∧ ts.length ≤ c ∧ c ≤ 9223372036854775807 := by
  rcases h.own.2 with ⟨rfl, h0⟩ | ⟨g, cap, cur, rfl, _, hg, hnc, hmx, hcs, htake⟩
  · exact ⟨none, 0, by rw [h0], by omega, by omega⟩
  · exact ⟨_, cap, rfl, hnc, by unfold maxLen at hmx; omega⟩
theorem OwnT.at_ {w : World} {base : Nat} {A : Option Addr} {n c : Nat} {ts : List Te} (h : OwnT w base (.slice A n c) ts) (hm : TMg w ts) : 0 < ts.length → ∃ g, A = some ⟨g, 0, none⟩ ∧ ∀ j (h : j < ts.length), TeAt w g (j * 2) ts[j] := by
  intro h0
  rcases h.own.2 with ⟨_, h1⟩ | ⟨g, cap, cur, hv, _, hg, hnc, hmx, hcs, htake⟩
  · omega
  · injection hv with hv
    refine ⟨g, hv, fun j hj => ?_⟩
    obtain ⟨h1, h2⟩ := cellsT_get ts j hj
    rw [← htake] at h1 h2
    rw [List.getElem?_take, if_pos (by omega)] at h1 h2
    refine ⟨?_, ?_, hm.m j hj⟩
    · rw [cell_of_row w g _ cur _ _ hg]; simpa using h1
    · rw [cell_of_row w g _ cur _ _ hg]; simpa using h2
/-- another block is written: the row stays -/
theorem OwnT.set {w : World} {base : Nat} {v : Value} {ts : List Te} (h : OwnT w base v ts) {g i : Nat} {u : Value} (hg : g < base) : OwnT (w.setCell ⟨g, i, none⟩ u) base v ts := by
  have hne : ∀ k, v.ownBlock = some k → (w.setCell ⟨g, i, none⟩ u).heap[k]? = w.heap[k]? := fun k hk => by
    have := (h.own.lt k hk).1
    exact Below.heap_setCell w ⟨g, i, none⟩ u k (by simp; omega)
  refine ⟨⟨h.own.1, ?_⟩, fun k hk cur e fz hc => h.ni k hk cur e fz ((hne k hk).symm.trans hc)⟩
  rcases h.own.2 with h2 | ⟨g', cap, cur, hv, hg', hh, r⟩
  · exact .inl h2
  · exact .inr ⟨g', cap, cur, hv, hg', (hne g' (by rw [hv]; rfl)).trans hh, r⟩
end Go.Proofs.Ytgnfobnkhjlbbaa
/- Package fraction: the walk of between. Conditions: none. -/
namespace Go.Proofs.Ytgnfobnkhjlbbaa
open Go.RowKit Big
structure BSt (wr : World) (n d m k gr g2 g3 : Nat) : Prop where
  ex : ∃ (bn : Bool) (kn : Nat) (Ln : List Nat) (An : Option Addr) (cn : Nat) (kd : Nat) (Ld : List Nat) (Ad : Option Addr) (cd : Nat) (bm : Bool) (km : Nat) (Lm : List Nat) (Am : Option Addr) (cm : Nat) (kk : Nat) (Lk : List Nat) (Ak : Option Addr) (ck : Nat),
    Hid (Iz (n : Nat) bn kn Ln) ∧ Hid (Iz (d : Nat) false kd Ld) ∧ Hid (Iz (m : Nat) bm km Lm) ∧ Hid (Iz (k : Nat) false kk Lk) ∧ Mg wr An cn Ln ∧ Mg wr Ad cd Ld ∧ Mg wr Am cm Lm ∧ Mg wr Ak ck Lk ∧
    wr.cell? ⟨g2, 0, none⟩ = some (.bool bn) ∧ wr.cell? ⟨g2, 1, none⟩ = some (.slice An kn cn) ∧ wr.cell? ⟨g2, 2, none⟩ = some (.bool false) ∧ wr.cell? ⟨g2, 3, none⟩ = some (.slice Ad kd cd) ∧
    wr.cell? ⟨g3, 0, none⟩ = some (.bool bm) ∧ wr.cell? ⟨g3, 1, none⟩ = some (.slice Am km cm) ∧ wr.cell? ⟨g3, 2, none⟩ = some (.bool false) ∧ wr.cell? ⟨g3, 3, none⟩ = some (.slice Ak kk ck)
  res : ∃ x0 x2 A1 n1 c1 B1 m1 d1, wr.cell? ⟨gr, 0, none⟩ = some (.bool x0) ∧ wr.cell? ⟨gr, 1, none⟩ = some (.slice A1 n1 c1) ∧ wr.cell? ⟨gr, 2, none⟩ = some (.bool x2) ∧ wr.cell? ⟨gr, 3, none⟩ = some (.slice B1 m1 d1)
  z1 : Zn wr gr
  z2 : Zn wr g2
  z3 : Zn wr g3
theorem BSt.below {wr w' : World} {n d m k gr g2 g3 : Nat} (h : BSt wr n d m k gr g2 g3) (hb : Below wr.heap.size wr w') : BSt w' n d m k gr g2 g3 := by
  obtain ⟨⟨bn, kn, Ln, An, cn, kd, Ld, Ad, cd, bm, km, Lm, Am, cm, kk, Lk, Ak, ck, i1, i2, i3, i4, m1, m2, m3, m4, q0, q1, q2, q3, r0, r1, r2, r3⟩, ⟨x0, x2, A1, n1, c1, B1, mm1, d1, s0, s1, s2, s3⟩, z1, z2, z3⟩ := h
  exact ⟨⟨bn, kn, Ln, An, cn, kd, Ld, Ad, cd, bm, km, Lm, Am, cm, kk, Lk, Ak, ck, i1, i2, i3, i4, m1.below hb, m2.below hb, m3.below hb, m4.below hb, keep_cell hb q0, keep_cell hb q1, keep_cell hb q2, keep_cell hb q3, keep_cell hb r0, keep_cell hb r1, keep_cell hb r2, keep_cell hb r3⟩, ⟨x0, x2, A1, n1, c1, B1, mm1, d1, keep_cell hb s0, keep_cell hb s1, keep_cell hb s2, keep_cell hb s3⟩, z1.below hb, z2.below hb, z3.below hb⟩
def lenOf : Value → Nat
  | .slice _ n _ => n
  | _ => 0
end Go.Proofs.Ytgnfobnkhjlbbaa
/- Package fraction: the walk of Simplest. Conditions: none. -/
namespace Go.Proofs.Ytgnfobnkhjlbbaa
open Go.RowKit Big

theorem at_allocF0 {W : World} {g : Nat} {a b c d : Value} {t : TypeId} (hg : g = W.heap.size) : (W.alloc (.cells #[a, b, c, d] t)).cell? ⟨g, 0, none⟩ = some a := by
  subst hg; exact (World.cell?_alloc_at _ _ _ _ rfl).trans rfl
theorem at_allocF1 {W : World} {g : Nat} {a b c d : Value} {t : TypeId} (hg : g = W.heap.size) : (W.alloc (.cells #[a, b, c, d] t)).cell? ⟨g, 1, none⟩ = some b := by
  subst hg; exact (World.cell?_alloc_at _ _ _ _ rfl).trans rfl
theorem at_allocF2 {W : World} {g : Nat} {a b c d : Value} {t : TypeId} (hg : g = W.heap.size) : (W.alloc (.cells #[a, b, c, d] t)).cell? ⟨g, 2, none⟩ = some c := by
  subst hg; exact (World.cell?_alloc_at _ _ _ _ rfl).trans rfl
theorem at_allocF3 {W : World} {g : Nat} {a b c d : Value} {t : TypeId} (hg : g = W.heap.size) : (W.alloc (.cells #[a, b, c, d] t)).cell? ⟨g, 3, none⟩ = some d := by
  subst hg; exact (World.cell?_alloc_at _ _ _ _ rfl).trans rfl
end Go.Proofs.Ytgnfobnkhjlbbaa
