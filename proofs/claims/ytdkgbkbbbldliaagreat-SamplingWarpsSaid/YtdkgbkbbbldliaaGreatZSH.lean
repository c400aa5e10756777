/- Sampling, the reference: the rows of an image. Conditions: none. -/
import Derived.Test.YtdkgbkbbbldliaaGreatZSG
set_option linter.unusedVariables false
set_option linter.unusedSimpArgs false
namespace Go.Proofs.YtdkgbkbbbldliaaGreat
open Go.RowKit Big
theorem num_of {fs : List Rf} {N : List Int} {w : World} (ho : ∀ e ∈ zl fs, e.ok w) (hz : (zl fs).map (·.z) = homZ N) (j : Nat) (h1 : j < fs.length) (h2 : j < N.length) :
  Iz N[j] fs[j].na fs[j].xs.length fs[j].xs ∧ Mg w fs[j].A fs[j].ca fs[j].xs := by
 have h := homZ_at hz j h1 h2
 simp only [Rf.ze, List.map_cons, List.map_nil, List.cons.injEq, and_true] at h
 have hm := ho _ (List.mem_of_getElem? (zl_get fs j h1).1)
 rw [← h.1]
 exact ⟨hm.i, hm.m⟩
set_option maxRecDepth 100000 in
set_option maxHeartbeats 8000000 in
theorem S4row_g (fs : List Rf) (h9 : fs.length = 9) {N : List Int} (hN : N.length = 9) {w : World} (ho : ∀ e ∈ zl fs, e.ok w) (hz : (zl fs).map (·.z) = homZ N) (hB : ∀ z ∈ N, Bz 1280 z) (i : Nat) (hi : i < 3) (at_ : Int) (hat : at_ = ((3 * i : Nat) : Int))
  (X Y : Int) (hX : 0 ≤ X ∧ X ≤ 8193) (hY : 0 ≤ Y ∧ Y ≤ 8193) {b : Bool} {n : Nat} {xs : List Nat} (I : Iz (rwZ N i X Y) b n xs) :
  Calls Tryz.prog 65 #[.agg (Kc (zl fs)).toArray, .int .i64 at_, .int .i64 X, .int .i64 Y] w (GZ w b n xs) := by
 obtain ⟨a, ha⟩ : ∃ a, 3 * i = a := ⟨_, rfl⟩
 have ha2 : a + 2 < N.length := by omega
 have hrw : rwZ N i X Y = N[a] * X + N[a + 1] * Y + 2 * N[a + 2] := by subst ha; exact rwZ_at ha2 X Y
 rw [hrw] at I
 rw [ha] at hat
 subst hat
 clear hrw
 have ha9 : a + 2 < 9 := by omega
 obtain ⟨i0, m0⟩ := num_of ho hz a (by omega) (by omega)
 obtain ⟨i1, m1⟩ := num_of ho hz (a + 1) (by omega) (by omega)
 obtain ⟨i2, m2⟩ := num_of ho hz (a + 2) (by omega) (by omega)
 have b0 := hB N[a] (List.getElem_mem _)
 have b1 := hB N[a + 1] (List.getElem_mem _)
 have b2 := hB N[a + 2] (List.getElem_mem _)
 have bX := Xb (z := X) (by omega)
 have bY := Xb (z := Y) (by omega)
 have bT := Xb (z := 2) (by omega)
 have HC := hid fun (W : World) (r0 : W.rangeAt w.heap.size 0 (Kc (zl fs))) => And.intro (Wb r0 a (by omega)) (And.intro (Wb r0 (a + 1) (by omega)) (Wb r0 (a + 2) (by omega)))
 generalize N[a] = z0 at *
 generalize N[a + 1] = z1 at *
 generalize N[a + 2] = z2 at *
 generalize fs[a] = f0 at *
 generalize fs[a + 1] = f1 at *
 generalize fs[a + 2] = f2 at *
 obtain ⟨xb, xn, xl, IX⟩ := iz X
 obtain ⟨yb, yn, yl, IY⟩ := iz Y
 obtain ⟨tb, tn, tl, IT⟩ := iz (2 : Int)
 obtain ⟨pb0, pn0, pl0, P0⟩ := iz (z0 * X)
 obtain ⟨pb1, pn1, pl1, P1⟩ := iz (z1 * Y)
 obtain ⟨pb2, pn2, pl2, P2⟩ := iz (z2 * 2)
 obtain ⟨sb, sn, sl, IS⟩ := iz (z0 * X + z1 * Y)
 have HFX := hid fun (W : World) => Xi (w := W) IX.out (by omega) (by omega)
 have HFY := hid fun (W : World) => Xi (w := W) IY.out (by omega) (by omega)
 have HFT := hid fun (W : World) => Xi (w := W) IT.out (by omega) (by omega)
 have HM0 := hid fun (W : World) (h : Below w.heap.size w W) (R : Option Addr) (cc : Nat) (m : Mg W R cc xl) => RMul_g (w := W) i0 IX.out P0.out (J7 ((b0.mul bX).ft (by omega))) (m0.below h) m (b0.ft (by omega)) (bX.ft (by omega)) rfl
 have HM1 := hid fun (W : World) (h : Below w.heap.size w W) (R : Option Addr) (cc : Nat) (m : Mg W R cc yl) => RMul_g (w := W) i1 IY.out P1.out (J7 ((b1.mul bY).ft (by omega))) (m1.below h) m (b1.ft (by omega)) (bY.ft (by omega)) rfl
 have HM2 := hid fun (W : World) (h : Below w.heap.size w W) (R : Option Addr) (cc : Nat) (m : Mg W R cc tl) => RMul_g (w := W) i2 IT.out P2.out (J7 ((b2.mul bT).ft (by omega))) (m2.below h) m (b2.ft (by omega)) (bT.ft (by omega)) rfl
 have HA1 := hid fun (W : World) (R Q : Option Addr) (c d : Nat) (m : Mg W R c pl0) (m' : Mg W Q d pl1) => RAdd_g (w := W) P0.out P1.out IS.out (J7 (((b0.mul bX).add (b1.mul bY)).ft (by omega))) m m' ((b0.mul bX).ft (by omega)) ((b1.mul bY).ft (by omega)) rfl
 have HA2 := hid fun (W : World) (R Q : Option Addr) (c d : Nat) (m : Mg W R c sl) (m' : Mg W Q d pl2) => RAdd_g (w := W) IS.out P2.out I (J7 (by rw [Int.mul_comm 2 z2]; exact (((b0.mul bX).add (b1.mul bY)).add ((b2.mul bT).mono (by omega))).ft (by omega))) m m' (((b0.mul bX).add (b1.mul bY)).ft (by omega)) ((b2.mul bT).ft (by omega)) (by rw [Int.mul_comm 2 z2])
 clear ho hz hB i0 i1 i2 m0 m1 m2 b0 b1 b2 bX bY bT IX IY IT P0 P1 P2 IS I hX hY
 obtain ⟨na0, A0, xs0, ca0, nb0, B0, ys0, cb0⟩ := f0
 obtain ⟨na1, A1, xs1, ca1, nb1, B1, ys1, cb1⟩ := f1
 obtain ⟨na2, A2, xs2, ca2, nb2, B2, ys2, cb2⟩ := f2
 dsimp only at *
 generalize xs0.length = k0 at *
 generalize xs1.length = k1 at *
 generalize xs2.length = k2 at *
 have w1 : IntKind.i64.wrap ((a : Int) + 1) = (a : Int) + 1 := by rw [IntKind.wrap_i64]; omega
 have w2 : IntKind.i64.wrap ((a : Int) + 2) = (a : Int) + 2 := by rw [IntKind.wrap_i64]; omega
 have v1 : ((a : Int) + 1).toNat = a + 1 := by omega
 have v2 : ((a : Int) + 2).toNat = a + 2 := by omega
 have o0 : (a : Int) < 9 := by omega
 have o1 : (0 : Int) ≤ (a : Int) + 1 := by omega
 have o2 : (a : Int) + 1 < 9 := by omega
 have o3 : (0 : Int) ≤ (a : Int) + 2 := by omega
 have o4 : (a : Int) + 2 < 9 := by omega
 go_enter Tryz.func65, Tryz.ntmps65
 go_upto_region 1 with fail
 refine Jc (P := fun u => Code.wp _ _ _ _ u) (c1 := [.bool false, .slice none 0 0]) ?_
 intro u HB r0 r1 zn0 zn1 hsz
 clear hsz
 obtain ⟨⟨s0, s1, _, _⟩, ⟨s2, s3, _, _⟩, ⟨s4, s5, _, _⟩⟩ := HC.out u r0
 have q0 : u.cell? ⟨w.heap.size + 1, 0, none⟩ = some (.bool false) := r1 0 _ rfl
 have q1 : u.cell? ⟨w.heap.size + 1, 1, none⟩ = some (.slice none 0 0) := r1 1 _ rfl
 have lt_s0 := Kd s0
 have lt_q0 := Kd q0
 clear r0 r1 zn0 HC
 go_wp2_with fail
 go_cut [9, 10] (fun s1 s2 wx => s2 = .int .i64 (0) ∧ ∃ (g : Nat) (R : Option Addr) (c : Nat), s1 = .pointer (some ⟨g, 0, none⟩) ∧ Below u.heap.size u wx ∧ Mg wx R c pl0 ∧ wx.cell? ⟨g, 0, none⟩ = some (.bool pb0) ∧ wx.cell? ⟨g, 1, none⟩ = some (.slice R pn0 c))
 case first =>
  go_region_held3 (fun w' => w'.cell? ⟨w.heap.size, a * 4, none⟩ = some (.bool na0) ∧ w'.cell? ⟨w.heap.size, a * 4 + 1, none⟩ = some (.slice A0 k0 ca0)) (first | ((try dsimp only); repeat' (first | with_reducible assumption | apply And.intro | (with_reducible refine Kk ?_) | (with_reducible refine Kn ?_) | (with_reducible refine Kh (by first | omega | (simp only [World.size_alloc, World.size_setCell, World.size_drew]; done) | (simp only [World.size_alloc, World.size_setCell, World.size_drew]; omega)) ?_) | (with_reducible refine Ka (W := u) ?_ ?_) | fail))) (first | (go_at_call 55; (with_reducible refine (HFX.out _).mono ?_); rintro e y1 ⟨Rn, cn, rfl, mn, hq_⟩; have qy1 : Below u.heap.size u y1 := Kb BG hq_; obtain ⟨hc10, hf10⟩ := bcell hq_; have hz10 := hq_.size; (try simp only [World.size_alloc, World.size_drew] at hz10); have hs10 := qy1.size; (try have hx1 : u.heap.size < y1.heap.size := by omega)) | (go_at_call 101; (with_reducible refine (HM0.out _ (Kb HB BG) _ _ (mn.below BG)).mono ?_); rintro e y2 ⟨R2, c2, rfl, m2, hq_⟩; have qy2 : Below u.heap.size u y2 := Kb BG hq_; obtain ⟨hc11, hf11⟩ := bcell hq_; have hz11 := hq_.size; (try simp only [World.size_alloc, World.size_drew] at hz11); have hs11 := qy2.size; (try have hy1 : u.heap.size < y2.heap.size := by omega); (try have hy3 : y1.heap.size < y2.heap.size := by omega)))
  all_goals
   go_wp2_with fail
   go_meet
  all_goals
   go_light
   refine ⟨rfl, _, R2, c2, rfl, BG, ?_, ?_, ?_⟩
  any_goals ((repeat' (first | with_reducible assumption | (with_reducible refine Mg.alloc ?_) | (with_reducible refine Mg.setB ?_ ?_) | (with_reducible refine Mg.setS ?_ ?_) | (with_reducible refine K5 (by first | omega | (simp only [World.size_alloc, World.size_setCell, World.size_drew]; done) | (simp only [World.size_alloc, World.size_setCell, World.size_drew]; omega))) | (with_reducible refine K7 (by first | omega | (simp only [World.size_alloc, World.size_setCell, World.size_drew]; done) | (simp only [World.size_alloc, World.size_setCell, World.size_drew]; omega))) | (with_reducible refine Kk ?_) | (with_reducible refine K6 (by omega) ?_) | (with_reducible refine Kh (by first | omega | (simp only [World.size_alloc, World.size_setCell, World.size_drew]; done) | (simp only [World.size_alloc, World.size_setCell, World.size_drew]; omega)) ?_) | (with_reducible refine Ug ?_) | (with_reducible refine Ui ?_) | (with_reducible refine Kn ?_) | (with_reducible refine (hc11 _ _ (by first | omega | (simp only [World.size_alloc, World.size_setCell, World.size_drew]; done) | (simp only [World.size_alloc, World.size_setCell, World.size_drew]; omega))).trans ?_) | (with_reducible refine (hc10 _ _ (by first | omega | (simp only [World.size_alloc, World.size_setCell, World.size_drew]; done) | (simp only [World.size_alloc, World.size_setCell, World.size_drew]; omega))).trans ?_) | fail)); done)
 case rest =>
  obtain ⟨rfl, g1, Q1, d1, rfl, hx1, m1, p0, p1⟩ := hcut
  have hv_ : Below u.heap.size u wc := Below.trans (b := _) BL (hx1.mono (by simp; try omega))
  replace s2 := Ka hv_ s2
  replace s3 := Ka hv_ s3
  replace s4 := Ka hv_ s4
  replace s5 := Ka hv_ s5
  replace q0 := Ka hv_ q0
  replace q1 := Ka hv_ q1
  replace zn1 := zn1.below hv_
  replace HB := HB.trans (hv_.mono HB.size)
  clear hv_
  have lt_s2 := Kd s2
  have lt_q0 := Kd q0
  have lt_p0 := Kd p0
  clear s0 s1 HFX HM0
  go_wp2_with fail
  go_cut [11, 12] (fun s1 s2 wx => s2 = .int .i64 (0) ∧ ∃ (g : Nat) (R : Option Addr) (c : Nat), s1 = .pointer (some ⟨g, 0, none⟩) ∧ Below wc.heap.size wc wx ∧ Mg wx R c pl1 ∧ wx.cell? ⟨g, 0, none⟩ = some (.bool pb1) ∧ wx.cell? ⟨g, 1, none⟩ = some (.slice R pn1 c))
  case first =>
   go_region_held3 (fun w' => w'.cell? ⟨w.heap.size, (a + 1) * 4, none⟩ = some (.bool na1) ∧ w'.cell? ⟨w.heap.size, (a + 1) * 4 + 1, none⟩ = some (.slice A1 k1 ca1)) (first | ((try dsimp only); repeat' (first | with_reducible assumption | apply And.intro | (with_reducible refine Kk ?_) | (with_reducible refine Kn ?_) | (with_reducible refine Kh (by first | omega | (simp only [World.size_alloc, World.size_setCell, World.size_drew]; done) | (simp only [World.size_alloc, World.size_setCell, World.size_drew]; omega)) ?_) | (with_reducible refine Ka (W := wc) ?_ ?_) | fail))) (first | (go_at_call 55; (with_reducible refine (HFY.out _).mono ?_); rintro e y1 ⟨Rn, cn, rfl, mn, hq_⟩; have qy1 : Below wc.heap.size wc y1 := Kb BG hq_; obtain ⟨hc10, hf10⟩ := bcell hq_; have hz10 := hq_.size; (try simp only [World.size_alloc, World.size_drew] at hz10); have hs10 := qy1.size; (try have hx1 : wc.heap.size < y1.heap.size := by omega)) | (go_at_call 101; (with_reducible refine (HM1.out _ (Kb HB BG) _ _ (mn.below BG)).mono ?_); rintro e y2 ⟨R2, c2, rfl, m2, hq_⟩; have qy2 : Below wc.heap.size wc y2 := Kb BG hq_; obtain ⟨hc11, hf11⟩ := bcell hq_; have hz11 := hq_.size; (try simp only [World.size_alloc, World.size_drew] at hz11); have hs11 := qy2.size; (try have hy1 : wc.heap.size < y2.heap.size := by omega); (try have hy3 : y1.heap.size < y2.heap.size := by omega)))
   all_goals
    go_wp2_with fail
    go_meet
   all_goals
    go_light
    refine ⟨rfl, _, R2, c2, rfl, BG, ?_, ?_, ?_⟩
   any_goals ((repeat' (first | with_reducible assumption | (with_reducible refine Mg.alloc ?_) | (with_reducible refine Mg.setB ?_ ?_) | (with_reducible refine Mg.setS ?_ ?_) | (with_reducible refine K5 (by first | omega | (simp only [World.size_alloc, World.size_setCell, World.size_drew]; done) | (simp only [World.size_alloc, World.size_setCell, World.size_drew]; omega))) | (with_reducible refine K7 (by first | omega | (simp only [World.size_alloc, World.size_setCell, World.size_drew]; done) | (simp only [World.size_alloc, World.size_setCell, World.size_drew]; omega))) | (with_reducible refine Kk ?_) | (with_reducible refine K6 (by omega) ?_) | (with_reducible refine Kh (by first | omega | (simp only [World.size_alloc, World.size_setCell, World.size_drew]; done) | (simp only [World.size_alloc, World.size_setCell, World.size_drew]; omega)) ?_) | (with_reducible refine Ug ?_) | (with_reducible refine Ui ?_) | (with_reducible refine Kn ?_) | (with_reducible refine (hc11 _ _ (by first | omega | (simp only [World.size_alloc, World.size_setCell, World.size_drew]; done) | (simp only [World.size_alloc, World.size_setCell, World.size_drew]; omega))).trans ?_) | (with_reducible refine (hc10 _ _ (by first | omega | (simp only [World.size_alloc, World.size_setCell, World.size_drew]; done) | (simp only [World.size_alloc, World.size_setCell, World.size_drew]; omega))).trans ?_) | fail)); done)
  case rest =>
   obtain ⟨rfl, g2, Q2, d2, rfl, hx2, m2, t0, t1⟩ := hcut
   have zn1 := zn1.below hx2
   have HB := Kb HB hx2
   have m1 := m1.below hx2
   have s4 := Ka hx2 s4
   have s5 := Ka hx2 s5
   have q0 := Ka hx2 q0
   have q1 := Ka hx2 q1
   have p0 := Ka hx2 p0
   have p1 := Ka hx2 p1
   have lt_s4 := Kd s4
   have lt_q0 := Kd q0
   have lt_p0 := Kd p0
   have lt_t0 := Kd t0
   clear s2 s3 HFY HM1
   go_wp2_with fail
   go_cut [13, 14] (fun s1 s2 wx => s2 = .int .i64 (0) ∧ ∃ (g : Nat) (R : Option Addr) (c : Nat), s1 = .pointer (some ⟨g, 0, none⟩) ∧ Below wc.heap.size wc wx ∧ Mg wx R c pl2 ∧ wx.cell? ⟨g, 0, none⟩ = some (.bool pb2) ∧ wx.cell? ⟨g, 1, none⟩ = some (.slice R pn2 c))
   case first =>
    go_region_held3 (fun w' => w'.cell? ⟨w.heap.size, (a + 2) * 4, none⟩ = some (.bool na2) ∧ w'.cell? ⟨w.heap.size, (a + 2) * 4 + 1, none⟩ = some (.slice A2 k2 ca2)) (first | ((try dsimp only); repeat' (first | with_reducible assumption | apply And.intro | (with_reducible refine Kk ?_) | (with_reducible refine Kn ?_) | (with_reducible refine Kh (by first | omega | (simp only [World.size_alloc, World.size_setCell, World.size_drew]; done) | (simp only [World.size_alloc, World.size_setCell, World.size_drew]; omega)) ?_) | (with_reducible refine Ka (W := wc) ?_ ?_) | fail))) (first | (go_at_call 55; (with_reducible refine (HFT.out _).mono ?_); rintro e y1 ⟨Rn, cn, rfl, mn, hq_⟩; have qy1 : Below wc.heap.size wc y1 := Kb BG hq_; obtain ⟨hc10, hf10⟩ := bcell hq_; have hz10 := hq_.size; (try simp only [World.size_alloc, World.size_drew] at hz10); have hs10 := qy1.size; (try have hx1 : wc.heap.size < y1.heap.size := by omega)) | (go_at_call 101; (with_reducible refine (HM2.out _ (Kb HB BG) _ _ (mn.below BG)).mono ?_); rintro e y2 ⟨R2, c2, rfl, m2, hq_⟩; have qy2 : Below wc.heap.size wc y2 := Kb BG hq_; obtain ⟨hc11, hf11⟩ := bcell hq_; have hz11 := hq_.size; (try simp only [World.size_alloc, World.size_drew] at hz11); have hs11 := qy2.size; (try have hy1 : wc.heap.size < y2.heap.size := by omega); (try have hy3 : y1.heap.size < y2.heap.size := by omega)))
    all_goals
     go_wp2_with fail
     go_meet
    all_goals
     go_light
     refine ⟨rfl, _, R2, c2, rfl, BG, ?_, ?_, ?_⟩
    any_goals ((repeat' (first | with_reducible assumption | (with_reducible refine Mg.alloc ?_) | (with_reducible refine Mg.setB ?_ ?_) | (with_reducible refine Mg.setS ?_ ?_) | (with_reducible refine K5 (by first | omega | (simp only [World.size_alloc, World.size_setCell, World.size_drew]; done) | (simp only [World.size_alloc, World.size_setCell, World.size_drew]; omega))) | (with_reducible refine K7 (by first | omega | (simp only [World.size_alloc, World.size_setCell, World.size_drew]; done) | (simp only [World.size_alloc, World.size_setCell, World.size_drew]; omega))) | (with_reducible refine Kk ?_) | (with_reducible refine K6 (by omega) ?_) | (with_reducible refine Kh (by first | omega | (simp only [World.size_alloc, World.size_setCell, World.size_drew]; done) | (simp only [World.size_alloc, World.size_setCell, World.size_drew]; omega)) ?_) | (with_reducible refine Ug ?_) | (with_reducible refine Ui ?_) | (with_reducible refine Kn ?_) | (with_reducible refine (hc11 _ _ (by first | omega | (simp only [World.size_alloc, World.size_setCell, World.size_drew]; done) | (simp only [World.size_alloc, World.size_setCell, World.size_drew]; omega))).trans ?_) | (with_reducible refine (hc10 _ _ (by first | omega | (simp only [World.size_alloc, World.size_setCell, World.size_drew]; done) | (simp only [World.size_alloc, World.size_setCell, World.size_drew]; omega))).trans ?_) | fail)); done)
   case rest =>
    obtain ⟨rfl, g3, Q3, d3, rfl, hx3, m3, e0, e1⟩ := hcut
    have zn1 := zn1.below hx3
    have HB := Kb HB hx3
    have m1 := m1.below hx3
    have m2 := m2.below hx3
    have q0 := Ka hx3 q0
    have q1 := Ka hx3 q1
    have p0 := Ka hx3 p0
    have p1 := Ka hx3 p1
    have t0 := Ka hx3 t0
    have t1 := Ka hx3 t1
    have lt_q0 := Kd q0
    have lt_p0 := Kd p0
    have lt_t0 := Kd t0
    have lt_e0 := Kd e0
    clear s4 s5 HFT HM2
    go_wp2_with fail
    refine (HA1.out _ _ _ _ _ m1 m2).mono ?_
    rintro e x1 ⟨R5, c5, rfl, m5, hv⟩
    have zn1 := zn1.below hv
    have HB := Kb HB hv
    have m3 := m3.below hv
    have q0 := Ka hv q0
    have q1 := Ka hv q1
    have e0 := Ka hv e0
    have e1 := Ka hv e1
    clear p0 p1 t0 t1 m1 m2 HA1
    go_upto_region 5 with fail
    refine Qh (P := fun u => Code.wp _ _ _ _ u) ?_
    intro x2 hw s0 s1 zs_ hsz
    have zn1 := zn1.below hw
    have HB := Kb HB hw
    have m3 := m3.below hw
    have m5 := m5.below hw
    have q0 := Ka hw q0
    have q1 := Ka hw q1
    have e0 := Ka hw e0
    have e1 := Ka hw e1
    have lt_q0 := Kd q0
    have lt_e0 := Kd e0
    have lt_s0 := Kd s0
    clear hsz zs_
    go_wp2_with fail
    refine (HA2.out _ _ _ _ _ m5 m3).mono ?_
    rintro e x3 ⟨R6, c6, rfl, m6, hv6⟩
    have zn1 := zn1.below hv6
    have HB := Kb HB hv6
    have q0 := Ka hv6 q0
    have q1 := Ka hv6 q1
    clear s0 s1 e0 e1 m3 m5 HA2
    go_upto_region 6 with fail
    refine Qh (P := fun u => Code.wp _ _ _ _ u) ?_
    intro x4 hw4 s0 s1 zs_ hsz
    have zn1 := zn1.below hw4
    have HB := Kb HB hw4
    have m6 := m6.below hw4
    have q0 := Ka hw4 q0
    have q1 := Ka hw4 q1
    have fk := zn1.fr
    have ltq := Kd q0
    have lts := Kd s0
    clear hsz zs_
    go_wp2
    refine bodyPost_ret (v := .agg #[.bool b, .slice R6 n c6]) ?_ rfl ?_
    ·simp [results, Tryz.results65, go_sem, q0, q1]
    ·obtain ⟨j1_, j2_⟩ := Z1 m6 HB (by omega) q0 q1 (.bool b) (.slice R6 n c6)
     exact ⟨R6, c6, rfl, j1_, j2_⟩
theorem rwZ_bz {N : List Int} (hB : ∀ z ∈ N, Bz 1280 z) (i : Nat) {X Y : Int} (hX : 0 ≤ X ∧ X ≤ 8193) (hY : 0 ≤ Y ∧ Y ≤ 8193) : Bz 1347 (rwZ N i X Y) := by
 rw [← prt_row]
 exact prt_bz (Ht hB) (Ht fun z hz => Xb (by
  simp only [List.mem_cons, List.not_mem_nil, or_false] at hz
  rcases hz with rfl | rfl | rfl <;> omega)) i 3
set_option maxRecDepth 100000 in
set_option maxHeartbeats 8000000 in
theorem V6 (fs : List Rf) (h9 : fs.length = 9) {N : List Int} (hN : N.length = 9) {w : World} (ho : ∀ e ∈ zl fs, e.ok w) (hz : (zl fs).map (·.z) = homZ N) (hB : ∀ z ∈ N, Bz 1280 z) (x y : Int) (hx : 0 ≤ x ∧ x ≤ 4096) (hy : 0 ≤ y ∧ y ≤ 4096) :
  Calls Tryz.prog 39 #[.agg (Kc (zl fs)).toArray, .int .i64 x, .int .i64 y] w (RetQB w (posR N x y)) := by
 have hi := hid (show (Tryz.prog.info? 32).map (·.size) = some (Kc (zl fs)).length by rw [Kf, Ky, h9]; exact T32i)
 have e1 : IntKind.i64.wrap (2 * x) = 2 * x := by rw [IntKind.wrap_i64]; omega
 have e2 : IntKind.i64.wrap (2 * y) = 2 * y := by rw [IntKind.wrap_i64]; omega
 obtain ⟨X, hX⟩ : ∃ X, 2 * x + 1 = X := ⟨_, rfl⟩
 obtain ⟨Y, hY⟩ : ∃ Y, 2 * y + 1 = Y := ⟨_, rfl⟩
 have e3 : IntKind.i64.wrap (2 * x + 1) = X := by rw [IntKind.wrap_i64]; omega
 have e4 : IntKind.i64.wrap (2 * y + 1) = Y := by rw [IntKind.wrap_i64]; omega
 have hXr : 0 ≤ X ∧ X ≤ 8193 := by omega
 have hYr : 0 ≤ Y ∧ Y ≤ 8193 := by omega
 obtain ⟨⟨qx, qy, qt⟩, hP⟩ : ∃ P, posR N x y = P := ⟨_, rfl⟩
 have hPn := hid fun h => (posR_none (N := N) (x := x) (y := y) h).symm.trans hP
 have hPs := hid fun a b c ha hb hc h => (posR_some (N := N) (x := x) (y := y) (a := a) (b := b) (c := c) ha hb hc h).symm.trans hP
 rw [hX, hY] at hPn hPs
 rw [hP]
 obtain ⟨b0, n0, l0, I0⟩ := iz (rwZ N 0 X Y)
 obtain ⟨b1, n1, l1, I1⟩ := iz (rwZ N 1 X Y)
 obtain ⟨b2, n2, l2, I2⟩ := iz (rwZ N 2 X Y)
 have f0 := (rwZ_bz hB 0 hXr hYr).ft (by omega)
 have f1 := (rwZ_bz hB 1 hXr hYr).ft (by omega)
 have f2 := (rwZ_bz hB 2 hXr hYr).ft (by omega)
 have HR0 := hid fun (W : World) (h : Below w.heap.size w W) => S4row_g fs h9 hN (fun e he => (ho e he).below h) hz hB 0 (by omega) 0 rfl X Y hXr hYr I0.out
 have HR1 := hid fun (W : World) (h : Below w.heap.size w W) => S4row_g fs h9 hN (fun e he => (ho e he).below h) hz hB 1 (by omega) 3 rfl X Y hXr hYr I1.out
 have HR2 := hid fun (W : World) (h : Below w.heap.size w W) => S4row_g fs h9 hN (fun e he => (ho e he).below h) hz hB 2 (by omega) 6 rfl X Y hXr hYr I2.out
 have hPs := hid fun h => hPs.out _ _ _ rfl rfl rfl h
 have HF0 := hid fun h0 (W : World) (R Q : Option Addr) (c d : Nat) (m : Mg W R c l0) (m' : Mg W Q d l2) => S4floor_g I0.out I2.out m m' f0 f2 h0
 have HF1 := hid fun h0 (W : World) (R Q : Option Addr) (c d : Nat) (m : Mg W R c l1) (m' : Mg W Q d l2) => S4floor_g I1.out I2.out m m' f1 f2 h0
 have hn2 := I2.out.zero
 generalize rwZ N 0 X Y = v0 at *
 generalize rwZ N 1 X Y = v1 at *
 generalize rwZ N 2 X Y = v2 at *
 clear ho hz hB hN hX hY hP hx hy f0 f1 f2 I0 I1 I2 hXr hYr
 obtain ⟨d32, hU32, row32⟩ := T32u
 generalize zl fs = lh at *
 go_enter Tryz.func39, Tryz.ntmps39
 go_upto_region 1 with fail
 refine Kw (P := fun u => Code.wp _ _ _ _ u) ?_
 intro u HB r0 zn0 hsz
 clear hsz zn0
 go_wp2_with (first | refine wpList_load_mid (by rfl) _ _ (by rfl) w.heap.size 0 (by rfl) (Kc lh) _ r0 hU32 row32 hi.out ?_ | fail)
 refine (HR2.out u HB).mono ?_
 rintro e w1 ⟨R2, c2, rfl, m2, h1⟩
 go_upto_region 2 with fail
 refine Qh (P := fun u => Code.wp _ _ _ _ u) ?_
 intro w2 h2 s0 s1 zs_ hsz
 have h12 := Kb h1 h2
 have r0 := Ke r0 h12
 have m2 := m2.below h2
 have HB := Kb HB h12
 have hls := Kd s0
 clear hsz zs_ h1 h2 h12 HR2
 by_cases h0 : v2 = 0
 ·have hPn := hPn.out h0
  obtain rfl := hn2.2 h0
  simp only [Prod.mk.injEq] at hPn
  obtain ⟨rfl, rfl, rfl⟩ := hPn
  clear hPs HF0 HF1 HR0 HR1 hn2
  go_wp2
  refine bodyPost_ret (v := .tuple #[.int .i64 0, .int .i64 0, .bool false]) ?_ rfl ?_
  ·simp [results, Tryz.results39, go_sem]
  ·exact ⟨rfl, HB⟩
 ·have hPs := hPs.out h0
  have hn0 : ¬ (n2 : Int) = 0 := fun h => h0 (hn2.1 (by omega))
  have HF0 := hid (HF0.out h0)
  have HF1 := hid (HF1.out h0)
  simp only [Prod.mk.injEq] at hPs
  obtain ⟨p0, p1, rfl⟩ := hPs
  rw [p0] at HF0
  rw [p1] at HF1
  clear p0 p1 hPn hn2 h0
  go_upto_region 4 with fail
  refine wp_region_held_drew (S := fun w' => w'.rangeAt w.heap.size 0 (Kc lh) ∧ (w'.cell? ⟨w1.heap.size, 0, none⟩ = some (.bool b2) ∧ w'.cell? ⟨w1.heap.size, 1, none⟩ = some (.slice R2 n2 c2))) (by kernel_rfl) ?_ (fun hHeld => ?_)
  ·exact ⟨r0, s0, s1⟩
  refine tk (i := 0) rfl (by decide +kernel) (yieldsIf_load_mid (by rfl) _ _ (by rfl) (w.heap.size) (0) (by rfl) (Kc lh) _ (fun w_ hS_ => hS_.1) hU32 (by first | rfl | assumption) hi.out) (by assumption) (fun _ _ _ h => h) ?_
  (try simp only [Act.put, Lp0, Lp1, Lp2])
  refine tk (i := 10) rfl (by decide +kernel) (yieldsIf_load_mid (by rfl) _ _ (by rfl) (w.heap.size) (0) (by rfl) (Kc lh) _ (fun w_ hS_ => hS_.1) hU32 (by first | rfl | assumption) hi.out) (by assumption) (fun _ _ _ h => h) ?_
  (try simp only [Act.put, Lp0, Lp1, Lp2])
  refine' TKa 1 ?_
  refine' TKa 2 ?_
  refine' TKa 3 ?_
  refine' TKa 4 ?_
  refine' TKa 5 ?_
  refine' TKa 6 ?_
  refine' TKa 11 ?_
  refine' TKa 12 ?_
  refine' TKa 13 ?_
  refine' TKa 14 ?_
  refine' TKa 15 ?_
  refine' TKa 16 ?_
  refine' TKa 8 ?_
  refine' TKa 18 ?_
  refine BRa 7 (fun K hK => ?_)
  go_simp
  (go_at_call 65; refine (HR0.out _ (Kb HB BG)).mono ?_; rintro e y1 ⟨R3, c3, rfl, m3, hq_⟩; have qy1 : Below w2.heap.size w2 y1 := Kb BG hq_)
  (try go_wp2_with fail)
  refine' HKa hK (by exact ⟨Ke r0 qy1, Ka qy1 s0, Ka qy1 s1⟩) (fun hHeld => ?_)
  clear hK K
  refine BRa 9 (fun K hK => ?_)
  go_simp
  (go_at_call 66; refine (HF0.out _ _ _ _ _ m3 (m2.below qy1)).mono ?_; rintro e y2 ⟨rfl, hq_⟩; have qy2 : Below w2.heap.size w2 y2 := Kb qy1 hq_)
  (try go_wp2_with fail)
  refine' HKa hK (by exact ⟨Ke r0 qy2, Ka qy2 s0, Ka qy2 s1⟩) (fun hHeld => ?_)
  clear hK K
  refine BRa 17 (fun K hK => ?_)
  go_simp
  (go_at_call 65; refine (HR1.out _ (Kb HB qy2)).mono ?_; rintro e y3 ⟨R4, c4, rfl, m4, hq_⟩; have qy3 : Below w2.heap.size w2 y3 := Kb qy2 hq_)
  (try go_wp2_with fail)
  refine' HKa hK (by exact ⟨Ke r0 qy3, Ka qy3 s0, Ka qy3 s1⟩) (fun hHeld => ?_)
  clear hK K
  refine BRa 19 (fun K hK => ?_)
  go_simp
  (go_at_call 66; refine (HF1.out _ _ _ _ _ m4 (m2.below qy3)).mono ?_; rintro e y4 ⟨rfl, hq_⟩; have qy4 : Below w2.heap.size w2 y4 := Kb qy3 hq_)
  (try go_wp2_with fail)
  refine' HKa hK (by exact ⟨Ke r0 qy4, Ka qy4 s0, Ka qy4 s1⟩) (fun hHeld => ?_)
  clear hK K
  refine' TKa 20 ?_
  refine' TKa 21 ?_
  refine' TKa 22 ?_
  refine wpAnyH_done (by kernel_rfl) ?_ _
  have HBf := Kb HB qy4
  clear HB HR0 HR1 HF0 HF1 hHeld
  go_wp2
  refine bodyPost_ret (v := .tuple #[.int .i64 qx, .int .i64 qy, .bool true]) ?_ rfl ?_
  ·simp [results, Tryz.results39, go_sem]
  ·exact ⟨rfl, HBf⟩
end Go.Proofs.YtdkgbkbbbldliaaGreat
