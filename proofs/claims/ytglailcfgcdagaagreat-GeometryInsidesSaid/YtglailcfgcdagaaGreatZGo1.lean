/- Geometry: Order of the package. Conditions: none. -/
import Derived.Test.YtglailcfgcdagaaGreatZGB
set_option linter.unusedVariables false
set_option linter.unusedSimpArgs false
namespace Go.Proofs.YtglailcfgcdagaaGreat
open Go.RowKit Big
theorem enterQ4 {w : World} {c0 c1 c2 c3 : List Value} {t0 t1 t2 t3 : TypeId} {P : World → Prop}
  (H : ∀ u, Below w.heap.size w u → u.rangeAt w.heap.size 0 c0 → u.rangeAt (w.heap.size + 1) 0 c1 → u.rangeAt (w.heap.size + 1 + 1) 0 c2 → u.rangeAt (w.heap.size + 1 + 1 + 1) 0 c3 → Zn u w.heap.size → Zn u (w.heap.size + 1) → Zn u (w.heap.size + 1 + 1) → Zn u (w.heap.size + 1 + 1 + 1) → Hid (u.heap.size = w.heap.size + 1 + 1 + 1 + 1) → P u) :
  P ((((w.alloc (.cells c0.toArray t0)).alloc (.cells c1.toArray t1)).alloc (.cells c2.toArray t2)).alloc (.cells c3.toArray t3)) := by
 refine enterR3 (P := fun v => P (v.alloc (.cells c3.toArray t3))) fun v hb r0 r1 r2 z0 z1 z2 hs => ?_
 have h3 := rng_alloc (w := v) (cs := c3) (t := t3)
 have z3 := Zn.new_ (w := v) (cs := c3.toArray) (t := t3)
 rw [hs.out] at h3 z3
 have hv : Below v.heap.size v (v.alloc (.cells c3.toArray t3)) := (Below.refl _ _).alloc (Nat.le_refl _) _
 exact H _ (bel_step hb hv) (rng_below r0 hv) (rng_below r1 hv) (rng_below r2 hv) h3 (z0.below hv) (z1.below hv) (z2.below hv) z3 (by unfold Hid; simp [hs.out])
def RetOE (w : World) (q : ((Int × Int) × (Int × Int) × (Int × Int)) × Int) (e : Ending) (w' : World) : Prop :=
 e = .returned (.tuple #[.agg #[.int .i64 q.1.1.1, .int .i64 q.1.1.2, .int .i64 q.1.2.1.1, .int .i64 q.1.2.1.2, .int .i64 q.1.2.2.1, .int .i64 q.1.2.2.2], .int .i64 q.2]) ∧ Below w.heap.size w w'
/-- a point in its box -/
structure PtB (g : Nat) (p : Int × Int) (wr : World) : Prop where
 c0 : wr.cell? ⟨g, 0, none⟩ = some (.int .i64 p.1)
 c1 : wr.cell? ⟨g, 1, none⟩ = some (.int .i64 p.2)
 z : Zn wr g
theorem PtB.below {wr w1 : World} {g : Nat} {q : Int × Int} (h : PtB g q wr) (hb : Below wr.heap.size wr w1) : PtB g q w1 := ⟨keep_cell hb h.c0, keep_cell hb h.c1, h.z.below hb⟩
theorem PtB.set {wr : World} {g : Nat} {q : Int × Int} (h : PtB g q wr) (p : Int × Int) : PtB g p ((wr.setCell ⟨g, 0, none⟩ (.int .i64 p.1)).setCell ⟨g, 1, none⟩ (.int .i64 p.2)) := by
 have h1 : (wr.setCell ⟨g, 0, none⟩ (.int .i64 p.1)).cell? ⟨g, 1, none⟩ = _ := (cell_set_ne (by omega)).trans h.c1
 exact ⟨(cell_set_ne (by omega)).trans (World.cell?_setCell_same _ _ _ h.c0), World.cell?_setCell_same _ _ _ h1, h.z.set_.set_⟩
theorem PtB.far {wr : World} {g k : Nat} {q : Int × Int} (h : PtB g q wr) (hg : k ≠ g) (p : Int × Int) : PtB g q ((wr.setCell ⟨k, 0, none⟩ (.int .i64 p.1)).setCell ⟨k, 1, none⟩ (.int .i64 p.2)) :=
 ⟨keep_set hg (keep_set hg h.c0), keep_set hg (keep_set hg h.c1), h.z.set_.set_⟩
theorem PtB.new {w u : World} {g : Nat} {x y : Int} (h : u.rangeAt g 0 [.int .i64 x, .int .i64 y]) (z : Zn u g) : PtB g (x, y) u := ⟨h 0 _ rfl, h 1 _ rfl, z⟩
/-- the result's box, not yet written -/
structure Rs6 (w : World) (g : Nat) (wr : World) : Prop where
 r : wr.rangeAt g 0 [.int .i64 0, .int .i64 0, .int .i64 0, .int .i64 0, .int .i64 0, .int .i64 0]
 z : Zn wr g
 hg : w.heap.size ≤ g
theorem Rs6.below {w wr w1 : World} {g : Nat} (h : Rs6 w g wr) (hb : Below wr.heap.size wr w1) : Rs6 w g w1 := ⟨rng_below h.r hb, h.z.below hb, h.hg⟩
/-- three points in their boxes, and the result's box -/
structure O3 (w : World) (a b c : Int × Int) (wr : World) : Prop where
 a : PtB w.heap.size a wr
 b : PtB (w.heap.size + 1) b wr
 c : PtB (w.heap.size + 1 + 1) c wr
 k : Rs6 w (w.heap.size + 1 + 1 + 1) wr
 hb : Below w.heap.size w wr
theorem O3.below {w wr w1 : World} {a b c : Int × Int} (h : O3 w a b c wr) (hb : Below wr.heap.size wr w1) : O3 w a b c w1 := ⟨h.a.below hb, h.b.below hb, h.c.below hb, h.k.below hb, bel_step h.hb hb⟩
def set2 (wr : World) (g : Nat) (p : Int × Int) : World := (wr.setCell ⟨g, 0, none⟩ (.int .i64 p.1)).setCell ⟨g, 1, none⟩ (.int .i64 p.2)
theorem Rs6.far {w wr : World} {g k : Nat} (h : Rs6 w g wr) (hk : k ≠ g) (p : Int × Int) : Rs6 w g (set2 wr k p) := ⟨fun j v hv => keep_set hk (keep_set hk (h.r j v hv)), h.z.set_.set_, h.hg⟩
theorem set2_below {B : Nat} {w wr : World} (h : Below B w wr) {g : Nat} (hg : B ≤ g) (p : Int × Int) : Below B w (set2 wr g p) := below_set (below_set h hg _ _) hg _ _
theorem O3.setA {w wr : World} {a b c : Int × Int} (h : O3 w a b c wr) (p : Int × Int) : O3 w p b c (set2 wr w.heap.size p) :=
 ⟨h.a.set p, h.b.far (by omega) p, h.c.far (by omega) p, h.k.far (by omega) p, set2_below h.hb (by omega) p⟩
theorem O3.setB {w wr : World} {a b c : Int × Int} (h : O3 w a b c wr) (p : Int × Int) : O3 w a p c (set2 wr (w.heap.size + 1) p) :=
 ⟨h.a.far (by omega) p, h.b.set p, h.c.far (by omega) p, h.k.far (by omega) p, set2_below h.hb (by omega) p⟩
theorem O3.setC {w wr : World} {a b c : Int × Int} (h : O3 w a b c wr) (p : Int × Int) : O3 w a b p (set2 wr (w.heap.size + 1 + 1) p) :=
 ⟨h.a.far (by omega) p, h.b.far (by omega) p, h.c.set p, h.k.far (by omega) p, set2_below h.hb (by omega) p⟩
theorem Rs6.fin {w w0 wr : World} {g : Nat} (h : Rs6 w g wr) (hb : Below w.heap.size w wr) (v0 v1 v2 v3 v4 v5 : Value) :
  Below w.heap.size w ((((((wr.setCell ⟨g, 0, none⟩ v0).setCell ⟨g, 1, none⟩ v1).setCell ⟨g, 2, none⟩ v2).setCell ⟨g, 3, none⟩ v3).setCell ⟨g, 4, none⟩ v4).setCell ⟨g, 5, none⟩ v5) :=
 below_set (below_set (below_set (below_set (below_set (below_set hb h.hg _ _) h.hg _ _) h.hg _ _) h.hg _ _) h.hg _ _) h.hg _ _
set_option maxRecDepth 100000 in
set_option maxHeartbeats 4000000 in
theorem GOrder_g (a b c : Int × Int) (w : World) : Calls Tryz.prog 11 #[.agg #[.int .i64 a.1, .int .i64 a.2], .agg #[.int .i64 b.1, .int .i64 b.2], .agg #[.int .i64 c.1, .int .i64 c.2]] w (RetOE w (ordE a b c)) := by
 obtain ⟨t, hT, hF, _⟩ := ok3 (o := a) (a := b) (b := c)
 obtain ⟨k, hk⟩ : ∃ k, chkP [a, b, c] = k := ⟨_, rfl⟩
 have HK := hid fun (u : World) (t : TypeId) => (show Calls Tryz.prog 18 #[.slice (some ⟨u.heap.size, 0, none⟩) 3 3] (u.alloc (.cells #[.int .i64 a.1, .int .i64 a.2, .int .i64 b.1, .int .i64 b.2, .int .i64 c.1, .int .i64 c.2] t)) (RetI (u.alloc (.cells #[.int .i64 a.1, .int .i64 a.2, .int .i64 b.1, .int .i64 b.2, .int .i64 c.1, .int .i64 c.2] t)) k) from by
  have := Gcheck_g [a, b, c] _ _ (Pb.new3 u a b c t)
  rwa [hk] at this)
 have hQ0 := hid fun (h : t = false) => (show k = 3 ∧ ordE a b c = (((0, 0), (0, 0), (0, 0)), 3) from ⟨by rw [← hk]; exact hF h, by unfold ordE; rw [hF h]; rfl⟩)
 have hQ1 := hid fun (h : t = true) => (show k = 0 ∧ inP a = true ∧ inP b = true ∧ inP c = true ∧ (crsZ a b c = 0 → ordE a b c = (((0, 0), (0, 0), (0, 0)), 24)) ∧ (¬ crsZ a b c = 0 → ordE a b c = (ordP a b c, 0)) from
  ⟨by rw [← hk]; exact (hT h).2.2.2, (hT h).1, (hT h).2.1, (hT h).2.2.1, fun e => by unfold ordE; rw [(hT h).2.2.2, if_pos rfl, if_pos e], fun e => by unfold ordE; rw [(hT h).2.2.2, if_pos rfl, if_neg e]⟩)
 have hC := hid fun (o a b : Int × Int) (ho : inP o = true) (ha : inP a = true) (hb : inP b = true) (W : World) => Gcross_g ho ha hb W
 have hD := hid fun (a b : Int × Int) (ha : inP a = true) (hb : inP b = true) (W : World) => Gsquare_g ha hb W
 have hO : ordP a b c = (if sqZ a c ≤ sqZ b c ∧ sqZ a b ≤ sqZ b c then turnP a b c else if sqZ a b ≤ sqZ a c then turnP b a c else turnP c b a) := rfl
 clear hT hF hk
 obtain ⟨d1, e1⟩ : ∃ d, sqZ b c = d := ⟨_, rfl⟩
 obtain ⟨d2, e2⟩ : ∃ d, sqZ a c = d := ⟨_, rfl⟩
 obtain ⟨d3, e3⟩ : ∃ d, sqZ a b = d := ⟨_, rfl⟩
 obtain ⟨z, ez⟩ : ∃ d, crsZ a b c = d := ⟨_, rfl⟩
 rw [e1, e2, e3] at hO
 rw [ez] at hQ1
 have HZ := hid fun (ia : inP a = true) (ib : inP b = true) (ic : inP c = true) (W : World) => (show Calls Tryz.prog 23 #[.agg #[.int .i64 a.1, .int .i64 a.2], .agg #[.int .i64 b.1, .int .i64 b.2], .agg #[.int .i64 c.1, .int .i64 c.2]] W (RetI W z) from by rw [← ez]; exact hC.out a b c ia ib ic W)
 have HD1 := hid fun (ib : inP b = true) (ic : inP c = true) (W : World) => (show Calls Tryz.prog 29 #[.agg #[.int .i64 b.1, .int .i64 b.2], .agg #[.int .i64 c.1, .int .i64 c.2]] W (RetI W d1) from by rw [← e1]; exact hD.out b c ib ic W)
 have HD2 := hid fun (ib : inP a = true) (ic : inP c = true) (W : World) => (show Calls Tryz.prog 29 #[.agg #[.int .i64 a.1, .int .i64 a.2], .agg #[.int .i64 c.1, .int .i64 c.2]] W (RetI W d2) from by rw [← e2]; exact hD.out a c ib ic W)
 have HD3 := hid fun (ib : inP a = true) (ic : inP b = true) (W : World) => (show Calls Tryz.prog 29 #[.agg #[.int .i64 a.1, .int .i64 a.2], .agg #[.int .i64 b.1, .int .i64 b.2]] W (RetI W d3) from by rw [← e3]; exact hD.out a b ib ic W)
 replace hO := hid hO
 clear e1 e2 e3 ez hD
 generalize ordE a b c = Q at *
 generalize ordP a b c = T at *
 obtain ⟨a0, a1⟩ := a
 obtain ⟨b0, b1⟩ := b
 obtain ⟨c0, c1⟩ := c
 dsimp only at HK HZ HD1 HD2 HD3 ⊢
 go_enter Tryz.func11, Tryz.ntmps11
 go_upto_region 1 with fail
 refine enterQ4 (P := fun u => Code.wp _ _ _ _ u) (c0 := [.int .i64 a0, .int .i64 a1]) (c1 := [.int .i64 b0, .int .i64 b1]) (c2 := [.int .i64 c0, .int .i64 c1]) (c3 := [.int .i64 0, .int .i64 0, .int .i64 0, .int .i64 0, .int .i64 0, .int .i64 0]) ?_
 intro u HB r0 r1 r2 r3 zn0 zn1 zn2 zn3 hsz
 have hF : O3 w (a0, a1) (b0, b1) (c0, c1) u := ⟨PtB.new (w := w) r0 zn0, PtB.new (w := w) r1 zn1, PtB.new (w := w) r2 zn2, ⟨r3, zn3, by omega⟩, HB⟩
 clear hsz zn0 zn1 zn2 zn3 r0 r1 r2 r3 HB
 have p0 := hF.a.c0
 have p1 := hF.a.c1
 have p2 := hF.b.c0
 have p3 := hF.b.c1
 have p4 := hF.c.c0
 have p5 := hF.c.c1
 dsimp only at p0 p1 p2 p3 p4 p5
 go_wp2_with fail
 refine (HK.out u _).mono ?_
 rintro e v ⟨rfl, hv⟩
 have hv := bel_step ((Below.refl u.heap.size u).alloc (Nat.le_refl _) _) hv
 replace hF := hF.below hv
 clear p0 p1 p2 p3 p4 p5
 have p0 := hF.a.c0
 have p1 := hF.a.c1
 have p2 := hF.b.c0
 have p3 := hF.b.c1
 have p4 := hF.c.c0
 have p5 := hF.c.c1
 dsimp only at p0 p1 p2 p3 p4 p5
 clear HK hv
 cases t
 ·obtain ⟨rfl, rfl⟩ := hQ0.out (by first | rfl | trivial)
  clear hQ0 hQ1 HZ HD1 HD2 HD3 hC hO
  clear p0 p1 p2 p3 p4 p5
  have k0 := hF.k.r 0 _ rfl
  have k1 := hF.k.r 1 _ rfl
  have k2 := hF.k.r 2 _ rfl
  have k3 := hF.k.r 3 _ rfl
  have k4 := hF.k.r 4 _ rfl
  have k5 := hF.k.r 5 _ rfl
  have fk := hF.k.z.fr
  have ltk := hF.k.z.lt
  have hfin := hid (hF.k.fin (w0 := w) hF.hb (.int .i64 (0)) (.int .i64 (0)) (.int .i64 (0)) (.int .i64 (0)) (.int .i64 (0)) (.int .i64 (0)))
  clear hF
  go_wp2
  refine bodyPost_ret (v := .tuple #[.agg #[.int .i64 (0), .int .i64 (0), .int .i64 (0), .int .i64 (0), .int .i64 (0), .int .i64 (0)], .int .i64 (3)]) ?_ rfl ?_
  ·simp [results, Tryz.results11, go_sem, k0, k1, k2, k3, k4, k5]
  ·exact ⟨rfl, hfin.out⟩
 ·obtain ⟨rfl, ia, ib, ic, hq0, hq1⟩ := hQ1.out (by first | rfl | trivial)
  replace HZ := hid (HZ.out ia ib ic)
  replace HD1 := hid (HD1.out ib ic)
  replace HD2 := hid (HD2.out ia ic)
  replace HD3 := hid (HD3.out ia ib)
  have hin := hid (And.intro ia (And.intro ib ic))
  replace hq0 := hid hq0
  replace hq1 := hid hq1
  clear hQ0 hQ1 ia ib ic
  go_wp2_with fail
  refine (HZ.out v).mono ?_
  rintro e v2 ⟨rfl, hv⟩
  replace hF := hF.below hv
  clear p0 p1 p2 p3 p4 p5
  have p0 := hF.a.c0
  have p1 := hF.a.c1
  have p2 := hF.b.c0
  have p3 := hF.b.c1
  have p4 := hF.c.c0
  have p5 := hF.c.c1
  dsimp only at p0 p1 p2 p3 p4 p5
  clear hv HZ
  by_cases hz : z = 0
  ·obtain rfl := hq0.out hz
   subst hz
   clear hq0 hq1 HD1 HD2 HD3 hC hO hin
   clear p0 p1 p2 p3 p4 p5
   have k0 := hF.k.r 0 _ rfl
   have k1 := hF.k.r 1 _ rfl
   have k2 := hF.k.r 2 _ rfl
   have k3 := hF.k.r 3 _ rfl
   have k4 := hF.k.r 4 _ rfl
   have k5 := hF.k.r 5 _ rfl
   have fk := hF.k.z.fr
   have ltk := hF.k.z.lt
   have hfin := hid (hF.k.fin (w0 := w) hF.hb (.int .i64 (0)) (.int .i64 (0)) (.int .i64 (0)) (.int .i64 (0)) (.int .i64 (0)) (.int .i64 (0)))
   clear hF
   go_wp2
   refine bodyPost_ret (v := .tuple #[.agg #[.int .i64 (0), .int .i64 (0), .int .i64 (0), .int .i64 (0), .int .i64 (0), .int .i64 (0)], .int .i64 (24)]) ?_ rfl ?_
   ·simp [results, Tryz.results11, go_sem, k0, k1, k2, k3, k4, k5]
   ·exact ⟨rfl, hfin.out⟩
  ·obtain rfl := hq1.out hz
   clear hq0 hq1
   go_wp2_with fail
   go_cut [9, 10, 11] (fun s9 s10 s11 wx => s9 = .int .i64 d1 ∧ s10 = .int .i64 d2 ∧ s11 = .int .i64 d3 ∧ Below v2.heap.size v2 wx)
   case first =>
    go_region_held3 (fun w' => (w'.cell? ⟨w.heap.size, 0, none⟩ = some (.int .i64 a0) ∧ w'.cell? ⟨w.heap.size, 1, none⟩ = some (.int .i64 a1)) ∧ (w'.cell? ⟨w.heap.size + 1, 0, none⟩ = some (.int .i64 b0) ∧ w'.cell? ⟨w.heap.size + 1, 1, none⟩ = some (.int .i64 b1)) ∧ (w'.cell? ⟨w.heap.size + 1 + 1, 0, none⟩ = some (.int .i64 c0) ∧ w'.cell? ⟨w.heap.size + 1 + 1, 1, none⟩ = some (.int .i64 c1))) (first | ((try dsimp only); repeat' (first | with_reducible assumption | apply And.intro | (with_reducible refine keep_alloc ?_) | (with_reducible refine keep_drew ?_) | (with_reducible refine keep_set (by omega) ?_) | (with_reducible refine keep_sets (by omega) ?_) | (with_reducible refine keep_cell (W := v2) ?_ ?_) | fail))) (first | (go_at_call 29; (with_reducible refine (HD1.out _).mono ?_); rintro e y1 ⟨rfl, hq_⟩; have qy1 : Below v2.heap.size v2 y1 := bel_step BG hq_) | (go_at_call 29; (with_reducible refine (HD2.out _).mono ?_); rintro e y2 ⟨rfl, hq_⟩; have qy2 : Below v2.heap.size v2 y2 := bel_step BG hq_) | (go_at_call 29; (with_reducible refine (HD3.out _).mono ?_); rintro e y3 ⟨rfl, hq_⟩; have qy3 : Below v2.heap.size v2 y3 := bel_step BG hq_))
    all_goals
     go_wp2_with fail
     go_meet
    all_goals
     exact ⟨rfl, rfl, rfl, BG⟩
   case rest =>
    obtain ⟨rfl, rfl, rfl, hx⟩ := hcut
    replace hF := hF.below hx
    clear p0 p1 p2 p3 p4 p5
    have p0 := hF.a.c0
    have p1 := hF.a.c1
    have p2 := hF.b.c0
    have p3 := hF.b.c1
    have p4 := hF.c.c0
    have p5 := hF.c.c1
    dsimp only at p0 p1 p2 p3 p4 p5
    clear hx HD1 HD2 HD3
    by_cases h1 : d2 ≤ d1
    ·by_cases h2 : d3 ≤ d1
     ·replace hO := hO.out
      rw [if_pos ⟨h1, h2⟩] at hO
      obtain ⟨zz, hzz⟩ : ∃ d, crsZ (a0, a1) (b0, b1) (c0, c1) = d := ⟨_, rfl⟩
      have HX := hid fun (W : World) => (show Calls Tryz.prog 23 #[.agg #[.int .i64 a0, .int .i64 a1], .agg #[.int .i64 b0, .int .i64 b1], .agg #[.int .i64 c0, .int .i64 c1]] W (RetI W zz) from by rw [← hzz]; exact hC.out (a0, a1) (b0, b1) (c0, c1) (by first | exact hin.out.1 | exact hin.out.2.1 | exact hin.out.2.2) (by first | exact hin.out.1 | exact hin.out.2.1 | exact hin.out.2.2) (by first | exact hin.out.1 | exact hin.out.2.1 | exact hin.out.2.2) W)
      unfold turnP at hO
      rw [hzz] at hO
      clear hzz hC hin
      by_cases hn : zz < 0
      ·rw [if_pos hn] at hO
       subst hO
       go_wp2_with fail
       refine (HX.out _).mono ?_
       rintro e v6 ⟨rfl, hv⟩
       replace hF := hF.below hv
       clear p0 p1 p2 p3 p4 p5
       have p0 := hF.a.c0
       have p1 := hF.a.c1
       have p2 := hF.b.c0
       have p3 := hF.b.c1
       have p4 := hF.c.c0
       have p5 := hF.c.c1
       dsimp only at p0 p1 p2 p3 p4 p5
       clear hv HX
       have z0 := hF.a.z.fr
       have z1 := hF.b.z.fr
       have z2 := hF.c.z.fr
       have l0 := hF.a.z.lt
       have l1 := hF.b.z.lt
       have l2 := hF.c.z.lt
       have hF2 := (hF.setB (c0, c1)).setC (b0, b1)
       unfold set2 at hF2
       dsimp only at hF2
       go_upto_region 13 with fail
       generalize (((v6.setCell _ _).setCell _ _).setCell _ _).setCell _ _ = v7 at hF2 ⊢
       clear hF z0 z1 z2 l0 l1 l2
       have hF := hF2
       clear hF2 p0 p1 p2 p3 p4 p5
       have p0 := hF.a.c0
       have p1 := hF.a.c1
       have p2 := hF.b.c0
       have p3 := hF.b.c1
       have p4 := hF.c.c0
       have p5 := hF.c.c1
       dsimp only at p0 p1 p2 p3 p4 p5
       have k0 := hF.k.r 0 _ rfl
       have k1 := hF.k.r 1 _ rfl
       have k2 := hF.k.r 2 _ rfl
       have k3 := hF.k.r 3 _ rfl
       have k4 := hF.k.r 4 _ rfl
       have k5 := hF.k.r 5 _ rfl
       have fk := hF.k.z.fr
       have ltk := hF.k.z.lt
       have hfin := hid (hF.k.fin (w0 := w) hF.hb (.int .i64 (a0)) (.int .i64 (a1)) (.int .i64 (c0)) (.int .i64 (c1)) (.int .i64 (b0)) (.int .i64 (b1)))
       clear hF
       go_wp2
       refine bodyPost_ret (v := .tuple #[.agg #[.int .i64 (a0), .int .i64 (a1), .int .i64 (c0), .int .i64 (c1), .int .i64 (b0), .int .i64 (b1)], .int .i64 (0)]) ?_ rfl ?_
       ·simp [results, Tryz.results11, go_sem, k0, k1, k2, k3, k4, k5]
       ·exact ⟨rfl, hfin.out⟩
      ·rw [if_neg hn] at hO
       subst hO
       go_wp2_with fail
       refine (HX.out _).mono ?_
       rintro e v6 ⟨rfl, hv⟩
       replace hF := hF.below hv
       clear p0 p1 p2 p3 p4 p5
       have p0 := hF.a.c0
       have p1 := hF.a.c1
       have p2 := hF.b.c0
       have p3 := hF.b.c1
       have p4 := hF.c.c0
       have p5 := hF.c.c1
       dsimp only at p0 p1 p2 p3 p4 p5
       clear hv HX
       have k0 := hF.k.r 0 _ rfl
       have k1 := hF.k.r 1 _ rfl
       have k2 := hF.k.r 2 _ rfl
       have k3 := hF.k.r 3 _ rfl
       have k4 := hF.k.r 4 _ rfl
       have k5 := hF.k.r 5 _ rfl
       have fk := hF.k.z.fr
       have ltk := hF.k.z.lt
       have hfin := hid (hF.k.fin (w0 := w) hF.hb (.int .i64 (a0)) (.int .i64 (a1)) (.int .i64 (b0)) (.int .i64 (b1)) (.int .i64 (c0)) (.int .i64 (c1)))
       clear hF
       go_wp2
       refine bodyPost_ret (v := .tuple #[.agg #[.int .i64 (a0), .int .i64 (a1), .int .i64 (b0), .int .i64 (b1), .int .i64 (c0), .int .i64 (c1)], .int .i64 (0)]) ?_ rfl ?_
       ·simp [results, Tryz.results11, go_sem, k0, k1, k2, k3, k4, k5]
       ·exact ⟨rfl, hfin.out⟩
     ·replace hO := hO.out
      rw [if_neg (fun h => h2 h.2)] at hO
      by_cases h3 : d3 ≤ d2
      ·rw [if_pos h3] at hO
       have z0 := hF.a.z.fr
       have z1 := hF.b.z.fr
       have z2 := hF.c.z.fr
       have l0 := hF.a.z.lt
       have l1 := hF.b.z.lt
       have l2 := hF.c.z.lt
       have hF2 := (hF.setA (b0, b1)).setB (a0, a1)
       unfold set2 at hF2
       dsimp only at hF2
       replace hO := hid hO
       replace hF := hid hF
       replace hF2 := hid hF2
       go_upto_region 10 with fail
       clear h3 hz
       go_upto_region 11 with fail
       replace hF2 := hF2.out
       replace hO := hO.out
       generalize (((wc.setCell _ _).setCell _ _).setCell _ _).setCell _ _ = v5 at hF2 ⊢
       clear hF z0 z1 z2 l0 l1 l2
       have hF := hF2
       clear hF2 p0 p1 p2 p3 p4 p5
       have p0 := hF.a.c0
       have p1 := hF.a.c1
       have p2 := hF.b.c0
       have p3 := hF.b.c1
       have p4 := hF.c.c0
       have p5 := hF.c.c1
       dsimp only at p0 p1 p2 p3 p4 p5
       obtain ⟨zz, hzz⟩ : ∃ d, crsZ (b0, b1) (a0, a1) (c0, c1) = d := ⟨_, rfl⟩
       have HX := hid fun (W : World) => (show Calls Tryz.prog 23 #[.agg #[.int .i64 b0, .int .i64 b1], .agg #[.int .i64 a0, .int .i64 a1], .agg #[.int .i64 c0, .int .i64 c1]] W (RetI W zz) from by rw [← hzz]; exact hC.out (b0, b1) (a0, a1) (c0, c1) (by first | exact hin.out.1 | exact hin.out.2.1 | exact hin.out.2.2) (by first | exact hin.out.1 | exact hin.out.2.1 | exact hin.out.2.2) (by first | exact hin.out.1 | exact hin.out.2.1 | exact hin.out.2.2) W)
       unfold turnP at hO
       rw [hzz] at hO
       clear hzz hC hin
       by_cases hn : zz < 0
       ·rw [if_pos hn] at hO
        subst hO
        go_wp2_with fail
        refine (HX.out _).mono ?_
        rintro e v6 ⟨rfl, hv⟩
        replace hF := hF.below hv
        clear p0 p1 p2 p3 p4 p5
        have p0 := hF.a.c0
        have p1 := hF.a.c1
        have p2 := hF.b.c0
        have p3 := hF.b.c1
        have p4 := hF.c.c0
        have p5 := hF.c.c1
        dsimp only at p0 p1 p2 p3 p4 p5
        clear hv HX
        have z0 := hF.a.z.fr
        have z1 := hF.b.z.fr
        have z2 := hF.c.z.fr
        have l0 := hF.a.z.lt
        have l1 := hF.b.z.lt
        have l2 := hF.c.z.lt
        have hF2 := (hF.setB (c0, c1)).setC (a0, a1)
        unfold set2 at hF2
        dsimp only at hF2
        go_upto_region 13 with fail
        generalize (((v6.setCell _ _).setCell _ _).setCell _ _).setCell _ _ = v7 at hF2 ⊢
        clear hF z0 z1 z2 l0 l1 l2
        have hF := hF2
        clear hF2 p0 p1 p2 p3 p4 p5
        have p0 := hF.a.c0
        have p1 := hF.a.c1
        have p2 := hF.b.c0
        have p3 := hF.b.c1
        have p4 := hF.c.c0
        have p5 := hF.c.c1
        dsimp only at p0 p1 p2 p3 p4 p5
        have k0 := hF.k.r 0 _ rfl
        have k1 := hF.k.r 1 _ rfl
        have k2 := hF.k.r 2 _ rfl
        have k3 := hF.k.r 3 _ rfl
        have k4 := hF.k.r 4 _ rfl
        have k5 := hF.k.r 5 _ rfl
        have fk := hF.k.z.fr
        have ltk := hF.k.z.lt
        have hfin := hid (hF.k.fin (w0 := w) hF.hb (.int .i64 (b0)) (.int .i64 (b1)) (.int .i64 (c0)) (.int .i64 (c1)) (.int .i64 (a0)) (.int .i64 (a1)))
        clear hF
        go_wp2
        refine bodyPost_ret (v := .tuple #[.agg #[.int .i64 (b0), .int .i64 (b1), .int .i64 (c0), .int .i64 (c1), .int .i64 (a0), .int .i64 (a1)], .int .i64 (0)]) ?_ rfl ?_
        ·simp [results, Tryz.results11, go_sem, k0, k1, k2, k3, k4, k5]
        ·exact ⟨rfl, hfin.out⟩
       ·rw [if_neg hn] at hO
        subst hO
        go_wp2_with fail
        refine (HX.out _).mono ?_
        rintro e v6 ⟨rfl, hv⟩
        replace hF := hF.below hv
        clear p0 p1 p2 p3 p4 p5
        have p0 := hF.a.c0
        have p1 := hF.a.c1
        have p2 := hF.b.c0
        have p3 := hF.b.c1
        have p4 := hF.c.c0
        have p5 := hF.c.c1
        dsimp only at p0 p1 p2 p3 p4 p5
        clear hv HX
        have k0 := hF.k.r 0 _ rfl
        have k1 := hF.k.r 1 _ rfl
        have k2 := hF.k.r 2 _ rfl
        have k3 := hF.k.r 3 _ rfl
        have k4 := hF.k.r 4 _ rfl
        have k5 := hF.k.r 5 _ rfl
        have fk := hF.k.z.fr
        have ltk := hF.k.z.lt
        have hfin := hid (hF.k.fin (w0 := w) hF.hb (.int .i64 (b0)) (.int .i64 (b1)) (.int .i64 (a0)) (.int .i64 (a1)) (.int .i64 (c0)) (.int .i64 (c1)))
        clear hF
        go_wp2
        refine bodyPost_ret (v := .tuple #[.agg #[.int .i64 (b0), .int .i64 (b1), .int .i64 (a0), .int .i64 (a1), .int .i64 (c0), .int .i64 (c1)], .int .i64 (0)]) ?_ rfl ?_
        ·simp [results, Tryz.results11, go_sem, k0, k1, k2, k3, k4, k5]
        ·exact ⟨rfl, hfin.out⟩
      ·rw [if_neg h3] at hO
       have z0 := hF.a.z.fr
       have z1 := hF.b.z.fr
       have z2 := hF.c.z.fr
       have l0 := hF.a.z.lt
       have l1 := hF.b.z.lt
       have l2 := hF.c.z.lt
       have hF2 := (hF.setA (c0, c1)).setC (a0, a1)
       unfold set2 at hF2
       dsimp only at hF2
       replace hO := hid hO
       replace hF := hid hF
       replace hF2 := hid hF2
       go_upto_region 7 with fail
       clear h3 hz
       go_upto_region 11 with fail
       replace hF2 := hF2.out
       replace hO := hO.out
       generalize (((wc.setCell _ _).setCell _ _).setCell _ _).setCell _ _ = v5 at hF2 ⊢
       clear hF z0 z1 z2 l0 l1 l2
       have hF := hF2
       clear hF2 p0 p1 p2 p3 p4 p5
       have p0 := hF.a.c0
       have p1 := hF.a.c1
       have p2 := hF.b.c0
       have p3 := hF.b.c1
       have p4 := hF.c.c0
       have p5 := hF.c.c1
       dsimp only at p0 p1 p2 p3 p4 p5
       obtain ⟨zz, hzz⟩ : ∃ d, crsZ (c0, c1) (b0, b1) (a0, a1) = d := ⟨_, rfl⟩
       have HX := hid fun (W : World) => (show Calls Tryz.prog 23 #[.agg #[.int .i64 c0, .int .i64 c1], .agg #[.int .i64 b0, .int .i64 b1], .agg #[.int .i64 a0, .int .i64 a1]] W (RetI W zz) from by rw [← hzz]; exact hC.out (c0, c1) (b0, b1) (a0, a1) (by first | exact hin.out.1 | exact hin.out.2.1 | exact hin.out.2.2) (by first | exact hin.out.1 | exact hin.out.2.1 | exact hin.out.2.2) (by first | exact hin.out.1 | exact hin.out.2.1 | exact hin.out.2.2) W)
       unfold turnP at hO
       rw [hzz] at hO
       clear hzz hC hin
       by_cases hn : zz < 0
       ·rw [if_pos hn] at hO
        subst hO
        go_wp2_with fail
        refine (HX.out _).mono ?_
        rintro e v6 ⟨rfl, hv⟩
        replace hF := hF.below hv
        clear p0 p1 p2 p3 p4 p5
        have p0 := hF.a.c0
        have p1 := hF.a.c1
        have p2 := hF.b.c0
        have p3 := hF.b.c1
        have p4 := hF.c.c0
        have p5 := hF.c.c1
        dsimp only at p0 p1 p2 p3 p4 p5
        clear hv HX
        have z0 := hF.a.z.fr
        have z1 := hF.b.z.fr
        have z2 := hF.c.z.fr
        have l0 := hF.a.z.lt
        have l1 := hF.b.z.lt
        have l2 := hF.c.z.lt
        have hF2 := (hF.setB (a0, a1)).setC (b0, b1)
        unfold set2 at hF2
        dsimp only at hF2
        go_upto_region 13 with fail
        generalize (((v6.setCell _ _).setCell _ _).setCell _ _).setCell _ _ = v7 at hF2 ⊢
        clear hF z0 z1 z2 l0 l1 l2
        have hF := hF2
        clear hF2 p0 p1 p2 p3 p4 p5
        have p0 := hF.a.c0
        have p1 := hF.a.c1
        have p2 := hF.b.c0
        have p3 := hF.b.c1
        have p4 := hF.c.c0
        have p5 := hF.c.c1
        dsimp only at p0 p1 p2 p3 p4 p5
        have k0 := hF.k.r 0 _ rfl
        have k1 := hF.k.r 1 _ rfl
        have k2 := hF.k.r 2 _ rfl
        have k3 := hF.k.r 3 _ rfl
        have k4 := hF.k.r 4 _ rfl
        have k5 := hF.k.r 5 _ rfl
        have fk := hF.k.z.fr
        have ltk := hF.k.z.lt
        have hfin := hid (hF.k.fin (w0 := w) hF.hb (.int .i64 (c0)) (.int .i64 (c1)) (.int .i64 (a0)) (.int .i64 (a1)) (.int .i64 (b0)) (.int .i64 (b1)))
        clear hF
        go_wp2
        refine bodyPost_ret (v := .tuple #[.agg #[.int .i64 (c0), .int .i64 (c1), .int .i64 (a0), .int .i64 (a1), .int .i64 (b0), .int .i64 (b1)], .int .i64 (0)]) ?_ rfl ?_
        ·simp [results, Tryz.results11, go_sem, k0, k1, k2, k3, k4, k5]
        ·exact ⟨rfl, hfin.out⟩
       ·rw [if_neg hn] at hO
        subst hO
        go_wp2_with fail
        refine (HX.out _).mono ?_
        rintro e v6 ⟨rfl, hv⟩
        replace hF := hF.below hv
        clear p0 p1 p2 p3 p4 p5
        have p0 := hF.a.c0
        have p1 := hF.a.c1
        have p2 := hF.b.c0
        have p3 := hF.b.c1
        have p4 := hF.c.c0
        have p5 := hF.c.c1
        dsimp only at p0 p1 p2 p3 p4 p5
        clear hv HX
        have k0 := hF.k.r 0 _ rfl
        have k1 := hF.k.r 1 _ rfl
        have k2 := hF.k.r 2 _ rfl
        have k3 := hF.k.r 3 _ rfl
        have k4 := hF.k.r 4 _ rfl
        have k5 := hF.k.r 5 _ rfl
        have fk := hF.k.z.fr
        have ltk := hF.k.z.lt
        have hfin := hid (hF.k.fin (w0 := w) hF.hb (.int .i64 (c0)) (.int .i64 (c1)) (.int .i64 (b0)) (.int .i64 (b1)) (.int .i64 (a0)) (.int .i64 (a1)))
        clear hF
        go_wp2
        refine bodyPost_ret (v := .tuple #[.agg #[.int .i64 (c0), .int .i64 (c1), .int .i64 (b0), .int .i64 (b1), .int .i64 (a0), .int .i64 (a1)], .int .i64 (0)]) ?_ rfl ?_
        ·simp [results, Tryz.results11, go_sem, k0, k1, k2, k3, k4, k5]
        ·exact ⟨rfl, hfin.out⟩
    ·replace hO := hO.out
     rw [if_neg (fun h => h1 h.1)] at hO
     have h1d : decide (d2 ≤ d1) = false := decide_eq_false h1
     by_cases h3 : d3 ≤ d2
     ·rw [if_pos h3] at hO
      have z0 := hF.a.z.fr
      have z1 := hF.b.z.fr
      have z2 := hF.c.z.fr
      have l0 := hF.a.z.lt
      have l1 := hF.b.z.lt
      have l2 := hF.c.z.lt
      have hF2 := (hF.setA (b0, b1)).setB (a0, a1)
      unfold set2 at hF2
      dsimp only at hF2
      replace hO := hid hO
      replace hF := hid hF
      replace hF2 := hid hF2
      go_upto_region 10 with fail
      clear h3 hz
      go_upto_region 11 with fail
      replace hF2 := hF2.out
      replace hO := hO.out
      generalize (((wc.setCell _ _).setCell _ _).setCell _ _).setCell _ _ = v5 at hF2 ⊢
      clear hF z0 z1 z2 l0 l1 l2
      have hF := hF2
      clear hF2 p0 p1 p2 p3 p4 p5
      have p0 := hF.a.c0
      have p1 := hF.a.c1
      have p2 := hF.b.c0
      have p3 := hF.b.c1
      have p4 := hF.c.c0
      have p5 := hF.c.c1
      dsimp only at p0 p1 p2 p3 p4 p5
      obtain ⟨zz, hzz⟩ : ∃ d, crsZ (b0, b1) (a0, a1) (c0, c1) = d := ⟨_, rfl⟩
      have HX := hid fun (W : World) => (show Calls Tryz.prog 23 #[.agg #[.int .i64 b0, .int .i64 b1], .agg #[.int .i64 a0, .int .i64 a1], .agg #[.int .i64 c0, .int .i64 c1]] W (RetI W zz) from by rw [← hzz]; exact hC.out (b0, b1) (a0, a1) (c0, c1) (by first | exact hin.out.1 | exact hin.out.2.1 | exact hin.out.2.2) (by first | exact hin.out.1 | exact hin.out.2.1 | exact hin.out.2.2) (by first | exact hin.out.1 | exact hin.out.2.1 | exact hin.out.2.2) W)
      unfold turnP at hO
      rw [hzz] at hO
      clear hzz hC hin
      by_cases hn : zz < 0
      ·rw [if_pos hn] at hO
       subst hO
       go_wp2_with fail
       refine (HX.out _).mono ?_
       rintro e v6 ⟨rfl, hv⟩
       replace hF := hF.below hv
       clear p0 p1 p2 p3 p4 p5
       have p0 := hF.a.c0
       have p1 := hF.a.c1
       have p2 := hF.b.c0
       have p3 := hF.b.c1
       have p4 := hF.c.c0
       have p5 := hF.c.c1
       dsimp only at p0 p1 p2 p3 p4 p5
       clear hv HX
       have z0 := hF.a.z.fr
       have z1 := hF.b.z.fr
       have z2 := hF.c.z.fr
       have l0 := hF.a.z.lt
       have l1 := hF.b.z.lt
       have l2 := hF.c.z.lt
       have hF2 := (hF.setB (c0, c1)).setC (a0, a1)
       unfold set2 at hF2
       dsimp only at hF2
       go_upto_region 13 with fail
       generalize (((v6.setCell _ _).setCell _ _).setCell _ _).setCell _ _ = v7 at hF2 ⊢
       clear hF z0 z1 z2 l0 l1 l2
       have hF := hF2
       clear hF2 p0 p1 p2 p3 p4 p5
       have p0 := hF.a.c0
       have p1 := hF.a.c1
       have p2 := hF.b.c0
       have p3 := hF.b.c1
       have p4 := hF.c.c0
       have p5 := hF.c.c1
       dsimp only at p0 p1 p2 p3 p4 p5
       have k0 := hF.k.r 0 _ rfl
       have k1 := hF.k.r 1 _ rfl
       have k2 := hF.k.r 2 _ rfl
       have k3 := hF.k.r 3 _ rfl
       have k4 := hF.k.r 4 _ rfl
       have k5 := hF.k.r 5 _ rfl
       have fk := hF.k.z.fr
       have ltk := hF.k.z.lt
       have hfin := hid (hF.k.fin (w0 := w) hF.hb (.int .i64 (b0)) (.int .i64 (b1)) (.int .i64 (c0)) (.int .i64 (c1)) (.int .i64 (a0)) (.int .i64 (a1)))
       clear hF
       go_wp2
       refine bodyPost_ret (v := .tuple #[.agg #[.int .i64 (b0), .int .i64 (b1), .int .i64 (c0), .int .i64 (c1), .int .i64 (a0), .int .i64 (a1)], .int .i64 (0)]) ?_ rfl ?_
       ·simp [results, Tryz.results11, go_sem, k0, k1, k2, k3, k4, k5]
       ·exact ⟨rfl, hfin.out⟩
      ·rw [if_neg hn] at hO
       subst hO
       go_wp2_with fail
       refine (HX.out _).mono ?_
       rintro e v6 ⟨rfl, hv⟩
       replace hF := hF.below hv
       clear p0 p1 p2 p3 p4 p5
       have p0 := hF.a.c0
       have p1 := hF.a.c1
       have p2 := hF.b.c0
       have p3 := hF.b.c1
       have p4 := hF.c.c0
       have p5 := hF.c.c1
       dsimp only at p0 p1 p2 p3 p4 p5
       clear hv HX
       have k0 := hF.k.r 0 _ rfl
       have k1 := hF.k.r 1 _ rfl
       have k2 := hF.k.r 2 _ rfl
       have k3 := hF.k.r 3 _ rfl
       have k4 := hF.k.r 4 _ rfl
       have k5 := hF.k.r 5 _ rfl
       have fk := hF.k.z.fr
       have ltk := hF.k.z.lt
       have hfin := hid (hF.k.fin (w0 := w) hF.hb (.int .i64 (b0)) (.int .i64 (b1)) (.int .i64 (a0)) (.int .i64 (a1)) (.int .i64 (c0)) (.int .i64 (c1)))
       clear hF
       go_wp2
       refine bodyPost_ret (v := .tuple #[.agg #[.int .i64 (b0), .int .i64 (b1), .int .i64 (a0), .int .i64 (a1), .int .i64 (c0), .int .i64 (c1)], .int .i64 (0)]) ?_ rfl ?_
       ·simp [results, Tryz.results11, go_sem, k0, k1, k2, k3, k4, k5]
       ·exact ⟨rfl, hfin.out⟩
     ·rw [if_neg h3] at hO
      have z0 := hF.a.z.fr
      have z1 := hF.b.z.fr
      have z2 := hF.c.z.fr
      have l0 := hF.a.z.lt
      have l1 := hF.b.z.lt
      have l2 := hF.c.z.lt
      have hF2 := (hF.setA (c0, c1)).setC (a0, a1)
      unfold set2 at hF2
      dsimp only at hF2
      replace hO := hid hO
      replace hF := hid hF
      replace hF2 := hid hF2
      go_upto_region 7 with fail
      clear h3 hz
      go_upto_region 11 with fail
      replace hF2 := hF2.out
      replace hO := hO.out
      generalize (((wc.setCell _ _).setCell _ _).setCell _ _).setCell _ _ = v5 at hF2 ⊢
      clear hF z0 z1 z2 l0 l1 l2
      have hF := hF2
      clear hF2 p0 p1 p2 p3 p4 p5
      have p0 := hF.a.c0
      have p1 := hF.a.c1
      have p2 := hF.b.c0
      have p3 := hF.b.c1
      have p4 := hF.c.c0
      have p5 := hF.c.c1
      dsimp only at p0 p1 p2 p3 p4 p5
      obtain ⟨zz, hzz⟩ : ∃ d, crsZ (c0, c1) (b0, b1) (a0, a1) = d := ⟨_, rfl⟩
      have HX := hid fun (W : World) => (show Calls Tryz.prog 23 #[.agg #[.int .i64 c0, .int .i64 c1], .agg #[.int .i64 b0, .int .i64 b1], .agg #[.int .i64 a0, .int .i64 a1]] W (RetI W zz) from by rw [← hzz]; exact hC.out (c0, c1) (b0, b1) (a0, a1) (by first | exact hin.out.1 | exact hin.out.2.1 | exact hin.out.2.2) (by first | exact hin.out.1 | exact hin.out.2.1 | exact hin.out.2.2) (by first | exact hin.out.1 | exact hin.out.2.1 | exact hin.out.2.2) W)
      unfold turnP at hO
      rw [hzz] at hO
      clear hzz hC hin
      by_cases hn : zz < 0
      ·rw [if_pos hn] at hO
       subst hO
       go_wp2_with fail
       refine (HX.out _).mono ?_
       rintro e v6 ⟨rfl, hv⟩
       replace hF := hF.below hv
       clear p0 p1 p2 p3 p4 p5
       have p0 := hF.a.c0
       have p1 := hF.a.c1
       have p2 := hF.b.c0
       have p3 := hF.b.c1
       have p4 := hF.c.c0
       have p5 := hF.c.c1
       dsimp only at p0 p1 p2 p3 p4 p5
       clear hv HX
       have z0 := hF.a.z.fr
       have z1 := hF.b.z.fr
       have z2 := hF.c.z.fr
       have l0 := hF.a.z.lt
       have l1 := hF.b.z.lt
       have l2 := hF.c.z.lt
       have hF2 := (hF.setB (a0, a1)).setC (b0, b1)
       unfold set2 at hF2
       dsimp only at hF2
       go_upto_region 13 with fail
       generalize (((v6.setCell _ _).setCell _ _).setCell _ _).setCell _ _ = v7 at hF2 ⊢
       clear hF z0 z1 z2 l0 l1 l2
       have hF := hF2
       clear hF2 p0 p1 p2 p3 p4 p5
       have p0 := hF.a.c0
       have p1 := hF.a.c1
       have p2 := hF.b.c0
       have p3 := hF.b.c1
       have p4 := hF.c.c0
       have p5 := hF.c.c1
       dsimp only at p0 p1 p2 p3 p4 p5
       have k0 := hF.k.r 0 _ rfl
       have k1 := hF.k.r 1 _ rfl
       have k2 := hF.k.r 2 _ rfl
       have k3 := hF.k.r 3 _ rfl
       have k4 := hF.k.r 4 _ rfl
       have k5 := hF.k.r 5 _ rfl
       have fk := hF.k.z.fr
       have ltk := hF.k.z.lt
       have hfin := hid (hF.k.fin (w0 := w) hF.hb (.int .i64 (c0)) (.int .i64 (c1)) (.int .i64 (a0)) (.int .i64 (a1)) (.int .i64 (b0)) (.int .i64 (b1)))
       clear hF
       go_wp2
       refine bodyPost_ret (v := .tuple #[.agg #[.int .i64 (c0), .int .i64 (c1), .int .i64 (a0), .int .i64 (a1), .int .i64 (b0), .int .i64 (b1)], .int .i64 (0)]) ?_ rfl ?_
       ·simp [results, Tryz.results11, go_sem, k0, k1, k2, k3, k4, k5]
       ·exact ⟨rfl, hfin.out⟩
      ·rw [if_neg hn] at hO
       subst hO
       go_wp2_with fail
       refine (HX.out _).mono ?_
       rintro e v6 ⟨rfl, hv⟩
       replace hF := hF.below hv
       clear p0 p1 p2 p3 p4 p5
       have p0 := hF.a.c0
       have p1 := hF.a.c1
       have p2 := hF.b.c0
       have p3 := hF.b.c1
       have p4 := hF.c.c0
       have p5 := hF.c.c1
       dsimp only at p0 p1 p2 p3 p4 p5
       clear hv HX
       have k0 := hF.k.r 0 _ rfl
       have k1 := hF.k.r 1 _ rfl
       have k2 := hF.k.r 2 _ rfl
       have k3 := hF.k.r 3 _ rfl
       have k4 := hF.k.r 4 _ rfl
       have k5 := hF.k.r 5 _ rfl
       have fk := hF.k.z.fr
       have ltk := hF.k.z.lt
       have hfin := hid (hF.k.fin (w0 := w) hF.hb (.int .i64 (c0)) (.int .i64 (c1)) (.int .i64 (b0)) (.int .i64 (b1)) (.int .i64 (a0)) (.int .i64 (a1)))
       clear hF
       go_wp2
       refine bodyPost_ret (v := .tuple #[.agg #[.int .i64 (c0), .int .i64 (c1), .int .i64 (b0), .int .i64 (b1), .int .i64 (a0), .int .i64 (a1)], .int .i64 (0)]) ?_ rfl ?_
       ·simp [results, Tryz.results11, go_sem, k0, k1, k2, k3, k4, k5]
       ·exact ⟨rfl, hfin.out⟩
end Go.Proofs.YtglailcfgcdagaaGreat
