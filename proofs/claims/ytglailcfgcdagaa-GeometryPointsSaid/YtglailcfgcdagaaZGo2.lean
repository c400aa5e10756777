/- Geometry: Order of the reference. Conditions: none. -/
import Derived.Test.YtglailcfgcdagaaZGo1
set_option linter.unusedVariables false
set_option linter.unusedSimpArgs false
namespace Go.Proofs.Ytglailcfgcdagaa
open Go.RowKit Big
/-- three points in one box -/
structure Out6 (g : Nat) (x y z : Int × Int) (wr : World) : Prop where
 c0 : wr.cell? ⟨g, 0, none⟩ = some (.int .i64 x.1)
 c1 : wr.cell? ⟨g, 1, none⟩ = some (.int .i64 x.2)
 c2 : wr.cell? ⟨g, 2, none⟩ = some (.int .i64 y.1)
 c3 : wr.cell? ⟨g, 3, none⟩ = some (.int .i64 y.2)
 c4 : wr.cell? ⟨g, 4, none⟩ = some (.int .i64 z.1)
 c5 : wr.cell? ⟨g, 5, none⟩ = some (.int .i64 z.2)
 z : Zn wr g
def set6 (wr : World) (g : Nat) (x y z : Int × Int) : World := (((((wr.setCell ⟨g, 0, none⟩ (.int .i64 x.1)).setCell ⟨g, 1, none⟩ (.int .i64 x.2)).setCell ⟨g, 2, none⟩ (.int .i64 y.1)).setCell ⟨g, 3, none⟩ (.int .i64 y.2)).setCell ⟨g, 4, none⟩ (.int .i64 z.1)).setCell ⟨g, 5, none⟩ (.int .i64 z.2)
theorem Out6.below {wr w1 : World} {g : Nat} {x y z : Int × Int} (h : Out6 g x y z wr) (hb : Below wr.heap.size wr w1) : Out6 g x y z w1 := ⟨keep_cell hb h.c0, keep_cell hb h.c1, keep_cell hb h.c2, keep_cell hb h.c3, keep_cell hb h.c4, keep_cell hb h.c5, h.z.below hb⟩
theorem Out6.set {wr : World} {g : Nat} {x y z : Int × Int} (h : Out6 g x y z wr) (x' y' z' : Int × Int) : Out6 g x' y' z' (set6 wr g x' y' z') := by
 have a1 : (wr.setCell ⟨g, 0, none⟩ (.int .i64 x'.1)).cell? ⟨g, 1, none⟩ = _ := keep_off (by omega) h.c1
 have a2 : ((wr.setCell ⟨g, 0, none⟩ (.int .i64 x'.1)).setCell ⟨g, 1, none⟩ (.int .i64 x'.2)).cell? ⟨g, 2, none⟩ = _ := keep_off (by omega) (keep_off (by omega) h.c2)
 have a3 : (((wr.setCell ⟨g, 0, none⟩ (.int .i64 x'.1)).setCell ⟨g, 1, none⟩ (.int .i64 x'.2)).setCell ⟨g, 2, none⟩ (.int .i64 y'.1)).cell? ⟨g, 3, none⟩ = _ := keep_off (by omega) (keep_off (by omega) (keep_off (by omega) h.c3))
 have a4 : ((((wr.setCell ⟨g, 0, none⟩ (.int .i64 x'.1)).setCell ⟨g, 1, none⟩ (.int .i64 x'.2)).setCell ⟨g, 2, none⟩ (.int .i64 y'.1)).setCell ⟨g, 3, none⟩ (.int .i64 y'.2)).cell? ⟨g, 4, none⟩ = _ := keep_off (by omega) (keep_off (by omega) (keep_off (by omega) (keep_off (by omega) h.c4)))
 have a5 : (((((wr.setCell ⟨g, 0, none⟩ (.int .i64 x'.1)).setCell ⟨g, 1, none⟩ (.int .i64 x'.2)).setCell ⟨g, 2, none⟩ (.int .i64 y'.1)).setCell ⟨g, 3, none⟩ (.int .i64 y'.2)).setCell ⟨g, 4, none⟩ (.int .i64 z'.1)).cell? ⟨g, 5, none⟩ = _ := keep_off (by omega) (keep_off (by omega) (keep_off (by omega) (keep_off (by omega) (keep_off (by omega) h.c5))))
 refine ⟨?_, ?_, ?_, ?_, ?_, at_set a5, h.z.set_.set_.set_.set_.set_.set_⟩
 ·exact keep_off (by omega) (keep_off (by omega) (keep_off (by omega) (keep_off (by omega) (keep_off (by omega) (at_set h.c0)))))
 ·exact keep_off (by omega) (keep_off (by omega) (keep_off (by omega) (keep_off (by omega) (at_set a1))))
 ·exact keep_off (by omega) (keep_off (by omega) (keep_off (by omega) (at_set a2)))
 ·exact keep_off (by omega) (keep_off (by omega) (at_set a3))
 ·exact keep_off (by omega) (at_set a4)
theorem PtB.far6 {wr : World} {g k : Nat} {q : Int × Int} (h : PtB g q wr) (hg : k ≠ g) (x y z : Int × Int) : PtB g q (set6 wr k x y z) :=
 ⟨keep_set hg (keep_set hg (keep_set hg (keep_set hg (keep_set hg (keep_set hg h.c0))))), keep_set hg (keep_set hg (keep_set hg (keep_set hg (keep_set hg (keep_set hg h.c1))))), h.z.set_.set_.set_.set_.set_.set_⟩
theorem Rs6.far6 {w wr : World} {g k : Nat} (h : Rs6 w g wr) (hg : k ≠ g) (x y z : Int × Int) : Rs6 w g (set6 wr k x y z) :=
 ⟨fun j v hv => keep_set hg (keep_set hg (keep_set hg (keep_set hg (keep_set hg (keep_set hg (h.r j v hv)))))), h.z.set_.set_.set_.set_.set_.set_, h.hg⟩
theorem O3.out6 {w wr : World} {a b c : Int × Int} {g : Nat} (h : O3 w a b c wr) (hg : w.heap.size + 1 + 1 + 1 < g) (x y z : Int × Int) : O3 w a b c (set6 wr g x y z) :=
 ⟨h.a.far6 (by omega) x y z, h.b.far6 (by omega) x y z, h.c.far6 (by omega) x y z, h.k.far6 (by omega) x y z,
  below_set (below_set (below_set (below_set (below_set (below_set h.hb (by omega) _ _) (by omega) _ _) (by omega) _ _) (by omega) _ _) (by omega) _ _) (by omega) _ _⟩
theorem Out6.new {u : World} {g : Nat} {x0 x1 y0 y1 z0 z1 : Int} (h : u.rangeAt g 0 [.int .i64 x0, .int .i64 x1, .int .i64 y0, .int .i64 y1, .int .i64 z0, .int .i64 z1]) (hz : Zn u g) : Out6 g (x0, x1) (y0, y1) (z0, z1) u :=
 ⟨h 0 _ rfl, h 1 _ rfl, h 2 _ rfl, h 3 _ rfl, h 4 _ rfl, h 5 _ rfl, hz⟩
set_option maxRecDepth 100000 in
set_option maxHeartbeats 4000000 in
theorem ROrder_g (a b c : Int × Int) (w : World) : Calls Try.prog 15 #[.agg #[.int .i64 a.1, .int .i64 a.2], .agg #[.int .i64 b.1, .int .i64 b.2], .agg #[.int .i64 c.1, .int .i64 c.2]] w (RetOE w (ordE a b c)) := by
 obtain ⟨t, hT, hF, _⟩ := ok3 (o := a) (a := b) (b := c)
 obtain ⟨k, hk⟩ : ∃ k, chkP [a, b, c] = k := ⟨_, rfl⟩
 have HK := hid fun (u : World) (t : TypeId) => (show Calls Try.prog 35 #[.slice (some ⟨u.heap.size, 0, none⟩) 3 3] (u.alloc (.cells #[.int .i64 a.1, .int .i64 a.2, .int .i64 b.1, .int .i64 b.2, .int .i64 c.1, .int .i64 c.2] t)) (RetI (u.alloc (.cells #[.int .i64 a.1, .int .i64 a.2, .int .i64 b.1, .int .i64 b.2, .int .i64 c.1, .int .i64 c.2] t)) k) from by
  have := Rright_g [a, b, c] _ _ (Pb.new3 u a b c t)
  rwa [hk] at this)
 have hQ0 := hid fun (h : t = false) => (show k = 3 ∧ ordE a b c = (((0, 0), (0, 0), (0, 0)), 3) from ⟨by rw [← hk]; exact hF h, by unfold ordE; rw [hF h]; rfl⟩)
 have hQ1 := hid fun (h : t = true) => (show k = 0 ∧ inP a = true ∧ inP b = true ∧ inP c = true ∧ (crsZ a b c = 0 → ordE a b c = (((0, 0), (0, 0), (0, 0)), 24)) ∧ (¬ crsZ a b c = 0 → ordE a b c = (ordP a b c, 0)) from
  ⟨by rw [← hk]; exact (hT h).2.2.2, (hT h).1, (hT h).2.1, (hT h).2.2.1, fun e => by unfold ordE; rw [(hT h).2.2.2, if_pos rfl, if_pos e], fun e => by unfold ordE; rw [(hT h).2.2.2, if_pos rfl, if_neg e]⟩)
 have hC := hid fun (o a b : Int × Int) (ho : inP o = true) (ha : inP a = true) (hb : inP b = true) (W : World) => Rcross_g ho ha hb W
 have hD := hid fun (a b : Int × Int) (ha : inP a = true) (hb : inP b = true) (W : World) => Rfar_g ha hb W
 have hO : ¬ crsZ a b c = 0 → ordP a b c = (if sqZ b c < sqZ a c then (if sqZ a c < sqZ a b then turnP c a b else turnP b a c) else (if sqZ b c < sqZ a b then turnP c a b else turnP a b c)) := fun h => (ordR_eq h).symm
 clear hT hF hk
 obtain ⟨d1, e1⟩ : ∃ d, sqZ b c = d := ⟨_, rfl⟩
 obtain ⟨d2, e2⟩ : ∃ d, sqZ a c = d := ⟨_, rfl⟩
 obtain ⟨d3, e3⟩ : ∃ d, sqZ a b = d := ⟨_, rfl⟩
 obtain ⟨z, ez⟩ : ∃ d, crsZ a b c = d := ⟨_, rfl⟩
 rw [e1, e2, e3, ez] at hO
 rw [ez] at hQ1
 have HZ := hid fun (ia : inP a = true) (ib : inP b = true) (ic : inP c = true) (W : World) => (show Calls Try.prog 36 #[.agg #[.int .i64 a.1, .int .i64 a.2], .agg #[.int .i64 b.1, .int .i64 b.2], .agg #[.int .i64 c.1, .int .i64 c.2]] W (RetI W z) from by rw [← ez]; exact hC.out a b c ia ib ic W)
 have HD1 := hid fun (ib : inP b = true) (ic : inP c = true) (W : World) => (show Calls Try.prog 40 #[.agg #[.int .i64 b.1, .int .i64 b.2], .agg #[.int .i64 c.1, .int .i64 c.2]] W (RetI W d1) from by rw [← e1]; exact hD.out b c ib ic W)
 have HD2 := hid fun (ib : inP a = true) (ic : inP c = true) (W : World) => (show Calls Try.prog 40 #[.agg #[.int .i64 a.1, .int .i64 a.2], .agg #[.int .i64 c.1, .int .i64 c.2]] W (RetI W d2) from by rw [← e2]; exact hD.out a c ib ic W)
 have HD3 := hid fun (ib : inP a = true) (ic : inP b = true) (W : World) => (show Calls Try.prog 40 #[.agg #[.int .i64 a.1, .int .i64 a.2], .agg #[.int .i64 b.1, .int .i64 b.2]] W (RetI W d3) from by rw [← e3]; exact hD.out a b ib ic W)
 replace hO := hid hO
 clear e1 e2 e3 ez hD
 generalize ordE a b c = Q at *
 generalize ordP a b c = T at *
 obtain ⟨a0, a1⟩ := a
 obtain ⟨b0, b1⟩ := b
 obtain ⟨c0, c1⟩ := c
 dsimp only at HK HZ HD1 HD2 HD3 ⊢
 go_enter Try.func15, Try.ntmps15
 go_upto_region 1 with fail
 refine enterQ4 (P := fun u => Code.wp _ _ _ _ u) (c0 := [.int .i64 a0, .int .i64 a1]) (c1 := [.int .i64 b0, .int .i64 b1]) (c2 := [.int .i64 c0, .int .i64 c1]) (c3 := [.int .i64 0, .int .i64 0, .int .i64 0, .int .i64 0, .int .i64 0, .int .i64 0]) ?_
 intro u HB r0 r1 r2 r3 zn0 zn1 zn2 zn3 hsz
 have hF : O3 w (a0, a1) (b0, b1) (c0, c1) u := ⟨PtB.new (w := w) r0 zn0, PtB.new (w := w) r1 zn1, PtB.new (w := w) r2 zn2, ⟨r3, zn3, by omega⟩, HB⟩
 clear hsz zn0 zn1 zn2 zn3 r0 r1 r2 r3 HB
 have p0 := hF.a.c0
 have p1 := hF.a.c1
 have p2 := hF.b.c0
 have p3 := hF.b.c1
 have p4 := hF.c.c0
 have p5 := hF.c.c1
 dsimp only at p0 p1 p2 p3 p4 p5
 go_wp2_with fail
 refine (HK.out u _).mono ?_
 rintro e v ⟨rfl, hv⟩
 have hv := bel_step ((Below.refl u.heap.size u).alloc (Nat.le_refl _) _) hv
 replace hF := hF.below hv
 clear p0 p1 p2 p3 p4 p5
 have p0 := hF.a.c0
 have p1 := hF.a.c1
 have p2 := hF.b.c0
 have p3 := hF.b.c1
 have p4 := hF.c.c0
 have p5 := hF.c.c1
 dsimp only at p0 p1 p2 p3 p4 p5
 clear HK hv
 cases t
 ·obtain ⟨rfl, rfl⟩ := hQ0.out (by first | rfl | trivial)
  clear hQ0 hQ1 HZ HD1 HD2 HD3 hC hO
  clear p0 p1 p2 p3 p4 p5
  have k0 := hF.k.r 0 _ rfl
  have k1 := hF.k.r 1 _ rfl
  have k2 := hF.k.r 2 _ rfl
  have k3 := hF.k.r 3 _ rfl
  have k4 := hF.k.r 4 _ rfl
  have k5 := hF.k.r 5 _ rfl
  have fk := hF.k.z.fr
  have ltk := hF.k.z.lt
  have hfin := hid (hF.k.fin (w0 := w) hF.hb (.int .i64 (0)) (.int .i64 (0)) (.int .i64 (0)) (.int .i64 (0)) (.int .i64 (0)) (.int .i64 (0)))
  clear hF
  go_wp2
  refine bodyPost_ret (v := .tuple #[.agg #[.int .i64 (0), .int .i64 (0), .int .i64 (0), .int .i64 (0), .int .i64 (0), .int .i64 (0)], .int .i64 (3)]) ?_ rfl ?_
  ·simp [results, Try.results15, go_sem, k0, k1, k2, k3, k4, k5]
  ·exact ⟨rfl, hfin.out⟩
 ·obtain ⟨rfl, ia, ib, ic, hq0, hq1⟩ := hQ1.out (by first | rfl | trivial)
  replace HZ := hid (HZ.out ia ib ic)
  replace HD1 := hid (HD1.out ib ic)
  replace HD2 := hid (HD2.out ia ic)
  replace HD3 := hid (HD3.out ia ib)
  have hin := hid (And.intro ia (And.intro ib ic))
  replace hq0 := hid hq0
  replace hq1 := hid hq1
  clear hQ0 hQ1 ia ib ic
  go_wp2_with fail
  refine (HZ.out v).mono ?_
  rintro e v2 ⟨rfl, hv⟩
  replace hF := hF.below hv
  clear p0 p1 p2 p3 p4 p5
  have p0 := hF.a.c0
  have p1 := hF.a.c1
  have p2 := hF.b.c0
  have p3 := hF.b.c1
  have p4 := hF.c.c0
  have p5 := hF.c.c1
  dsimp only at p0 p1 p2 p3 p4 p5
  clear hv HZ
  by_cases hz : z = 0
  ·obtain rfl := hq0.out hz
   subst hz
   clear hq0 hq1 HD1 HD2 HD3 hC hO hin
   clear p0 p1 p2 p3 p4 p5
   have k0 := hF.k.r 0 _ rfl
   have k1 := hF.k.r 1 _ rfl
   have k2 := hF.k.r 2 _ rfl
   have k3 := hF.k.r 3 _ rfl
   have k4 := hF.k.r 4 _ rfl
   have k5 := hF.k.r 5 _ rfl
   have fk := hF.k.z.fr
   have ltk := hF.k.z.lt
   have hfin := hid (hF.k.fin (w0 := w) hF.hb (.int .i64 (0)) (.int .i64 (0)) (.int .i64 (0)) (.int .i64 (0)) (.int .i64 (0)) (.int .i64 (0)))
   clear hF
   go_wp2
   refine bodyPost_ret (v := .tuple #[.agg #[.int .i64 (0), .int .i64 (0), .int .i64 (0), .int .i64 (0), .int .i64 (0), .int .i64 (0)], .int .i64 (24)]) ?_ rfl ?_
   ·simp [results, Try.results15, go_sem, k0, k1, k2, k3, k4, k5]
   ·exact ⟨rfl, hfin.out⟩
  ·obtain rfl := hq1.out hz
   clear hq0 hq1
   replace hO := hO.out hz
   go_upto_region 7 with fail
   refine enterR (P := fun u => Code.wp _ _ _ _ u) (c := [.int .i64 a0, .int .i64 a1, .int .i64 b0, .int .i64 b1, .int .i64 c0, .int .i64 c1]) ?_
   intro v3 hv r4 zn4 hsz
   have hU := Out6.new r4 zn4
   have hgb : w.heap.size + 1 + 1 + 1 < v2.heap.size := hF.k.z.lt
   replace hF := hF.below hv
   clear p0 p1 p2 p3 p4 p5
   have p0 := hF.a.c0
   have p1 := hF.a.c1
   have p2 := hF.b.c0
   have p3 := hF.b.c1
   have p4 := hF.c.c0
   have p5 := hF.c.c1
   dsimp only at p0 p1 p2 p3 p4 p5
   clear hsz r4 zn4 hv hz
   generalize v2.heap.size = gb at *
   have q0 := hU.c0
   have q1 := hU.c1
   have q2 := hU.c2
   have q3 := hU.c3
   have q4 := hU.c4
   have q5 := hU.c5
   dsimp only at q0 q1 q2 q3 q4 q5
   go_cut [37] (fun s wx => s = .bool (decide (d1 < d2)) ∧ Below v3.heap.size v3 wx)
   case first =>
    go_region_held3 (fun w' => (w'.cell? ⟨w.heap.size, 0, none⟩ = some (.int .i64 a0) ∧ w'.cell? ⟨w.heap.size, 1, none⟩ = some (.int .i64 a1)) ∧ (w'.cell? ⟨w.heap.size + 1 + 1, 0, none⟩ = some (.int .i64 c0) ∧ w'.cell? ⟨w.heap.size + 1 + 1, 1, none⟩ = some (.int .i64 c1)) ∧ (w'.cell? ⟨gb, 2, none⟩ = some (.int .i64 b0) ∧ w'.cell? ⟨gb, 3, none⟩ = some (.int .i64 b1)) ∧ (w'.cell? ⟨gb, 4, none⟩ = some (.int .i64 c0) ∧ w'.cell? ⟨gb, 5, none⟩ = some (.int .i64 c1))) (first | ((try dsimp only); repeat' (first | with_reducible assumption | apply And.intro | (with_reducible refine keep_alloc ?_) | (with_reducible refine keep_drew ?_) | (with_reducible refine keep_set (by omega) ?_) | (with_reducible refine keep_sets (by omega) ?_) | (with_reducible refine keep_cell (W := v3) ?_ ?_) | fail))) (first | (go_at_call 40; (with_reducible refine (HD2.out _).mono ?_); rintro e y1 ⟨rfl, hq_⟩; have qy1 : Below v3.heap.size v3 y1 := bel_step BG hq_) | (go_at_call 40; (with_reducible refine (HD1.out _).mono ?_); rintro e y2 ⟨rfl, hq_⟩; have qy2 : Below v3.heap.size v3 y2 := bel_step BG hq_))
    all_goals
     go_wp2_with fail
     go_meet
    all_goals
     exact ⟨rfl, BG⟩
   case rest =>
    obtain ⟨rfl, hx⟩ := hcut
    replace hF := hF.below hx
    clear p0 p1 p2 p3 p4 p5
    have p0 := hF.a.c0
    have p1 := hF.a.c1
    have p2 := hF.b.c0
    have p3 := hF.b.c1
    have p4 := hF.c.c0
    have p5 := hF.c.c1
    dsimp only at p0 p1 p2 p3 p4 p5
    replace hU := hU.below hx
    clear q0 q1 q2 q3 q4 q5
    have q0 := hU.c0
    have q1 := hU.c1
    have q2 := hU.c2
    have q3 := hU.c3
    have q4 := hU.c4
    have q5 := hU.c5
    dsimp only at q0 q1 q2 q3 q4 q5
    clear hx
    by_cases g1 : d1 < d2
    ·rw [if_pos g1] at hO
     go_upto_region 8 with fail
     clear g1
     have hF2 := hid (hF.out6 hgb (b0, b1) (a0, a1) (c0, c1))
     have hU2 := hid (hU.set (b0, b1) (a0, a1) (c0, c1))
     have zu := hU.z.fr
     have lu := hU.z.lt
     replace hO := hid hO
     replace hF := hid hF
     replace hU := hid hU
     go_upto_region 9 with fail
     replace hF2 := hF2.out
     replace hU2 := hU2.out
     replace hO := hO.out
     unfold set6 at hF2 hU2
     dsimp only at hF2 hU2
     generalize (((((World.setCell _ _ _).setCell _ _).setCell _ _).setCell _ _).setCell _ _).setCell _ _ = v5 at hF2 hU2 ⊢
     clear hF hU zu lu p0 p1 p2 p3 p4 p5 q0 q1 q2 q3 q4 q5
     have hF := hF2
     have hU := hU2
     clear hF2 hU2
     have p0 := hF.a.c0
     have p1 := hF.a.c1
     have p2 := hF.b.c0
     have p3 := hF.b.c1
     have p4 := hF.c.c0
     have p5 := hF.c.c1
     dsimp only at p0 p1 p2 p3 p4 p5
     have q0 := hU.c0
     have q1 := hU.c1
     have q2 := hU.c2
     have q3 := hU.c3
     have q4 := hU.c4
     have q5 := hU.c5
     dsimp only at q0 q1 q2 q3 q4 q5
     go_cut [50] (fun s wx => s = .bool (decide (d2 < d3)) ∧ Below v5.heap.size v5 wx)
     case first =>
      go_region_held3 (fun w' => (w'.cell? ⟨w.heap.size, 0, none⟩ = some (.int .i64 a0) ∧ w'.cell? ⟨w.heap.size, 1, none⟩ = some (.int .i64 a1)) ∧ (w'.cell? ⟨w.heap.size + 1, 0, none⟩ = some (.int .i64 b0) ∧ w'.cell? ⟨w.heap.size + 1, 1, none⟩ = some (.int .i64 b1)) ∧ (w'.cell? ⟨gb, 2, none⟩ = some (.int .i64 a0) ∧ w'.cell? ⟨gb, 3, none⟩ = some (.int .i64 a1)) ∧ (w'.cell? ⟨gb, 4, none⟩ = some (.int .i64 c0) ∧ w'.cell? ⟨gb, 5, none⟩ = some (.int .i64 c1))) (first | ((try dsimp only); repeat' (first | with_reducible assumption | apply And.intro | (with_reducible refine keep_alloc ?_) | (with_reducible refine keep_drew ?_) | (with_reducible refine keep_set (by omega) ?_) | (with_reducible refine keep_sets (by omega) ?_) | (with_reducible refine keep_cell (W := v5) ?_ ?_) | fail))) (first | (go_at_call 40; (with_reducible refine (HD3.out _).mono ?_); rintro e y1 ⟨rfl, hq_⟩; have qy1 : Below v5.heap.size v5 y1 := bel_step BG hq_) | (go_at_call 40; (with_reducible refine (HD2.out _).mono ?_); rintro e y2 ⟨rfl, hq_⟩; have qy2 : Below v5.heap.size v5 y2 := bel_step BG hq_))
      all_goals
       go_wp2_with fail
       go_meet
      all_goals
       exact ⟨rfl, BG⟩
     case rest =>
      obtain ⟨rfl, hx⟩ := hcut
      replace hF := hF.below hx
      clear p0 p1 p2 p3 p4 p5
      have p0 := hF.a.c0
      have p1 := hF.a.c1
      have p2 := hF.b.c0
      have p3 := hF.b.c1
      have p4 := hF.c.c0
      have p5 := hF.c.c1
      dsimp only at p0 p1 p2 p3 p4 p5
      replace hU := hU.below hx
      clear q0 q1 q2 q3 q4 q5
      have q0 := hU.c0
      have q1 := hU.c1
      have q2 := hU.c2
      have q3 := hU.c3
      have q4 := hU.c4
      have q5 := hU.c5
      dsimp only at q0 q1 q2 q3 q4 q5
      clear hx
      by_cases g2 : d2 < d3
      ·rw [if_pos g2] at hO
       go_upto_region 10 with fail
       clear g2
       have hF2 := hid (hF.out6 hgb (c0, c1) (a0, a1) (b0, b1))
       have hU2 := hid (hU.set (c0, c1) (a0, a1) (b0, b1))
       have zu := hU.z.fr
       have lu := hU.z.lt
       replace hO := hid hO
       replace hF := hid hF
       replace hU := hid hU
       go_upto_region 11 with fail
       replace hF2 := hF2.out
       replace hU2 := hU2.out
       replace hO := hO.out
       unfold set6 at hF2 hU2
       dsimp only at hF2 hU2
       generalize (((((World.setCell _ _ _).setCell _ _).setCell _ _).setCell _ _).setCell _ _).setCell _ _ = v7 at hF2 hU2 ⊢
       clear hF hU zu lu p0 p1 p2 p3 p4 p5 q0 q1 q2 q3 q4 q5
       have hF := hF2
       have hU := hU2
       clear hF2 hU2
       have p0 := hF.a.c0
       have p1 := hF.a.c1
       have p2 := hF.b.c0
       have p3 := hF.b.c1
       have p4 := hF.c.c0
       have p5 := hF.c.c1
       dsimp only at p0 p1 p2 p3 p4 p5
       have q0 := hU.c0
       have q1 := hU.c1
       have q2 := hU.c2
       have q3 := hU.c3
       have q4 := hU.c4
       have q5 := hU.c5
       dsimp only at q0 q1 q2 q3 q4 q5
       obtain ⟨zz, hzz⟩ : ∃ d, crsZ (c0, c1) (a0, a1) (b0, b1) = d := ⟨_, rfl⟩
       have HX := hid fun (W : World) => (show Calls Try.prog 36 #[.agg #[.int .i64 c0, .int .i64 c1], .agg #[.int .i64 a0, .int .i64 a1], .agg #[.int .i64 b0, .int .i64 b1]] W (RetI W zz) from by rw [← hzz]; exact hC.out (c0, c1) (a0, a1) (b0, b1) (by first | exact hin.out.1 | exact hin.out.2.1 | exact hin.out.2.2) (by first | exact hin.out.1 | exact hin.out.2.1 | exact hin.out.2.2) (by first | exact hin.out.1 | exact hin.out.2.1 | exact hin.out.2.2) W)
       unfold turnP at hO
       rw [hzz] at hO
       clear hzz hC hin HD1 HD2 HD3
       by_cases hn : zz < 0
       ·rw [if_pos hn] at hO
        subst hO
        go_wp2_with fail
        refine (HX.out _).mono ?_
        rintro e v6 ⟨rfl, hv⟩
        replace hF := hF.below hv
        clear p0 p1 p2 p3 p4 p5
        have p0 := hF.a.c0
        have p1 := hF.a.c1
        have p2 := hF.b.c0
        have p3 := hF.b.c1
        have p4 := hF.c.c0
        have p5 := hF.c.c1
        dsimp only at p0 p1 p2 p3 p4 p5
        replace hU := hU.below hv
        clear q0 q1 q2 q3 q4 q5
        have q0 := hU.c0
        have q1 := hU.c1
        have q2 := hU.c2
        have q3 := hU.c3
        have q4 := hU.c4
        have q5 := hU.c5
        dsimp only at q0 q1 q2 q3 q4 q5
        clear hv HX
        have hO := True.intro
        go_upto_region 12 with fail
        clear hn
        have hF2 := hid (hF.out6 hgb (c0, c1) (b0, b1) (a0, a1))
        have hU2 := hid (hU.set (c0, c1) (b0, b1) (a0, a1))
        have zu := hU.z.fr
        have lu := hU.z.lt
        replace hO := hid hO
        replace hF := hid hF
        replace hU := hid hU
        go_upto_region 13 with fail
        replace hF2 := hF2.out
        replace hU2 := hU2.out
        replace hO := hO.out
        unfold set6 at hF2 hU2
        dsimp only at hF2 hU2
        generalize (((((World.setCell _ _ _).setCell _ _).setCell _ _).setCell _ _).setCell _ _).setCell _ _ = v8 at hF2 hU2 ⊢
        clear hF hU zu lu p0 p1 p2 p3 p4 p5 q0 q1 q2 q3 q4 q5
        have hF := hF2
        have hU := hU2
        clear hF2 hU2
        have p0 := hF.a.c0
        have p1 := hF.a.c1
        have p2 := hF.b.c0
        have p3 := hF.b.c1
        have p4 := hF.c.c0
        have p5 := hF.c.c1
        dsimp only at p0 p1 p2 p3 p4 p5
        have q0 := hU.c0
        have q1 := hU.c1
        have q2 := hU.c2
        have q3 := hU.c3
        have q4 := hU.c4
        have q5 := hU.c5
        dsimp only at q0 q1 q2 q3 q4 q5
        have k0 := hF.k.r 0 _ rfl
        have k1 := hF.k.r 1 _ rfl
        have k2 := hF.k.r 2 _ rfl
        have k3 := hF.k.r 3 _ rfl
        have k4 := hF.k.r 4 _ rfl
        have k5 := hF.k.r 5 _ rfl
        have fk := hF.k.z.fr
        have ltk := hF.k.z.lt
        have hfin := hid (hF.k.fin (w0 := w) hF.hb (.int .i64 (c0)) (.int .i64 (c1)) (.int .i64 (b0)) (.int .i64 (b1)) (.int .i64 (a0)) (.int .i64 (a1)))
        clear hF
        go_wp2
        refine bodyPost_ret (v := .tuple #[.agg #[.int .i64 (c0), .int .i64 (c1), .int .i64 (b0), .int .i64 (b1), .int .i64 (a0), .int .i64 (a1)], .int .i64 (0)]) ?_ rfl ?_
        ·simp [results, Try.results15, go_sem, k0, k1, k2, k3, k4, k5]
        ·exact ⟨rfl, hfin.out⟩
       ·rw [if_neg hn] at hO
        subst hO
        go_wp2_with fail
        refine (HX.out _).mono ?_
        rintro e v6 ⟨rfl, hv⟩
        replace hF := hF.below hv
        clear p0 p1 p2 p3 p4 p5
        have p0 := hF.a.c0
        have p1 := hF.a.c1
        have p2 := hF.b.c0
        have p3 := hF.b.c1
        have p4 := hF.c.c0
        have p5 := hF.c.c1
        dsimp only at p0 p1 p2 p3 p4 p5
        replace hU := hU.below hv
        clear q0 q1 q2 q3 q4 q5
        have q0 := hU.c0
        have q1 := hU.c1
        have q2 := hU.c2
        have q3 := hU.c3
        have q4 := hU.c4
        have q5 := hU.c5
        dsimp only at q0 q1 q2 q3 q4 q5
        clear hv HX
        have k0 := hF.k.r 0 _ rfl
        have k1 := hF.k.r 1 _ rfl
        have k2 := hF.k.r 2 _ rfl
        have k3 := hF.k.r 3 _ rfl
        have k4 := hF.k.r 4 _ rfl
        have k5 := hF.k.r 5 _ rfl
        have fk := hF.k.z.fr
        have ltk := hF.k.z.lt
        have hfin := hid (hF.k.fin (w0 := w) hF.hb (.int .i64 (c0)) (.int .i64 (c1)) (.int .i64 (a0)) (.int .i64 (a1)) (.int .i64 (b0)) (.int .i64 (b1)))
        clear hF
        go_wp2
        refine bodyPost_ret (v := .tuple #[.agg #[.int .i64 (c0), .int .i64 (c1), .int .i64 (a0), .int .i64 (a1), .int .i64 (b0), .int .i64 (b1)], .int .i64 (0)]) ?_ rfl ?_
        ·simp [results, Try.results15, go_sem, k0, k1, k2, k3, k4, k5]
        ·exact ⟨rfl, hfin.out⟩
      ·rw [if_neg g2] at hO
       obtain ⟨zz, hzz⟩ : ∃ d, crsZ (b0, b1) (a0, a1) (c0, c1) = d := ⟨_, rfl⟩
       have HX := hid fun (W : World) => (show Calls Try.prog 36 #[.agg #[.int .i64 b0, .int .i64 b1], .agg #[.int .i64 a0, .int .i64 a1], .agg #[.int .i64 c0, .int .i64 c1]] W (RetI W zz) from by rw [← hzz]; exact hC.out (b0, b1) (a0, a1) (c0, c1) (by first | exact hin.out.1 | exact hin.out.2.1 | exact hin.out.2.2) (by first | exact hin.out.1 | exact hin.out.2.1 | exact hin.out.2.2) (by first | exact hin.out.1 | exact hin.out.2.1 | exact hin.out.2.2) W)
       unfold turnP at hO
       rw [hzz] at hO
       clear hzz hC hin HD1 HD2 HD3
       by_cases hn : zz < 0
       ·rw [if_pos hn] at hO
        subst hO
        go_wp2_with fail
        refine (HX.out _).mono ?_
        rintro e v6 ⟨rfl, hv⟩
        replace hF := hF.below hv
        clear p0 p1 p2 p3 p4 p5
        have p0 := hF.a.c0
        have p1 := hF.a.c1
        have p2 := hF.b.c0
        have p3 := hF.b.c1
        have p4 := hF.c.c0
        have p5 := hF.c.c1
        dsimp only at p0 p1 p2 p3 p4 p5
        replace hU := hU.below hv
        clear q0 q1 q2 q3 q4 q5
        have q0 := hU.c0
        have q1 := hU.c1
        have q2 := hU.c2
        have q3 := hU.c3
        have q4 := hU.c4
        have q5 := hU.c5
        dsimp only at q0 q1 q2 q3 q4 q5
        clear hv HX
        have hO := True.intro
        go_upto_region 12 with fail
        clear hn
        have hF2 := hid (hF.out6 hgb (b0, b1) (c0, c1) (a0, a1))
        have hU2 := hid (hU.set (b0, b1) (c0, c1) (a0, a1))
        have zu := hU.z.fr
        have lu := hU.z.lt
        replace hO := hid hO
        replace hF := hid hF
        replace hU := hid hU
        go_upto_region 13 with fail
        replace hF2 := hF2.out
        replace hU2 := hU2.out
        replace hO := hO.out
        unfold set6 at hF2 hU2
        dsimp only at hF2 hU2
        generalize (((((World.setCell _ _ _).setCell _ _).setCell _ _).setCell _ _).setCell _ _).setCell _ _ = v8 at hF2 hU2 ⊢
        clear hF hU zu lu p0 p1 p2 p3 p4 p5 q0 q1 q2 q3 q4 q5
        have hF := hF2
        have hU := hU2
        clear hF2 hU2
        have p0 := hF.a.c0
        have p1 := hF.a.c1
        have p2 := hF.b.c0
        have p3 := hF.b.c1
        have p4 := hF.c.c0
        have p5 := hF.c.c1
        dsimp only at p0 p1 p2 p3 p4 p5
        have q0 := hU.c0
        have q1 := hU.c1
        have q2 := hU.c2
        have q3 := hU.c3
        have q4 := hU.c4
        have q5 := hU.c5
        dsimp only at q0 q1 q2 q3 q4 q5
        have k0 := hF.k.r 0 _ rfl
        have k1 := hF.k.r 1 _ rfl
        have k2 := hF.k.r 2 _ rfl
        have k3 := hF.k.r 3 _ rfl
        have k4 := hF.k.r 4 _ rfl
        have k5 := hF.k.r 5 _ rfl
        have fk := hF.k.z.fr
        have ltk := hF.k.z.lt
        have hfin := hid (hF.k.fin (w0 := w) hF.hb (.int .i64 (b0)) (.int .i64 (b1)) (.int .i64 (c0)) (.int .i64 (c1)) (.int .i64 (a0)) (.int .i64 (a1)))
        clear hF
        go_wp2
        refine bodyPost_ret (v := .tuple #[.agg #[.int .i64 (b0), .int .i64 (b1), .int .i64 (c0), .int .i64 (c1), .int .i64 (a0), .int .i64 (a1)], .int .i64 (0)]) ?_ rfl ?_
        ·simp [results, Try.results15, go_sem, k0, k1, k2, k3, k4, k5]
        ·exact ⟨rfl, hfin.out⟩
       ·rw [if_neg hn] at hO
        subst hO
        go_wp2_with fail
        refine (HX.out _).mono ?_
        rintro e v6 ⟨rfl, hv⟩
        replace hF := hF.below hv
        clear p0 p1 p2 p3 p4 p5
        have p0 := hF.a.c0
        have p1 := hF.a.c1
        have p2 := hF.b.c0
        have p3 := hF.b.c1
        have p4 := hF.c.c0
        have p5 := hF.c.c1
        dsimp only at p0 p1 p2 p3 p4 p5
        replace hU := hU.below hv
        clear q0 q1 q2 q3 q4 q5
        have q0 := hU.c0
        have q1 := hU.c1
        have q2 := hU.c2
        have q3 := hU.c3
        have q4 := hU.c4
        have q5 := hU.c5
        dsimp only at q0 q1 q2 q3 q4 q5
        clear hv HX
        have k0 := hF.k.r 0 _ rfl
        have k1 := hF.k.r 1 _ rfl
        have k2 := hF.k.r 2 _ rfl
        have k3 := hF.k.r 3 _ rfl
        have k4 := hF.k.r 4 _ rfl
        have k5 := hF.k.r 5 _ rfl
        have fk := hF.k.z.fr
        have ltk := hF.k.z.lt
        have hfin := hid (hF.k.fin (w0 := w) hF.hb (.int .i64 (b0)) (.int .i64 (b1)) (.int .i64 (a0)) (.int .i64 (a1)) (.int .i64 (c0)) (.int .i64 (c1)))
        clear hF
        go_wp2
        refine bodyPost_ret (v := .tuple #[.agg #[.int .i64 (b0), .int .i64 (b1), .int .i64 (a0), .int .i64 (a1), .int .i64 (c0), .int .i64 (c1)], .int .i64 (0)]) ?_ rfl ?_
        ·simp [results, Try.results15, go_sem, k0, k1, k2, k3, k4, k5]
        ·exact ⟨rfl, hfin.out⟩
    ·rw [if_neg g1] at hO
     obtain ⟨v5, hv5⟩ : ∃ v, v = wc := ⟨_, rfl⟩
     subst hv5
     go_upto_region 9 with fail
     clear g1
     go_cut [50] (fun s wx => s = .bool (decide (d1 < d3)) ∧ Below v5.heap.size v5 wx)
     case first =>
      go_region_held3 (fun w' => (w'.cell? ⟨w.heap.size, 0, none⟩ = some (.int .i64 a0) ∧ w'.cell? ⟨w.heap.size, 1, none⟩ = some (.int .i64 a1)) ∧ (w'.cell? ⟨w.heap.size + 1, 0, none⟩ = some (.int .i64 b0) ∧ w'.cell? ⟨w.heap.size + 1, 1, none⟩ = some (.int .i64 b1)) ∧ (w'.cell? ⟨gb, 2, none⟩ = some (.int .i64 b0) ∧ w'.cell? ⟨gb, 3, none⟩ = some (.int .i64 b1)) ∧ (w'.cell? ⟨gb, 4, none⟩ = some (.int .i64 c0) ∧ w'.cell? ⟨gb, 5, none⟩ = some (.int .i64 c1))) (first | ((try dsimp only); repeat' (first | with_reducible assumption | apply And.intro | (with_reducible refine keep_alloc ?_) | (with_reducible refine keep_drew ?_) | (with_reducible refine keep_set (by omega) ?_) | (with_reducible refine keep_sets (by omega) ?_) | (with_reducible refine keep_cell (W := v5) ?_ ?_) | fail))) (first | (go_at_call 40; (with_reducible refine (HD3.out _).mono ?_); rintro e y1 ⟨rfl, hq_⟩; have qy1 : Below v5.heap.size v5 y1 := bel_step BG hq_) | (go_at_call 40; (with_reducible refine (HD1.out _).mono ?_); rintro e y2 ⟨rfl, hq_⟩; have qy2 : Below v5.heap.size v5 y2 := bel_step BG hq_))
      all_goals
       go_wp2_with fail
       go_meet
      all_goals
       exact ⟨rfl, BG⟩
     case rest =>
      obtain ⟨rfl, hx⟩ := hcut
      replace hF := hF.below hx
      clear p0 p1 p2 p3 p4 p5
      have p0 := hF.a.c0
      have p1 := hF.a.c1
      have p2 := hF.b.c0
      have p3 := hF.b.c1
      have p4 := hF.c.c0
      have p5 := hF.c.c1
      dsimp only at p0 p1 p2 p3 p4 p5
      replace hU := hU.below hx
      clear q0 q1 q2 q3 q4 q5
      have q0 := hU.c0
      have q1 := hU.c1
      have q2 := hU.c2
      have q3 := hU.c3
      have q4 := hU.c4
      have q5 := hU.c5
      dsimp only at q0 q1 q2 q3 q4 q5
      clear hx
      by_cases g2 : d1 < d3
      ·rw [if_pos g2] at hO
       go_upto_region 10 with fail
       clear g2
       have hF2 := hid (hF.out6 hgb (c0, c1) (a0, a1) (b0, b1))
       have hU2 := hid (hU.set (c0, c1) (a0, a1) (b0, b1))
       have zu := hU.z.fr
       have lu := hU.z.lt
       replace hO := hid hO
       replace hF := hid hF
       replace hU := hid hU
       go_upto_region 11 with fail
       replace hF2 := hF2.out
       replace hU2 := hU2.out
       replace hO := hO.out
       unfold set6 at hF2 hU2
       dsimp only at hF2 hU2
       generalize (((((World.setCell _ _ _).setCell _ _).setCell _ _).setCell _ _).setCell _ _).setCell _ _ = v7 at hF2 hU2 ⊢
       clear hF hU zu lu p0 p1 p2 p3 p4 p5 q0 q1 q2 q3 q4 q5
       have hF := hF2
       have hU := hU2
       clear hF2 hU2
       have p0 := hF.a.c0
       have p1 := hF.a.c1
       have p2 := hF.b.c0
       have p3 := hF.b.c1
       have p4 := hF.c.c0
       have p5 := hF.c.c1
       dsimp only at p0 p1 p2 p3 p4 p5
       have q0 := hU.c0
       have q1 := hU.c1
       have q2 := hU.c2
       have q3 := hU.c3
       have q4 := hU.c4
       have q5 := hU.c5
       dsimp only at q0 q1 q2 q3 q4 q5
       obtain ⟨zz, hzz⟩ : ∃ d, crsZ (c0, c1) (a0, a1) (b0, b1) = d := ⟨_, rfl⟩
       have HX := hid fun (W : World) => (show Calls Try.prog 36 #[.agg #[.int .i64 c0, .int .i64 c1], .agg #[.int .i64 a0, .int .i64 a1], .agg #[.int .i64 b0, .int .i64 b1]] W (RetI W zz) from by rw [← hzz]; exact hC.out (c0, c1) (a0, a1) (b0, b1) (by first | exact hin.out.1 | exact hin.out.2.1 | exact hin.out.2.2) (by first | exact hin.out.1 | exact hin.out.2.1 | exact hin.out.2.2) (by first | exact hin.out.1 | exact hin.out.2.1 | exact hin.out.2.2) W)
       unfold turnP at hO
       rw [hzz] at hO
       clear hzz hC hin HD1 HD2 HD3
       by_cases hn : zz < 0
       ·rw [if_pos hn] at hO
        subst hO
        go_wp2_with fail
        refine (HX.out _).mono ?_
        rintro e v6 ⟨rfl, hv⟩
        replace hF := hF.below hv
        clear p0 p1 p2 p3 p4 p5
        have p0 := hF.a.c0
        have p1 := hF.a.c1
        have p2 := hF.b.c0
        have p3 := hF.b.c1
        have p4 := hF.c.c0
        have p5 := hF.c.c1
        dsimp only at p0 p1 p2 p3 p4 p5
        replace hU := hU.below hv
        clear q0 q1 q2 q3 q4 q5
        have q0 := hU.c0
        have q1 := hU.c1
        have q2 := hU.c2
        have q3 := hU.c3
        have q4 := hU.c4
        have q5 := hU.c5
        dsimp only at q0 q1 q2 q3 q4 q5
        clear hv HX
        have hO := True.intro
        go_upto_region 12 with fail
        clear hn
        have hF2 := hid (hF.out6 hgb (c0, c1) (b0, b1) (a0, a1))
        have hU2 := hid (hU.set (c0, c1) (b0, b1) (a0, a1))
        have zu := hU.z.fr
        have lu := hU.z.lt
        replace hO := hid hO
        replace hF := hid hF
        replace hU := hid hU
        go_upto_region 13 with fail
        replace hF2 := hF2.out
        replace hU2 := hU2.out
        replace hO := hO.out
        unfold set6 at hF2 hU2
        dsimp only at hF2 hU2
        generalize (((((World.setCell _ _ _).setCell _ _).setCell _ _).setCell _ _).setCell _ _).setCell _ _ = v8 at hF2 hU2 ⊢
        clear hF hU zu lu p0 p1 p2 p3 p4 p5 q0 q1 q2 q3 q4 q5
        have hF := hF2
        have hU := hU2
        clear hF2 hU2
        have p0 := hF.a.c0
        have p1 := hF.a.c1
        have p2 := hF.b.c0
        have p3 := hF.b.c1
        have p4 := hF.c.c0
        have p5 := hF.c.c1
        dsimp only at p0 p1 p2 p3 p4 p5
        have q0 := hU.c0
        have q1 := hU.c1
        have q2 := hU.c2
        have q3 := hU.c3
        have q4 := hU.c4
        have q5 := hU.c5
        dsimp only at q0 q1 q2 q3 q4 q5
        have k0 := hF.k.r 0 _ rfl
        have k1 := hF.k.r 1 _ rfl
        have k2 := hF.k.r 2 _ rfl
        have k3 := hF.k.r 3 _ rfl
        have k4 := hF.k.r 4 _ rfl
        have k5 := hF.k.r 5 _ rfl
        have fk := hF.k.z.fr
        have ltk := hF.k.z.lt
        have hfin := hid (hF.k.fin (w0 := w) hF.hb (.int .i64 (c0)) (.int .i64 (c1)) (.int .i64 (b0)) (.int .i64 (b1)) (.int .i64 (a0)) (.int .i64 (a1)))
        clear hF
        go_wp2
        refine bodyPost_ret (v := .tuple #[.agg #[.int .i64 (c0), .int .i64 (c1), .int .i64 (b0), .int .i64 (b1), .int .i64 (a0), .int .i64 (a1)], .int .i64 (0)]) ?_ rfl ?_
        ·simp [results, Try.results15, go_sem, k0, k1, k2, k3, k4, k5]
        ·exact ⟨rfl, hfin.out⟩
       ·rw [if_neg hn] at hO
        subst hO
        go_wp2_with fail
        refine (HX.out _).mono ?_
        rintro e v6 ⟨rfl, hv⟩
        replace hF := hF.below hv
        clear p0 p1 p2 p3 p4 p5
        have p0 := hF.a.c0
        have p1 := hF.a.c1
        have p2 := hF.b.c0
        have p3 := hF.b.c1
        have p4 := hF.c.c0
        have p5 := hF.c.c1
        dsimp only at p0 p1 p2 p3 p4 p5
        replace hU := hU.below hv
        clear q0 q1 q2 q3 q4 q5
        have q0 := hU.c0
        have q1 := hU.c1
        have q2 := hU.c2
        have q3 := hU.c3
        have q4 := hU.c4
        have q5 := hU.c5
        dsimp only at q0 q1 q2 q3 q4 q5
        clear hv HX
        have k0 := hF.k.r 0 _ rfl
        have k1 := hF.k.r 1 _ rfl
        have k2 := hF.k.r 2 _ rfl
        have k3 := hF.k.r 3 _ rfl
        have k4 := hF.k.r 4 _ rfl
        have k5 := hF.k.r 5 _ rfl
        have fk := hF.k.z.fr
        have ltk := hF.k.z.lt
        have hfin := hid (hF.k.fin (w0 := w) hF.hb (.int .i64 (c0)) (.int .i64 (c1)) (.int .i64 (a0)) (.int .i64 (a1)) (.int .i64 (b0)) (.int .i64 (b1)))
        clear hF
        go_wp2
        refine bodyPost_ret (v := .tuple #[.agg #[.int .i64 (c0), .int .i64 (c1), .int .i64 (a0), .int .i64 (a1), .int .i64 (b0), .int .i64 (b1)], .int .i64 (0)]) ?_ rfl ?_
        ·simp [results, Try.results15, go_sem, k0, k1, k2, k3, k4, k5]
        ·exact ⟨rfl, hfin.out⟩
      ·rw [if_neg g2] at hO
       obtain ⟨zz, hzz⟩ : ∃ d, crsZ (a0, a1) (b0, b1) (c0, c1) = d := ⟨_, rfl⟩
       have HX := hid fun (W : World) => (show Calls Try.prog 36 #[.agg #[.int .i64 a0, .int .i64 a1], .agg #[.int .i64 b0, .int .i64 b1], .agg #[.int .i64 c0, .int .i64 c1]] W (RetI W zz) from by rw [← hzz]; exact hC.out (a0, a1) (b0, b1) (c0, c1) (by first | exact hin.out.1 | exact hin.out.2.1 | exact hin.out.2.2) (by first | exact hin.out.1 | exact hin.out.2.1 | exact hin.out.2.2) (by first | exact hin.out.1 | exact hin.out.2.1 | exact hin.out.2.2) W)
       unfold turnP at hO
       rw [hzz] at hO
       clear hzz hC hin HD1 HD2 HD3
       by_cases hn : zz < 0
       ·rw [if_pos hn] at hO
        subst hO
        go_wp2_with fail
        refine (HX.out _).mono ?_
        rintro e v6 ⟨rfl, hv⟩
        replace hF := hF.below hv
        clear p0 p1 p2 p3 p4 p5
        have p0 := hF.a.c0
        have p1 := hF.a.c1
        have p2 := hF.b.c0
        have p3 := hF.b.c1
        have p4 := hF.c.c0
        have p5 := hF.c.c1
        dsimp only at p0 p1 p2 p3 p4 p5
        replace hU := hU.below hv
        clear q0 q1 q2 q3 q4 q5
        have q0 := hU.c0
        have q1 := hU.c1
        have q2 := hU.c2
        have q3 := hU.c3
        have q4 := hU.c4
        have q5 := hU.c5
        dsimp only at q0 q1 q2 q3 q4 q5
        clear hv HX
        have hO := True.intro
        go_upto_region 12 with fail
        clear hn
        have hF2 := hid (hF.out6 hgb (a0, a1) (c0, c1) (b0, b1))
        have hU2 := hid (hU.set (a0, a1) (c0, c1) (b0, b1))
        have zu := hU.z.fr
        have lu := hU.z.lt
        replace hO := hid hO
        replace hF := hid hF
        replace hU := hid hU
        go_upto_region 13 with fail
        replace hF2 := hF2.out
        replace hU2 := hU2.out
        replace hO := hO.out
        unfold set6 at hF2 hU2
        dsimp only at hF2 hU2
        generalize (((((World.setCell _ _ _).setCell _ _).setCell _ _).setCell _ _).setCell _ _).setCell _ _ = v8 at hF2 hU2 ⊢
        clear hF hU zu lu p0 p1 p2 p3 p4 p5 q0 q1 q2 q3 q4 q5
        have hF := hF2
        have hU := hU2
        clear hF2 hU2
        have p0 := hF.a.c0
        have p1 := hF.a.c1
        have p2 := hF.b.c0
        have p3 := hF.b.c1
        have p4 := hF.c.c0
        have p5 := hF.c.c1
        dsimp only at p0 p1 p2 p3 p4 p5
        have q0 := hU.c0
        have q1 := hU.c1
        have q2 := hU.c2
        have q3 := hU.c3
        have q4 := hU.c4
        have q5 := hU.c5
        dsimp only at q0 q1 q2 q3 q4 q5
        have k0 := hF.k.r 0 _ rfl
        have k1 := hF.k.r 1 _ rfl
        have k2 := hF.k.r 2 _ rfl
        have k3 := hF.k.r 3 _ rfl
        have k4 := hF.k.r 4 _ rfl
        have k5 := hF.k.r 5 _ rfl
        have fk := hF.k.z.fr
        have ltk := hF.k.z.lt
        have hfin := hid (hF.k.fin (w0 := w) hF.hb (.int .i64 (a0)) (.int .i64 (a1)) (.int .i64 (c0)) (.int .i64 (c1)) (.int .i64 (b0)) (.int .i64 (b1)))
        clear hF
        go_wp2
        refine bodyPost_ret (v := .tuple #[.agg #[.int .i64 (a0), .int .i64 (a1), .int .i64 (c0), .int .i64 (c1), .int .i64 (b0), .int .i64 (b1)], .int .i64 (0)]) ?_ rfl ?_
        ·simp [results, Try.results15, go_sem, k0, k1, k2, k3, k4, k5]
        ·exact ⟨rfl, hfin.out⟩
       ·rw [if_neg hn] at hO
        subst hO
        go_wp2_with fail
        refine (HX.out _).mono ?_
        rintro e v6 ⟨rfl, hv⟩
        replace hF := hF.below hv
        clear p0 p1 p2 p3 p4 p5
        have p0 := hF.a.c0
        have p1 := hF.a.c1
        have p2 := hF.b.c0
        have p3 := hF.b.c1
        have p4 := hF.c.c0
        have p5 := hF.c.c1
        dsimp only at p0 p1 p2 p3 p4 p5
        replace hU := hU.below hv
        clear q0 q1 q2 q3 q4 q5
        have q0 := hU.c0
        have q1 := hU.c1
        have q2 := hU.c2
        have q3 := hU.c3
        have q4 := hU.c4
        have q5 := hU.c5
        dsimp only at q0 q1 q2 q3 q4 q5
        clear hv HX
        have k0 := hF.k.r 0 _ rfl
        have k1 := hF.k.r 1 _ rfl
        have k2 := hF.k.r 2 _ rfl
        have k3 := hF.k.r 3 _ rfl
        have k4 := hF.k.r 4 _ rfl
        have k5 := hF.k.r 5 _ rfl
        have fk := hF.k.z.fr
        have ltk := hF.k.z.lt
        have hfin := hid (hF.k.fin (w0 := w) hF.hb (.int .i64 (a0)) (.int .i64 (a1)) (.int .i64 (b0)) (.int .i64 (b1)) (.int .i64 (c0)) (.int .i64 (c1)))
        clear hF
        go_wp2
        refine bodyPost_ret (v := .tuple #[.agg #[.int .i64 (a0), .int .i64 (a1), .int .i64 (b0), .int .i64 (b1), .int .i64 (c0), .int .i64 (c1)], .int .i64 (0)]) ?_ rfl ?_
        ·simp [results, Try.results15, go_sem, k0, k1, k2, k3, k4, k5]
        ·exact ⟨rfl, hfin.out⟩
end Go.Proofs.Ytglailcfgcdagaa
