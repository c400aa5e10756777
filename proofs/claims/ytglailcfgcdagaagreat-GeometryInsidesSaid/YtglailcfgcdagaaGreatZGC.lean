/- Geometry: Through, in the package. Conditions: none. -/
import Derived.Test.YtglailcfgcdagaaGreatZGB
set_option linter.unusedVariables false
set_option linter.unusedSimpArgs false
namespace Go.Proofs.YtglailcfgcdagaaGreat
open Go.RowKit Big
def RetLE (w : World) (q : (Int × Int × Int) × Int) (e : Ending) (w' : World) : Prop := e = .returned (.tuple #[.agg #[.int .i64 q.1.1, .int .i64 q.1.2.1, .int .i64 q.1.2.2], .int .i64 q.2]) ∧ Below w.heap.size w w'
theorem ok2 {a b : Int × Int} : ∃ t : Bool, (t = true → inP a = true ∧ inP b = true ∧ chkP [a, b] = 0) ∧ (t = false → chkP [a, b] = 3) := by
 refine ⟨inP a && inP b, fun h => ?_, fun h => ?_⟩
 ·simp only [Bool.and_eq_true] at h
  exact ⟨h.1, h.2, by rw [chkP_2, if_pos ⟨h.1, h.2⟩]⟩
 ·rw [chkP_2, if_neg]
  intro h'
  rw [h'.1, h'.2] at h
  cases h
theorem tdiv_bd {p d k : Int} (hd : d ≠ 0) (h : -k ≤ p ∧ p ≤ k) : -k ≤ p.tdiv d ∧ p.tdiv d ≤ k := by
 have h1 : (p.tdiv d).natAbs ≤ p.natAbs := by rw [Int.natAbs_tdiv]; exact Nat.div_le_self _ _
 omega
/-- the numbers of a line through two points -/
structure LnN (a0 a1 b0 b1 p q d P Q m1 m2 C : Int) : Prop where
 e1 : b1 - a1 = p
 e2 : a0 - b0 = q
 e3 : p.tdiv d = P
 e4 : q.tdiv d = Q
 e5 : P * a0 = m1
 e6 : Q * a1 = m2
 e7 : m1 + m2 = C
 d0 : d ≠ 0
 i1 : IntKind.i64.wrap p = p
 i2 : IntKind.i64.wrap q = q
 i3 : IntKind.i64.wrap P = P
 i4 : IntKind.i64.wrap Q = Q
 i5 : IntKind.i64.wrap m1 = m1
 i6 : IntKind.i64.wrap m2 = m2
 i7 : IntKind.i64.wrap C = C
theorem ln_nums {a0 a1 b0 b1 : Int} (ha : inP (a0, a1) = true) (hb : inP (b0, b1) = true) (hne : (a0, a1) ≠ (b0, b1)) :
  ∃ p q d P Q m1 m2 C G : Int, LnN a0 a1 b0 b1 p q d P Q m1 m2 C ∧ G = (Int.gcd p q : Int) ∧ (d = if p < 0 ∨ (p = 0 ∧ q < 0) then -G else G) ∧ IntKind.i64.wrap (-G) = -G ∧ (-33554432 ≤ p ∧ p ≤ 33554432) ∧ (-33554432 ≤ q ∧ q ≤ 33554432) ∧
   thrE (a0, a1) (b0, b1) = ((P, Q, C), 0) := by
 have h2 := inP_iff.1 ha
 have h3 := inP_iff.1 hb
 dsimp only at h2 h3
 have hpq := pts_ne hne
 dsimp only at hpq
 have hd0 := lnD_ne hpq
 have hp : -33554432 ≤ b1 - a1 ∧ b1 - a1 ≤ 33554432 := by omega
 have hq : -33554432 ≤ a0 - b0 ∧ a0 - b0 ≤ 33554432 := by omega
 have hg := igcd_pos hpq
 have hg2 := igcd_le hpq hp hq
 have t1 := tdiv_bd hd0 hp
 have t2 := tdiv_bd hd0 hq
 have t3 := mul_box (k := 33554432) (l := 16777216) t1 (show -16777216 ≤ a0 ∧ a0 ≤ 16777216 by omega)
 have t4 := mul_box (k := 33554432) (l := 16777216) t2 (show -16777216 ≤ a1 ∧ a1 ≤ 16777216 by omega)
 have hE : thrE (a0, a1) (b0, b1) = (((b1 - a1).tdiv (lnD (b1 - a1) (a0 - b0)), (a0 - b0).tdiv (lnD (b1 - a1) (a0 - b0)), (b1 - a1).tdiv (lnD (b1 - a1) (a0 - b0)) * a0 + (a0 - b0).tdiv (lnD (b1 - a1) (a0 - b0)) * a1), 0) := by
  unfold thrE
  rw [show chkP [(a0, a1), (b0, b1)] = 0 from by rw [chkP_2]; exact if_pos ⟨ha, hb⟩, if_pos rfl, if_neg hne]
  rfl
 refine ⟨_, _, _, _, _, _, _, _, _, ⟨rfl, rfl, rfl, rfl, rfl, rfl, rfl, hd0, ?_, ?_, ?_, ?_, ?_, ?_, ?_⟩, rfl, rfl, ?_, hp, hq, hE⟩
 all_goals rw [IntKind.wrap_i64]; omega
set_option maxHeartbeats 2000000 in
theorem GThrough_g (a b : Int × Int) (w : World) : Calls Tryz.prog 8 #[.agg #[.int .i64 a.1, .int .i64 a.2], .agg #[.int .i64 b.1, .int .i64 b.2]] w (RetLE w (thrE a b)) := by
 obtain ⟨t, hT, hF⟩ := ok2 (a := a) (b := b)
 obtain ⟨k, hk⟩ : ∃ k, chkP [a, b] = k := ⟨_, rfl⟩
 have HK := hid fun (u : World) (t : TypeId) => (show Calls Tryz.prog 18 #[.slice (some ⟨u.heap.size, 0, none⟩) 2 2] (u.alloc (.cells #[.int .i64 a.1, .int .i64 a.2, .int .i64 b.1, .int .i64 b.2] t)) (RetI (u.alloc (.cells #[.int .i64 a.1, .int .i64 a.2, .int .i64 b.1, .int .i64 b.2] t)) k) from by
  have := Gcheck_g [a, b] _ _ (Pb.new2 u a b t)
  rwa [hk] at this)
 have HG := hid fun (p q : Int) (hp : -33554432 ≤ p ∧ p ≤ 33554432) (hq : -33554432 ≤ q ∧ q ≤ 33554432) (W : World) => Ggcd_g hp hq W
 have hQ0 := hid fun (h : t = false) => (show k = 3 ∧ thrE a b = ((0, 0, 0), 3) from ⟨by rw [← hk]; exact hF h, by unfold thrE; rw [hF h]; rfl⟩)
 have hQ1 := hid fun (h : t = true) => (show k = 0 ∧ (a = b → thrE a b = ((0, 0, 0), 24)) from ⟨by rw [← hk]; exact (hT h).2.2, fun e => by unfold thrE; rw [(hT h).2.2, if_pos rfl, if_pos e]⟩)
 have hT1 := hid fun (h : t = true) => And.intro (hT h).1 (hT h).2.1
 clear hT hF hk
 obtain ⟨a0, a1⟩ := a
 obtain ⟨b0, b1⟩ := b
 have hL := hid fun (h : t = true) (hne : ¬ (a0, a1) = (b0, b1)) => ln_nums (hT1.out h).1 (hT1.out h).2 hne
 clear hT1
 generalize thrE (a0, a1) (b0, b1) = R at *
 dsimp only at HK ⊢
 go_enter Tryz.func8, Tryz.ntmps8
 go_upto_region 1 with fail
 refine enterR3 (P := fun u => Code.wp _ _ _ _ u) (c0 := [.int .i64 a0, .int .i64 a1]) (c1 := [.int .i64 b0, .int .i64 b1]) (c2 := [.int .i64 0, .int .i64 0, .int .i64 0]) ?_
 intro u HB r1 r2 rk zn1 zn2 znk hsz
 clear hsz zn1 zn2
 have ca0 : (u).cell? ⟨w.heap.size, 0, none⟩ = some (.int .i64 a0) := r1 0 _ rfl
 have ca1 : (u).cell? ⟨w.heap.size, 1, none⟩ = some (.int .i64 a1) := r1 1 _ rfl
 have cb0 : (u).cell? ⟨w.heap.size + 1, 0, none⟩ = some (.int .i64 b0) := r2 0 _ rfl
 have cb1 : (u).cell? ⟨w.heap.size + 1, 1, none⟩ = some (.int .i64 b1) := r2 1 _ rfl
 clear r1 r2
 have hgk : w.heap.size ≤ w.heap.size + 1 + 1 := by omega
 go_wp2_with fail
 refine (HK.out u _).mono ?_
 rintro e v ⟨rfl, hv⟩
 have hv := bel_step ((Below.refl u.heap.size u).alloc (Nat.le_refl _) _) hv
 have HB := bel_step HB hv
 have rk := rng_below rk hv
 have znk := znk.below hv
 have ca0 := keep_cell hv ca0
 have ca1 := keep_cell hv ca1
 have cb0 := keep_cell hv cb0
 have cb1 := keep_cell hv cb1
 clear HK hv
 cases t
 ·obtain ⟨rfl, rfl⟩ := hQ0.out (by first | rfl | trivial)
  clear hQ0 hQ1 HG hL ca0 ca1 cb0 cb1
  have k0 := rk 0 _ rfl
  have k1 := rk 1 _ rfl
  have k2 := rk 2 _ rfl
  have ltk := cell_lt k0
  have fk := znk.fr
  have HBf := hid (below_set (below_set (below_set HB hgk 0 (.int .i64 (0))) hgk 1 (.int .i64 (0))) hgk 2 (.int .i64 (0)))
  clear rk znk HB hgk
  go_wp2
  refine bodyPost_ret (v := .tuple #[.agg #[.int .i64 (0), .int .i64 (0), .int .i64 (0)], .int .i64 (3)]) ?_ rfl ?_
  ·simp [results, Tryz.results8, go_sem, k0, k1, k2]
  ·exact ⟨rfl, HBf.out⟩
 ·obtain ⟨rfl, hQ⟩ := hQ1.out (by first | rfl | trivial)
  replace hQ := hid hQ
  clear hQ0 hQ1
  by_cases hne : (a0, a1) = (b0, b1)
  ·obtain rfl := hQ.out hne
   simp only [Prod.mk.injEq] at hne
   obtain ⟨rfl, rfl⟩ := hne
   clear hQ hL HG
   have k0 := rk 0 _ rfl
   have k1 := rk 1 _ rfl
   have k2 := rk 2 _ rfl
   have ltk := cell_lt k0
   have fk := znk.fr
   have HBf := hid (below_set (below_set (below_set HB hgk 0 (.int .i64 (0))) hgk 1 (.int .i64 (0))) hgk 2 (.int .i64 (0)))
   clear rk znk HB hgk
   go_wp2
   refine bodyPost_ret (v := .tuple #[.agg #[.int .i64 (0), .int .i64 (0), .int .i64 (0)], .int .i64 (24)]) ?_ rfl ?_
   ·simp [results, Tryz.results8, go_sem, k0, k1, k2]
   ·exact ⟨rfl, HBf.out⟩
  ·obtain ⟨p, q, d, P, Q, m1, m2, C, G, hN, hG, hd, i8, hp, hq, hE⟩ := hL.out (by first | rfl | trivial) hne
   subst hE
   have HG1 := hid fun (W : World) => (show Calls Tryz.prog 28 #[.int .i64 p, .int .i64 q] W (RetI W G) from by
    rw [hG]; exact HG.out p q hp hq W)
   obtain ⟨e1, e2, e3, e4, e5, e6, e7, d0, i1, i2, i3, i4, i5, i6, i7⟩ := hN
   clear hG hp hq HG hL hQ
   replace hd := hid hd
   have n1 : ¬ (a0 = b0 ∧ a1 = b1) := fun h => hne (by rw [h.1, h.2])
   clear hne
   by_cases z0 : a0 = b0
   ·have z1 : ¬ a1 = b1 := fun h => n1 ⟨z0, h⟩
    go_upto_region 6 with fail
    clear z0 z1
    clear n1
    go_upto_region 7 with fail
    refine enterR (P := fun u => Code.wp _ _ _ _ u) (c := [.int .i64 p, .int .i64 q, .int .i64 0]) ?_
    intro v2 hv rl znl hsz
    have hgl : w.heap.size ≤ v.heap.size := HB.size
    have hlm := cell_lt ca0
    have hlm2 := cell_lt cb0
    have hlk := cell_lt (rk 0 _ rfl)
    have HB := bel_step HB hv
    have rk := rng_below rk hv
    have znk := znk.below hv
    have ca0 := keep_cell hv ca0
    have ca1 := keep_cell hv ca1
    have cb0 := keep_cell hv cb0
    have cb1 := keep_cell hv cb1
    obtain ⟨gl, hgl2⟩ : ∃ g, v.heap.size = g := ⟨_, rfl⟩
    rw [hgl2] at rl znl hgl hlm hlm2 hlk ⊢
    have l0 : v2.cell? ⟨gl, 0, none⟩ = some (.int .i64 p) := rl 0 _ rfl
    have l1 : v2.cell? ⟨gl, 1, none⟩ = some (.int .i64 q) := rl 1 _ rfl
    have l2 : v2.cell? ⟨gl, 2, none⟩ = some (.int .i64 0) := rl 2 _ rfl
    clear hsz hv rl
    go_wp2_with fail
    refine (HG1.out v2).mono ?_
    rintro e v3 ⟨rfl, hv⟩
    have znl := znl.below hv
    have HB := bel_step HB hv
    have rk := rng_below rk hv
    have znk := znk.below hv
    have ca0 := keep_cell hv ca0
    have ca1 := keep_cell hv ca1
    have cb0 := keep_cell hv cb0
    have cb1 := keep_cell hv cb1
    have l0 := keep_cell hv l0
    have l1 := keep_cell hv l1
    have l2 := keep_cell hv l2
    clear hv HG1 cb0 cb1 e1 e2
    by_cases hp0 : p < 0
    ·have hd2 : IntKind.i64.wrap (-G) = d := by rw [i8, hd.out, if_pos (Or.inl hp0)]
     clear i8
     clear hd
     have fl := znl.fr
     have lk0 := rk 0 _ rfl
     have lk1 := rk 1 _ rfl
     have lk2 := rk 2 _ rfl
     have ltk := cell_lt lk0
     have ltl := cell_lt l0
     have fk := znk.fr
     have HBf := hid (below_set (below_set (below_set (below_set (below_set (below_set HB hgl 0 (.int .i64 (P))) hgl 1 (.int .i64 Q)) hgl 2 (.int .i64 (C))) hgk 0 (.int .i64 (P))) hgk 1 (.int .i64 Q)) hgk 2 (.int .i64 (C)))
     have g1 : ¬ w.heap.size = gl := by omega
     have g2 : ¬ w.heap.size + 1 + 1 = gl := by omega
     have g3 : ¬ gl = w.heap.size + 1 + 1 := by omega
     have g4 : ¬ gl = w.heap.size := by omega
     clear rk znk HB hgk znl hgl hlm hlm2 hlk
     go_wp2
     refine bodyPost_ret (v := .tuple #[.agg #[.int .i64 (P), .int .i64 Q, .int .i64 (C)], .int .i64 0]) ?_ rfl ?_
     ·simp [results, Tryz.results8, go_sem, lk0, lk1, lk2]
     ·exact ⟨rfl, HBf.out⟩
    ·by_cases hp1 : p = 0
     ·subst hp1
      obtain rfl : P = 0 := by rw [← e3]; simp
      obtain rfl : m1 = 0 := by rw [← e5]; simp
      obtain rfl : m2 = C := by omega
      by_cases hq0 : q < 0
      ·have hd2 : IntKind.i64.wrap (-G) = d := by rw [i8, hd.out, if_pos (Or.inr ⟨rfl, hq0⟩)]
       clear i8
       clear hd
       have fl := znl.fr
       have lk0 := rk 0 _ rfl
       have lk1 := rk 1 _ rfl
       have lk2 := rk 2 _ rfl
       have ltk := cell_lt lk0
       have ltl := cell_lt l0
       have fk := znk.fr
       have HBf := hid (below_set (below_set (below_set (below_set (below_set (below_set HB hgl 0 (.int .i64 (0))) hgl 1 (.int .i64 Q)) hgl 2 (.int .i64 (m2))) hgk 0 (.int .i64 (0))) hgk 1 (.int .i64 Q)) hgk 2 (.int .i64 (m2)))
       have g1 : ¬ w.heap.size = gl := by omega
       have g2 : ¬ w.heap.size + 1 + 1 = gl := by omega
       have g3 : ¬ gl = w.heap.size + 1 + 1 := by omega
       have g4 : ¬ gl = w.heap.size := by omega
       clear rk znk HB hgk znl hgl hlm hlm2 hlk
       go_wp2
       refine bodyPost_ret (v := .tuple #[.agg #[.int .i64 (0), .int .i64 Q, .int .i64 (m2)], .int .i64 0]) ?_ rfl ?_
       ·simp [results, Tryz.results8, go_sem, lk0, lk1, lk2]
       ·exact ⟨rfl, HBf.out⟩
      ·obtain rfl : d = G := by rw [hd.out, if_neg (by omega)]
       clear hd
       have fl := znl.fr
       have lk0 := rk 0 _ rfl
       have lk1 := rk 1 _ rfl
       have lk2 := rk 2 _ rfl
       have ltk := cell_lt lk0
       have ltl := cell_lt l0
       have fk := znk.fr
       have HBf := hid (below_set (below_set (below_set (below_set (below_set (below_set HB hgl 0 (.int .i64 (0))) hgl 1 (.int .i64 Q)) hgl 2 (.int .i64 (m2))) hgk 0 (.int .i64 (0))) hgk 1 (.int .i64 Q)) hgk 2 (.int .i64 (m2)))
       have g1 : ¬ w.heap.size = gl := by omega
       have g2 : ¬ w.heap.size + 1 + 1 = gl := by omega
       have g3 : ¬ gl = w.heap.size + 1 + 1 := by omega
       have g4 : ¬ gl = w.heap.size := by omega
       clear rk znk HB hgk znl hgl hlm hlm2 hlk
       go_wp2
       refine bodyPost_ret (v := .tuple #[.agg #[.int .i64 (0), .int .i64 Q, .int .i64 (m2)], .int .i64 0]) ?_ rfl ?_
       ·simp [results, Tryz.results8, go_sem, lk0, lk1, lk2]
       ·exact ⟨rfl, HBf.out⟩
     ·obtain rfl : d = G := by rw [hd.out, if_neg (by omega)]
      clear hd
      have fl := znl.fr
      have lk0 := rk 0 _ rfl
      have lk1 := rk 1 _ rfl
      have lk2 := rk 2 _ rfl
      have ltk := cell_lt lk0
      have ltl := cell_lt l0
      have fk := znk.fr
      have HBf := hid (below_set (below_set (below_set (below_set (below_set (below_set HB hgl 0 (.int .i64 (P))) hgl 1 (.int .i64 Q)) hgl 2 (.int .i64 (C))) hgk 0 (.int .i64 (P))) hgk 1 (.int .i64 Q)) hgk 2 (.int .i64 (C)))
      have g1 : ¬ w.heap.size = gl := by omega
      have g2 : ¬ w.heap.size + 1 + 1 = gl := by omega
      have g3 : ¬ gl = w.heap.size + 1 + 1 := by omega
      have g4 : ¬ gl = w.heap.size := by omega
      clear rk znk HB hgk znl hgl hlm hlm2 hlk
      go_wp2
      refine bodyPost_ret (v := .tuple #[.agg #[.int .i64 (P), .int .i64 Q, .int .i64 (C)], .int .i64 0]) ?_ rfl ?_
      ·simp [results, Tryz.results8, go_sem, lk0, lk1, lk2]
      ·exact ⟨rfl, HBf.out⟩
   ·go_upto_region 6 with fail
    clear z0
    clear n1
    go_upto_region 7 with fail
    refine enterR (P := fun u => Code.wp _ _ _ _ u) (c := [.int .i64 p, .int .i64 q, .int .i64 0]) ?_
    intro v2 hv rl znl hsz
    have hgl : w.heap.size ≤ v.heap.size := HB.size
    have hlm := cell_lt ca0
    have hlm2 := cell_lt cb0
    have hlk := cell_lt (rk 0 _ rfl)
    have HB := bel_step HB hv
    have rk := rng_below rk hv
    have znk := znk.below hv
    have ca0 := keep_cell hv ca0
    have ca1 := keep_cell hv ca1
    have cb0 := keep_cell hv cb0
    have cb1 := keep_cell hv cb1
    obtain ⟨gl, hgl2⟩ : ∃ g, v.heap.size = g := ⟨_, rfl⟩
    rw [hgl2] at rl znl hgl hlm hlm2 hlk ⊢
    have l0 : v2.cell? ⟨gl, 0, none⟩ = some (.int .i64 p) := rl 0 _ rfl
    have l1 : v2.cell? ⟨gl, 1, none⟩ = some (.int .i64 q) := rl 1 _ rfl
    have l2 : v2.cell? ⟨gl, 2, none⟩ = some (.int .i64 0) := rl 2 _ rfl
    clear hsz hv rl
    go_wp2_with fail
    refine (HG1.out v2).mono ?_
    rintro e v3 ⟨rfl, hv⟩
    have znl := znl.below hv
    have HB := bel_step HB hv
    have rk := rng_below rk hv
    have znk := znk.below hv
    have ca0 := keep_cell hv ca0
    have ca1 := keep_cell hv ca1
    have cb0 := keep_cell hv cb0
    have cb1 := keep_cell hv cb1
    have l0 := keep_cell hv l0
    have l1 := keep_cell hv l1
    have l2 := keep_cell hv l2
    clear hv HG1 cb0 cb1 e1 e2
    by_cases hp0 : p < 0
    ·have hd2 : IntKind.i64.wrap (-G) = d := by rw [i8, hd.out, if_pos (Or.inl hp0)]
     clear i8
     clear hd
     have fl := znl.fr
     have lk0 := rk 0 _ rfl
     have lk1 := rk 1 _ rfl
     have lk2 := rk 2 _ rfl
     have ltk := cell_lt lk0
     have ltl := cell_lt l0
     have fk := znk.fr
     have HBf := hid (below_set (below_set (below_set (below_set (below_set (below_set HB hgl 0 (.int .i64 (P))) hgl 1 (.int .i64 Q)) hgl 2 (.int .i64 (C))) hgk 0 (.int .i64 (P))) hgk 1 (.int .i64 Q)) hgk 2 (.int .i64 (C)))
     have g1 : ¬ w.heap.size = gl := by omega
     have g2 : ¬ w.heap.size + 1 + 1 = gl := by omega
     have g3 : ¬ gl = w.heap.size + 1 + 1 := by omega
     have g4 : ¬ gl = w.heap.size := by omega
     clear rk znk HB hgk znl hgl hlm hlm2 hlk
     go_wp2
     refine bodyPost_ret (v := .tuple #[.agg #[.int .i64 (P), .int .i64 Q, .int .i64 (C)], .int .i64 0]) ?_ rfl ?_
     ·simp [results, Tryz.results8, go_sem, lk0, lk1, lk2]
     ·exact ⟨rfl, HBf.out⟩
    ·by_cases hp1 : p = 0
     ·subst hp1
      obtain rfl : P = 0 := by rw [← e3]; simp
      obtain rfl : m1 = 0 := by rw [← e5]; simp
      obtain rfl : m2 = C := by omega
      by_cases hq0 : q < 0
      ·have hd2 : IntKind.i64.wrap (-G) = d := by rw [i8, hd.out, if_pos (Or.inr ⟨rfl, hq0⟩)]
       clear i8
       clear hd
       have fl := znl.fr
       have lk0 := rk 0 _ rfl
       have lk1 := rk 1 _ rfl
       have lk2 := rk 2 _ rfl
       have ltk := cell_lt lk0
       have ltl := cell_lt l0
       have fk := znk.fr
       have HBf := hid (below_set (below_set (below_set (below_set (below_set (below_set HB hgl 0 (.int .i64 (0))) hgl 1 (.int .i64 Q)) hgl 2 (.int .i64 (m2))) hgk 0 (.int .i64 (0))) hgk 1 (.int .i64 Q)) hgk 2 (.int .i64 (m2)))
       have g1 : ¬ w.heap.size = gl := by omega
       have g2 : ¬ w.heap.size + 1 + 1 = gl := by omega
       have g3 : ¬ gl = w.heap.size + 1 + 1 := by omega
       have g4 : ¬ gl = w.heap.size := by omega
       clear rk znk HB hgk znl hgl hlm hlm2 hlk
       go_wp2
       refine bodyPost_ret (v := .tuple #[.agg #[.int .i64 (0), .int .i64 Q, .int .i64 (m2)], .int .i64 0]) ?_ rfl ?_
       ·simp [results, Tryz.results8, go_sem, lk0, lk1, lk2]
       ·exact ⟨rfl, HBf.out⟩
      ·obtain rfl : d = G := by rw [hd.out, if_neg (by omega)]
       clear hd
       have fl := znl.fr
       have lk0 := rk 0 _ rfl
       have lk1 := rk 1 _ rfl
       have lk2 := rk 2 _ rfl
       have ltk := cell_lt lk0
       have ltl := cell_lt l0
       have fk := znk.fr
       have HBf := hid (below_set (below_set (below_set (below_set (below_set (below_set HB hgl 0 (.int .i64 (0))) hgl 1 (.int .i64 Q)) hgl 2 (.int .i64 (m2))) hgk 0 (.int .i64 (0))) hgk 1 (.int .i64 Q)) hgk 2 (.int .i64 (m2)))
       have g1 : ¬ w.heap.size = gl := by omega
       have g2 : ¬ w.heap.size + 1 + 1 = gl := by omega
       have g3 : ¬ gl = w.heap.size + 1 + 1 := by omega
       have g4 : ¬ gl = w.heap.size := by omega
       clear rk znk HB hgk znl hgl hlm hlm2 hlk
       go_wp2
       refine bodyPost_ret (v := .tuple #[.agg #[.int .i64 (0), .int .i64 Q, .int .i64 (m2)], .int .i64 0]) ?_ rfl ?_
       ·simp [results, Tryz.results8, go_sem, lk0, lk1, lk2]
       ·exact ⟨rfl, HBf.out⟩
     ·obtain rfl : d = G := by rw [hd.out, if_neg (by omega)]
      clear hd
      have fl := znl.fr
      have lk0 := rk 0 _ rfl
      have lk1 := rk 1 _ rfl
      have lk2 := rk 2 _ rfl
      have ltk := cell_lt lk0
      have ltl := cell_lt l0
      have fk := znk.fr
      have HBf := hid (below_set (below_set (below_set (below_set (below_set (below_set HB hgl 0 (.int .i64 (P))) hgl 1 (.int .i64 Q)) hgl 2 (.int .i64 (C))) hgk 0 (.int .i64 (P))) hgk 1 (.int .i64 Q)) hgk 2 (.int .i64 (C)))
      have g1 : ¬ w.heap.size = gl := by omega
      have g2 : ¬ w.heap.size + 1 + 1 = gl := by omega
      have g3 : ¬ gl = w.heap.size + 1 + 1 := by omega
      have g4 : ¬ gl = w.heap.size := by omega
      clear rk znk HB hgk znl hgl hlm hlm2 hlk
      go_wp2
      refine bodyPost_ret (v := .tuple #[.agg #[.int .i64 (P), .int .i64 Q, .int .i64 (C)], .int .i64 0]) ?_ rfl ?_
      ·simp [results, Tryz.results8, go_sem, lk0, lk1, lk2]
      ·exact ⟨rfl, HBf.out⟩
end Go.Proofs.YtglailcfgcdagaaGreat
/- Geometry: Through, in the reference. Conditions: none. -/
namespace Go.Proofs.YtglailcfgcdagaaGreat
open Go.RowKit Big
end Go.Proofs.YtglailcfgcdagaaGreat
