/- Homographies, the reference: walk of SameFrac. Conditions: none. -/
import Derived.Test.YtgnfobnkhjlbbaaGreatZXB
import Derived.Test.YtgnfobnkhjlbbaaGreatZYO
import Derived.Test.YtgnfobnkhjlbbaaGreatZYS
set_option linter.unusedVariables false
set_option linter.unusedSimpArgs false
namespace Go.Proofs.YtgnfobnkhjlbbaaGreat
open Go.RowKit Big
theorem HSame_z {x y : Int} {b b' : Bool} {n n' : Nat} {L L' : List Nat} {A B : Option Addr} {c d : Nat} {w : World} (hx : Iz x b n L) (hy : Iz y b' n' L') (ma : Mg w A c L) (mb : Mg w B d L') :
  Calls Tryz.prog 105 #[.agg #[.bool b, .slice A n c], .agg #[.bool b', .slice B n' d]] w (RetB w (decide (x = y))) := by
 obtain ⟨rfl, rfl, rfl⟩ := hx
 obtain ⟨rfl, rfl, rfl⟩ := hy
 refine (Same_any _ _ A B c d _ _ w ma mb).mono fun e w' h => ?_
 have e1 : sameB (decide (x < 0)) (decide (y < 0)) (limbs x.natAbs) (limbs y.natAbs) = decide (x = y) := by
  unfold sameB
  rw [Bool.eq_iff_iff]
  simp only [Bool.and_eq_true, beq_iff_eq, decide_eq_true_eq]
  constructor
  ·rintro ⟨h1, h2⟩
   have h3 := limbs_inj h2
   have h4 : x < 0 ↔ y < 0 := by simpa using h1
   omega
  ·rintro rfl
   exact ⟨rfl, rfl⟩
 rwa [e1] at h
set_option maxRecDepth 100000 in
set_option maxHeartbeats 2000000 in
theorem HSameFrac_g {e0 e1 f0 f1 : ZE} {w : World} (o0 : e0.ok w) (o1 : e1.ok w) (p0 : f0.ok w) (p1 : f1.ok w) :
  Calls Tryz.prog 81 #[.agg (cellsM [e0, e1]).toArray, .agg (cellsM [f0, f1]).toArray] w (RetB w (decide (e0.z = f0.z) && decide (e1.z = f1.z))) := by
 have H1 := hid fun (W : World) (h : Below w.heap.size w W) => HSame_z (w := W) o0.i p0.i (o0.m.below h) (p0.m.below h)
 have H2 := hid fun (W : World) (h : Below w.heap.size w W) => HSame_z (w := W) o1.i p1.i (o1.m.below h) (p1.m.below h)
 generalize decide (e0.z = f0.z) = t1 at *
 generalize decide (e1.z = f1.z) = t2 at *
 clear o0 o1 p0 p1
 obtain ⟨z0, b0, n0, x0, A0, c0⟩ := e0
 obtain ⟨z1, b1, n1, x1, A1, c1⟩ := e1
 obtain ⟨z2, b2, n2, x2, A2, c2⟩ := f0
 obtain ⟨z3, b3, n3, x3, A3, c3⟩ := f1
 simp only [cellsM, ZE.cells, List.cons_append, List.nil_append] at *
 go_enter Tryz.func81, Tryz.ntmps81
 go_wp2_with fail
 refine enterFF (P := fun u => Calls _ _ _ u _) ?_
 intro u HB q0 q1 q2 q3 r0 r1 r2 r3 z1 z2 hsz
 clear hsz
 have f_z1 := z1.fr
 have f_z2 := z2.fr
 have lt_q0 := cell_lt q0
 have lt_r0 := cell_lt r0
 cases t1
 ·refine (H1.out u HB).mono ?_
  rintro e w1 ⟨rfl, h1⟩
  go_wp2
  go_ret
  exact ⟨rfl, bel_step HB h1⟩
 ·refine (H1.out u HB).mono ?_
  rintro e w1 ⟨rfl, h1⟩
  have q2 := keep_cell h1 q2
  have q3 := keep_cell h1 q3
  have r2 := keep_cell h1 r2
  have r3 := keep_cell h1 r3
  go_wp2_with fail
  refine (H2.out w1 (bel_step HB h1)).mono ?_
  rintro e w2 ⟨rfl, h2⟩
  go_wp2
  go_ret
  exact ⟨by simp, bel_step HB (bel_step h1 h2)⟩
end Go.Proofs.YtgnfobnkhjlbbaaGreat
/- Homographies, the reference: walk of SamePoint. Conditions: none. -/
namespace Go.Proofs.YtgnfobnkhjlbbaaGreat
open Go.RowKit Big
set_option maxRecDepth 100000 in
set_option maxHeartbeats 2000000 in
theorem HSamePoint_g {e0 e1 e2 e3 f0 f1 f2 f3 : ZE} {w : World} (o0 : e0.ok w) (o1 : e1.ok w) (o2 : e2.ok w) (o3 : e3.ok w) (p0 : f0.ok w) (p1 : f1.ok w) (p2 : f2.ok w) (p3 : f3.ok w) :
  Calls Tryz.prog 66 #[.agg (cellsM [e0, e1, e2, e3]).toArray, .agg (cellsM [f0, f1, f2, f3]).toArray] w (RetB w ((decide (e0.z = f0.z) && decide (e1.z = f1.z)) && (decide (e2.z = f2.z) && decide (e3.z = f3.z)))) := by
 have H1 := hid fun (W : World) (h : Below w.heap.size w W) => HSameFrac_g (w := W) (o0.below h) (o1.below h) (p0.below h) (p1.below h)
 have H2 := hid fun (W : World) (h : Below w.heap.size w W) => HSameFrac_g (w := W) (o2.below h) (o3.below h) (p2.below h) (p3.below h)
 generalize (decide (e0.z = f0.z) && decide (e1.z = f1.z)) = t1 at *
 generalize (decide (e2.z = f2.z) && decide (e3.z = f3.z)) = t2 at *
 clear o0 o1 o2 o3 p0 p1 p2 p3
 obtain ⟨ze0, be0, ne0, xe0, Ae0, ce0⟩ := e0
 obtain ⟨ze1, be1, ne1, xe1, Ae1, ce1⟩ := e1
 obtain ⟨ze2, be2, ne2, xe2, Ae2, ce2⟩ := e2
 obtain ⟨ze3, be3, ne3, xe3, Ae3, ce3⟩ := e3
 obtain ⟨zf0, bf0, nf0, xf0, Af0, cf0⟩ := f0
 obtain ⟨zf1, bf1, nf1, xf1, Af1, cf1⟩ := f1
 obtain ⟨zf2, bf2, nf2, xf2, Af2, cf2⟩ := f2
 obtain ⟨zf3, bf3, nf3, xf3, Af3, cf3⟩ := f3
 simp only [cellsM, ZE.cells, List.cons_append, List.nil_append] at *
 go_enter Tryz.func66, Tryz.ntmps66
 go_upto_region 1 with fail
 refine enterR2 (P := fun u => Code.wp _ _ _ _ u) ?_
 intro u HB r0 r1 zn0 zn1 hsz
 have s00 : u.cell? ⟨w.heap.size, 0, none⟩ = some (.bool be0) := r0 0 _ rfl
 have s01 : u.cell? ⟨w.heap.size, 1, none⟩ = some (.slice Ae0 ne0 ce0) := r0 1 _ rfl
 have s02 : u.cell? ⟨w.heap.size, 2, none⟩ = some (.bool be1) := r0 2 _ rfl
 have s03 : u.cell? ⟨w.heap.size, 3, none⟩ = some (.slice Ae1 ne1 ce1) := r0 3 _ rfl
 have s04 : u.cell? ⟨w.heap.size, 4, none⟩ = some (.bool be2) := r0 4 _ rfl
 have s05 : u.cell? ⟨w.heap.size, 5, none⟩ = some (.slice Ae2 ne2 ce2) := r0 5 _ rfl
 have s06 : u.cell? ⟨w.heap.size, 6, none⟩ = some (.bool be3) := r0 6 _ rfl
 have s07 : u.cell? ⟨w.heap.size, 7, none⟩ = some (.slice Ae3 ne3 ce3) := r0 7 _ rfl
 have s10 : u.cell? ⟨w.heap.size + 1, 0, none⟩ = some (.bool bf0) := r1 0 _ rfl
 have s11 : u.cell? ⟨w.heap.size + 1, 1, none⟩ = some (.slice Af0 nf0 cf0) := r1 1 _ rfl
 have s12 : u.cell? ⟨w.heap.size + 1, 2, none⟩ = some (.bool bf1) := r1 2 _ rfl
 have s13 : u.cell? ⟨w.heap.size + 1, 3, none⟩ = some (.slice Af1 nf1 cf1) := r1 3 _ rfl
 have s14 : u.cell? ⟨w.heap.size + 1, 4, none⟩ = some (.bool bf2) := r1 4 _ rfl
 have s15 : u.cell? ⟨w.heap.size + 1, 5, none⟩ = some (.slice Af2 nf2 cf2) := r1 5 _ rfl
 have s16 : u.cell? ⟨w.heap.size + 1, 6, none⟩ = some (.bool bf3) := r1 6 _ rfl
 have s17 : u.cell? ⟨w.heap.size + 1, 7, none⟩ = some (.slice Af3 nf3 cf3) := r1 7 _ rfl
 clear r0 r1 zn0 zn1 hsz
 go_wp2_with fail
 cases t1
 ·refine (H1.out u HB).mono ?_
  rintro e w1 ⟨rfl, h1⟩
  go_wp2
  go_ret
  exact ⟨rfl, bel_step HB h1⟩
 ·refine (H1.out u HB).mono ?_
  rintro e w1 ⟨rfl, h1⟩
  have s04 := keep_cell h1 s04
  have s05 := keep_cell h1 s05
  have s06 := keep_cell h1 s06
  have s07 := keep_cell h1 s07
  have s14 := keep_cell h1 s14
  have s15 := keep_cell h1 s15
  have s16 := keep_cell h1 s16
  have s17 := keep_cell h1 s17
  go_wp2_with fail
  refine (H2.out w1 (bel_step HB h1)).mono ?_
  rintro e w2 ⟨rfl, h2⟩
  go_wp2
  go_ret
  exact ⟨by simp, bel_step HB (bel_step h1 h2)⟩
end Go.Proofs.YtgnfobnkhjlbbaaGreat
/- Homographies, the reference: walk of Same. Conditions: none. -/
namespace Go.Proofs.YtgnfobnkhjlbbaaGreat
open Go.RowKit Big
set_option maxRecDepth 100000 in
set_option maxHeartbeats 4000000 in
theorem HSame_g {la lb : List ZE} (ha : la.length = 18) (hb : lb.length = 18) {w : World} (oa : ∀ e ∈ la, e.ok w) (ob : ∀ e ∈ lb, e.ok w) :
    Calls Tryz.prog 43 #[.agg (cellsM la).toArray, .agg (cellsM lb).toArray] w (RetB w (decide (la.map (·.z) = lb.map (·.z)))) := by
  have hbad : ∀ j (h : j < la.length) (h' : j < lb.length), la[j].z ≠ lb[j].z → Hid (decide (la.map (·.z) = lb.map (·.z)) = false) := fun j h h' hne => by
    unfold Hid
    rw [decide_eq_false_iff_not]
    intro he
    have h2 := congrArg (fun l => l[j]?) he
    simp only [List.getElem?_map, List.getElem?_eq_getElem h, List.getElem?_eq_getElem h', Option.map_some, Option.some.injEq] at h2
    exact hne h2
  go_enter Tryz.func43, Tryz.ntmps43
  go_upto_region 1 with fail
  refine enterR2 (P := fun u => Code.wp _ _ _ _ u) ?_
  intro u HB r0 r1 zn0 zn1 hsz
  clear hsz zn0 zn1
  have R0 := hid r0
  have R1 := hid r1
  clear r0 r1
  go_wp2
  go_loopw [5] (fun s5 wr => ∃ j : Nat, j ≤ 9 ∧ s5 = .int .i64 j ∧ Below u.heap.size u wr ∧ Hid (∀ i (h : i < la.length) (h' : i < lb.length), i < 2 * j → la[i].z = lb[i].z)) (fun s5 _ => 9 - (intOf s5).toNat)
  case atStart => exact ⟨0, by omega, rfl, Below.refl _ _, fun i _ _ h => by omega⟩
  case round =>
    obtain ⟨j, hj, rfl, hbl, hp⟩ := hrel
    by_cases h9 : j < 9
    · have h9i : (j : Int) < 9 := by omega
      have hA := rng_below R0.out hbl
      have hB := rng_below R1.out hbl
      obtain ⟨t0, t1⟩ := rng_cell hA (show 2 * j < la.length by omega)
      obtain ⟨t2, t3⟩ := rng_cell hA (show 2 * j + 1 < la.length by omega)
      obtain ⟨t4, t5⟩ := rng_cell hB (show 2 * j < lb.length by omega)
      obtain ⟨t6, t7⟩ := rng_cell hB (show 2 * j + 1 < lb.length by omega)
      rw [show 2 * j * 2 = j * 4 by omega] at t0 t1 t4 t5
      rw [show (2 * j + 1) * 2 = j * 4 + 2 by omega] at t2 t3 t6 t7
      have hbw := bel_step HB hbl
      have x0 := (oa (la[2 * j]'(by omega)) (List.getElem_mem _)).below hbw
      have x1 := (oa (la[2 * j + 1]'(by omega)) (List.getElem_mem _)).below hbw
      have y0 := (ob (lb[2 * j]'(by omega)) (List.getElem_mem _)).below hbw
      have y1 := (ob (lb[2 * j + 1]'(by omega)) (List.getElem_mem _)).below hbw
      have b0 := hbad (2 * j) (by omega) (by omega)
      have b1 := hbad (2 * j + 1) (by omega) (by omega)
      have hgood : (la[2 * j]'(by omega)).z = (lb[2 * j]'(by omega)).z → (la[2 * j + 1]'(by omega)).z = (lb[2 * j + 1]'(by omega)).z → ∀ i (h : i < la.length) (h' : i < lb.length), i < 2 * (j + 1) → la[i].z = lb[i].z := fun g1 g2 i hi hi2 hi3 => by
        rcases Nat.lt_or_ge i (2 * j) with h4 | h4
        · exact hp.out i hi hi2 h4
        · rcases Nat.lt_or_ge i (2 * j + 1) with h5 | h5
          · have e : i = 2 * j := by omega
            subst e; exact g1
          · have e : i = 2 * j + 1 := by omega
            subst e; exact g2
      generalize (la[2 * j]'(by omega)) = p0 at *
      generalize (la[2 * j + 1]'(by omega)) = p1 at *
      generalize (lb[2 * j]'(by omega)) = q0 at *
      generalize (lb[2 * j + 1]'(by omega)) = q1 at *
      have HS := hid fun (W : World) (h : Below wr.heap.size wr W) => HSameFrac_g (w := W) (x0.below h) (x1.below h) (y0.below h) (y1.below h)
      obtain ⟨tt, htt⟩ : ∃ tt, (decide (p0.z = q0.z) && decide (p1.z = q1.z)) = tt := ⟨_, rfl⟩
      rw [htt] at HS
      have HBr := Below.refl wr.heap.size wr
      have lt0 := cell_lt t0
      have lt4 := cell_lt t4
      clear hA hB x0 x1 y0 y1 hbad oa ob
      cases tt
      · have HR : Hid (decide (la.map (·.z) = lb.map (·.z)) = false) := by
          by_cases h1 : p0.z = q0.z
          · exact b1 (fun h2 => by simp [h1, h2] at htt)
          · exact b0 h1
        clear b0 b1 hgood htt hp
        obtain ⟨z0, a0, n0, xs0, A0, c0⟩ := p0
        obtain ⟨z1, a1, n1, xs1, A1, c1⟩ := p1
        obtain ⟨z2, a2, n2, xs2, A2, c2⟩ := q0
        obtain ⟨z3, a3, n3, xs3, A3, c3⟩ := q1
        simp only [cellsM, ZE.cells, List.cons_append, List.nil_append] at HS
        dsimp only at *
        go_wp2_with fail
        go_region_held3 (fun w' => (w'.cell? ⟨w.heap.size, j * 4, none⟩ = some (.bool a0) ∧ w'.cell? ⟨w.heap.size, j * 4 + 1, none⟩ = some (.slice A0 n0 c0) ∧ w'.cell? ⟨w.heap.size, j * 4 + 2, none⟩ = some (.bool a1) ∧ w'.cell? ⟨w.heap.size, j * 4 + 2 + 1, none⟩ = some (.slice A1 n1 c1)) ∧ (w'.cell? ⟨w.heap.size + 1, j * 4, none⟩ = some (.bool a2) ∧ w'.cell? ⟨w.heap.size + 1, j * 4 + 1, none⟩ = some (.slice A2 n2 c2) ∧ w'.cell? ⟨w.heap.size + 1, j * 4 + 2, none⟩ = some (.bool a3) ∧ w'.cell? ⟨w.heap.size + 1, j * 4 + 2 + 1, none⟩ = some (.slice A3 n3 c3))) (first | ((try dsimp only); repeat' (first | with_reducible assumption | apply And.intro | (with_reducible refine keep_alloc ?_) | (with_reducible refine keep_drew ?_) | (with_reducible refine keep_set (by omega) ?_) | (with_reducible refine keep_sets (by omega) ?_) | (with_reducible refine keep_cell (W := wr) ?_ ?_) | fail))) ((go_at_call 81; (with_reducible refine (HS.out _ (bel_step HBr BG)).mono ?_); rintro e v1 ⟨rfl, hq1⟩; have qv1 : Below wr.heap.size wr v1 := bel_step BG hq1))
        all_goals
          go_wp2
          go_ret
          exact ⟨by rw [HR.out]; rfl, bel_step hbw qv1⟩
      · have HG := hid (hgood (by have h1 : decide (p0.z = q0.z) = true := by revert htt; cases decide (p0.z = q0.z) <;> simp
                                  exact of_decide_eq_true h1) (by have h1 : decide (p1.z = q1.z) = true := by revert htt; cases decide (p0.z = q0.z) <;> cases decide (p1.z = q1.z) <;> simp
                                                                  exact of_decide_eq_true h1))
        clear b0 b1 hgood htt hp
        obtain ⟨z0, a0, n0, xs0, A0, c0⟩ := p0
        obtain ⟨z1, a1, n1, xs1, A1, c1⟩ := p1
        obtain ⟨z2, a2, n2, xs2, A2, c2⟩ := q0
        obtain ⟨z3, a3, n3, xs3, A3, c3⟩ := q1
        simp only [cellsM, ZE.cells, List.cons_append, List.nil_append] at HS
        dsimp only at *
        go_wp2_with fail
        go_region_held3 (fun w' => (w'.cell? ⟨w.heap.size, j * 4, none⟩ = some (.bool a0) ∧ w'.cell? ⟨w.heap.size, j * 4 + 1, none⟩ = some (.slice A0 n0 c0) ∧ w'.cell? ⟨w.heap.size, j * 4 + 2, none⟩ = some (.bool a1) ∧ w'.cell? ⟨w.heap.size, j * 4 + 2 + 1, none⟩ = some (.slice A1 n1 c1)) ∧ (w'.cell? ⟨w.heap.size + 1, j * 4, none⟩ = some (.bool a2) ∧ w'.cell? ⟨w.heap.size + 1, j * 4 + 1, none⟩ = some (.slice A2 n2 c2) ∧ w'.cell? ⟨w.heap.size + 1, j * 4 + 2, none⟩ = some (.bool a3) ∧ w'.cell? ⟨w.heap.size + 1, j * 4 + 2 + 1, none⟩ = some (.slice A3 n3 c3))) (first | ((try dsimp only); repeat' (first | with_reducible assumption | apply And.intro | (with_reducible refine keep_alloc ?_) | (with_reducible refine keep_drew ?_) | (with_reducible refine keep_set (by omega) ?_) | (with_reducible refine keep_sets (by omega) ?_) | (with_reducible refine keep_cell (W := wr) ?_ ?_) | fail))) ((go_at_call 81; (with_reducible refine (HS.out _ (bel_step HBr BG)).mono ?_); rintro e v1 ⟨rfl, hq1⟩; have qv1 : Below wr.heap.size wr v1 := bel_step BG hq1))
        all_goals
          go_wp2
          go_roundw
          case rel => exact ⟨j + 1, by omega, by go_num, bel_step hbl qv1, HG.out⟩
          case measure => simp [intOf]; omega
    · obtain rfl : j = 9 := by omega
      have HR : Hid (decide (la.map (·.z) = lb.map (·.z)) = true) := by
        unfold Hid
        rw [decide_eq_true_eq]
        refine List.ext_getElem (by simp [ha, hb]) fun i hi hi2 => ?_
        rw [List.getElem_map, List.getElem_map]
        exact hp.out i (by simpa using hi) (by simpa using hi2) (by simp at hi; omega)
      have hbw := bel_step HB hbl
      clear hbad hp
      go_wp2
      go_ret
      exact ⟨by rw [HR.out]; rfl, hbw⟩
end Go.Proofs.YtgnfobnkhjlbbaaGreat
