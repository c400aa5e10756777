/- Homographies: walk of frame (package). Conditions: none. -/
import Derived.Test.YtgnfobnkhjlbbaaZYW
import Derived.Test.YtgnfobnkhjlbbaaZYR
import Derived.Test.YtgnfobnkhjlbbaaZYH
set_option linter.unusedVariables false
set_option linter.unusedSimpArgs false
namespace Go.Proofs.Ytgnfobnkhjlbbaa
open Go.RowKit Big

theorem pts_next {qs : List (Int × Nat)} (h : qs.length = 8) {j : Nat} (hj : j < 4) {x y z : Int} (hp : ptZ (qs[2 * j]'(by omega)) (qs[2 * j + 1]'(by omega)) = [x, y, z]) :
    (((sofar (ptsZ qs) (3 * j)).set (3 * j) x).set (3 * j + 1) y).set (3 * j + 2) z = sofar (ptsZ qs) (3 * (j + 1)) := by
  have hl := ptsZ_len h
  have e1 : ((ptsZ qs).take (3 * j)).length = 3 * j := by simp; omega
  have e2 := set3_replicate ((ptsZ qs).take (3 * j)) x y z (12 - 3 * (j + 1))
  rw [e1, show 12 - 3 * (j + 1) + 3 = 12 - 3 * j by omega] at e2
  unfold sofar
  rw [hl, e2, ptsZ_at h hj, hp]
theorem all9E {P : ZE → Prop} {a b c d e f g h i : ZE} : (∀ x ∈ [a, b, c, d, e, f, g, h, i], P x) ↔ P a ∧ P b ∧ P c ∧ P d ∧ P e ∧ P f ∧ P g ∧ P h ∧ P i := by simp
def zeros12 : List ZE := List.replicate 12 ZE.zero
set_option maxRecDepth 100000 in
set_option maxHeartbeats 8000000 in
theorem Hframe_g (l : List ZE) (qs : List (Int × Nat)) (h8 : qs.length = 8) (hq : l.map (·.z) = frZ qs) {w : World} (hok : ∀ e ∈ l, e.ok w) {k : Nat} (hk : 3 * (2 * k) + 3 + 2 * k ≤ 16384) (hb : ∀ f ∈ qs, Bz k f.1 ∧ f.2 < 2 ^ k) :
    Calls Try.prog 21 #[.agg (cellsM l).toArray] w (RetMat w (frmB (ptsZ qs)) (frmZ (ptsZ qs))) := by
  have hl : l.length = 16 := by rw [← List.length_map (·.z), hq, frZ_len, h8]
  have hi := hid (show (Try.prog.info? 29).map (·.size) = some (cellsM l).length by rw [cellsM_len, hl]; kernel_rfl)
  have HIx := fun (w1 : World) (j : Nat) (hj : 4 * j + 3 < l.length) => run_index_P w1 l hl j hj
  have hpl := ptsZ_len h8
  have hpb := ptsZ_bz h8 hb
  have hnx := fun (j : Nat) (hj : j < 4) => pts_next h8 hj rfl
  go_enter Try.func21, Try.ntmps21
  go_upto_region 2 with fail
  refine enterR3 (P := fun u => Code.wp _ _ _ _ u) ?_
  intro u HB r0 r1 r2 zn0 zn1 zn2 hsz
  have hF : Fil w [(w.heap.size + 1, cellsM zeros9)] (w.heap.size + 1 + 1) (sofar (ptsZ qs) (3 * 0)) u := ⟨HB, by
    intro p hp
    simp only [List.mem_cons, List.not_mem_nil, or_false] at hp
    subst hp
    exact ⟨r1, zn1, by dsimp only; omega⟩, zn2, by omega, zeros12, r2, fun e he => by rw [List.eq_of_mem_replicate he]; exact ZE.zero_ok _, by rw [show 3 * 0 = 0 from rfl, sofar_none, hpl]; rfl⟩
  go_wp2_with (first | refine wpList_load_mid (by rfl) _ _ (by rfl) w.heap.size 0 (by rfl) (cellsM l) _ r0 T29u (by rfl) hi.out ?_ | fail)
  clear r0 r1 r2 zn0 zn1 zn2 hsz HB
  go_loopw [13] (fun s13 wr => ∃ j : Nat, j ≤ 4 ∧ s13 = .int .i64 j ∧ Fil w [(w.heap.size + 1, cellsM zeros9)] (w.heap.size + 1 + 1) (sofar (ptsZ qs) (3 * j)) wr) (fun s13 _ => 4 - (intOf s13).toNat)
  case atStart => exact ⟨0, by omega, rfl, hF⟩
  case round =>
    obtain ⟨j, hj, rfl, hS⟩ := hrel
    clear hF
    by_cases h4 : j < 4
    · have h4i : (j : Int) < 4 := by omega
      have hix := HIx wr j (by omega)
      obtain ⟨i1, i2, g1, g2⟩ := frZ_at hq (2 * j) (by omega)
      obtain ⟨i3, i4, g3, g4⟩ := frZ_at hq (2 * j + 1) (by omega)
      have c0 := hb (qs[2 * j]'(by omega)) (List.getElem_mem _)
      have c1 := hb (qs[2 * j + 1]'(by omega)) (List.getElem_mem _)
      have hnx := hnx j h4
      have d0 : Bz k ((qs[2 * j]'(by omega)).2 : Int) := by unfold Bz; rw [Int.natAbs_natCast]; exact c0.2
      have d1 : Bz k ((qs[2 * j + 1]'(by omega)).2 : Int) := by unfold Bz; rw [Int.natAbs_natCast]; exact c1.2
      have d2 := c0.1
      have d3 := c1.1
      rw [← g2] at d0
      rw [← g4] at d1
      rw [← g1] at d2
      rw [← g3] at d3
      rw [← g1, ← g2, ← g3, ← g4] at hnx
      have x0 := (hok (l[4 * j]'(by omega)) (List.getElem_mem _)).below hS.b
      have x1 := (hok (l[4 * j + 1]'(by omega)) (List.getElem_mem _)).below hS.b
      have x2 := (hok (l[4 * j + 2]'(by omega)) (List.getElem_mem _)).below hS.b
      have x3 := (hok (l[4 * j + 3]'(by omega)) (List.getElem_mem _)).below hS.b
      have j0 : l[2 * (2 * j)]'i1 = l[4 * j]'(by omega) := by congr 1; omega
      have j1 : l[2 * (2 * j) + 1]'i2 = l[4 * j + 1]'(by omega) := by congr 1; omega
      have j2 : l[2 * (2 * j + 1)]'i3 = l[4 * j + 2]'(by omega) := by congr 1; omega
      have j3 : l[2 * (2 * j + 1) + 1]'i4 = l[4 * j + 3]'(by omega) := by congr 1; omega
      rw [j1] at d0
      rw [j3] at d1
      rw [j0] at d2
      rw [j2] at d3
      rw [j0, j1, j2, j3] at hnx
      generalize l[4 * j]'(by omega) = e0 at *
      generalize l[4 * j + 1]'(by omega) = e1 at *
      generalize l[4 * j + 2]'(by omega) = e2 at *
      generalize l[4 * j + 3]'(by omega) = e3 at *
      have HH := hid fun (w1 : World) (h : Below wr.heap.size wr w1) => Hhomogeneous_g (w := w1) (x0.below h) (x1.below h) (x2.below h) (x3.below h) (k := k) (by omega) d2 d0 d3 d1
      have HN := hid hnx
      have HS := hid hS
      have hlen : (sofar (ptsZ qs) (3 * j)).length = 12 := by rw [sofar_len _ _ (by omega), hpl]
      clear hnx hS g1 g2 g3 g4 c0 c1 d0 d1 d2 d3 x0 x1 x2 x3 j0 j1 j2 j3 i1 i2 i3 i4 HIx hok hb
      obtain ⟨z0, b0, n0, xs0, A0, k0⟩ := e0
      obtain ⟨z1, b1, n1, xs1, A1, k1⟩ := e1
      obtain ⟨z2, b2, n2, xs2, A2, k2⟩ := e2
      obtain ⟨z3, b3, n3, xs3, A3, k3⟩ := e3
      simp only [cellsM, ZE.cells, List.cons_append, List.nil_append] at hix HH
      go_wp2_with fail
      refine (HH.out _ ((Below.refl _ _).alloc (Nat.le_refl _) _)).mono ?_
      rintro e w1 ⟨l3, rfl, hz3, hok3, h1⟩
      have hb1 : Below wr.heap.size wr w1 := ((Below.refl _ _).alloc (Nat.le_refl _) _).trans (h1.mono (by simp))
      obtain ⟨p, q, r, rfl⟩ := three l3 (by simpa using congrArg List.length hz3)
      simp only [List.map_cons, List.map_nil, List.cons.injEq, and_true] at hz3
      have hS2 := HS.out.below hb1
      obtain ⟨b0_, A0_, n0_, c0_, b1_, A1_, n1_, c1_, b2_, A2_, n2_, c2_, t0, t1, t2, t3, t4, t5⟩ := hS2.cell3 (j := j) (by omega)
      have f0 := hS2.zm.fr
      have hS3 := hS2.set3 (j := j) (by omega) p q r (hok3 p (by simp)) (hok3 q (by simp)) (hok3 r (by simp))
      rw [hz3.1, hz3.2.1, hz3.2.2, HN.out] at hS3
      have HS3 := hid hS3
      clear hS3 hS2 HS HN hz3 hok3 HH
      obtain ⟨pz, pb, pn, pxs, pA, pc⟩ := p
      obtain ⟨qz, qb, qn, qxs, qA, qc⟩ := q
      obtain ⟨rz, rb, rn, rxs, rA, rc⟩ := r
      simp only [cellsM, ZE.cells, List.cons_append, List.nil_append] at HS3 ⊢
      go_wp2
      go_roundw
      case rel => exact ⟨j + 1, by omega, by go_num, HS3.out⟩
      case measure => simp [intOf]; omega
    · obtain rfl : j = 4 := by omega
      have hS' : Fil w [(w.heap.size + 1, cellsM zeros9)] (w.heap.size + 1 + 1) (ptsZ qs) wr := by
        have := hS
        rwa [show 3 * 4 = (ptsZ qs).length by rw [hpl], sofar_all] at this
      clear hS hnx hb hq HIx hi hok
      generalize ptsZ qs = P at *
      obtain ⟨lm, e2, e3, e4⟩ := hS'.ex
      obtain ⟨r1, zn1, n1⟩ := hS'.k (w.heap.size + 1, cellsM zeros9) (by simp)
      dsimp only at r1 zn1
      have HBr := hS'.b
      have hl12 : lm.length = 12 := by rw [← List.length_map (·.z), e4, hpl]
      have HLP := hid (show ∃ LP : List ZE, LP.length = 12 ∧ LP.map (·.z) = P ∧ wr.rangeAt (w.heap.size + 1 + 1) 0 (cellsM LP) ∧ (∀ e ∈ LP, e.ok wr) ∧ Zn wr (w.heap.size + 1 + 1) from ⟨lm, hl12, e4, e2, e3, hS'.zm⟩)
      have HPB := hid hpb
      obtain ⟨a0, a1, a2, b0, b1, b2, c0, c1, c2, d0, d1, d2, rfl⟩ := twelve lm hl12
      subst e4
      have ltp := hS'.zm.lt
      clear hS' hl12 hpl n1
      have oa0 := e3 a0 (by simp)
      have ha0 := hpb a0.z (by simp)
      have oa1 := e3 a1 (by simp)
      have ha1 := hpb a1.z (by simp)
      have oa2 := e3 a2 (by simp)
      have ha2 := hpb a2.z (by simp)
      have ob0 := e3 b0 (by simp)
      have hb0 := hpb b0.z (by simp)
      have ob1 := e3 b1 (by simp)
      have hb1 := hpb b1.z (by simp)
      have ob2 := e3 b2 (by simp)
      have hb2 := hpb b2.z (by simp)
      have oc0 := e3 c0 (by simp)
      have hc0 := hpb c0.z (by simp)
      have oc1 := e3 c1 (by simp)
      have hc1 := hpb c1.z (by simp)
      have oc2 := e3 c2 (by simp)
      have hc2 := hpb c2.z (by simp)
      have od0 := e3 d0 (by simp)
      have hd0 := hpb d0.z (by simp)
      have od1 := e3 d1 (by simp)
      have hd1 := hpb d1.z (by simp)
      have od2 := e3 d2 (by simp)
      have hd2 := hpb d2.z (by simp)
      have hi18 := hid (show (Try.prog.info? 55).map (·.size) = some 18 by kernel_rfl)
      obtain ⟨bX, nX, LX, IX_⟩ := iz (detZ [d0.z, d1.z, d2.z, b0.z, b1.z, b2.z, c0.z, c1.z, c2.z])
      have HX := hid fun (w1 : World) (h : Below wr.heap.size wr w1) => Harea_g (w := w1) (a0 := d0) (a1 := d1) (a2 := d2) (b0 := b0) (b1 := b1) (b2 := b2) (c0 := c0) (c1 := c1) (c2 := c2) (all9E.2 ⟨od0.below h, od1.below h, od2.below h, ob0.below h, ob1.below h, ob2.below h, oc0.below h, oc1.below h, oc2.below h⟩) (k := 2 * k) (by omega) (all9E.2 ⟨hd0, hd1, hd2, hb0, hb1, hb2, hc0, hc1, hc2⟩) IX_.out
      obtain ⟨bY, nY, LY, IY_⟩ := iz (detZ [a0.z, a1.z, a2.z, d0.z, d1.z, d2.z, c0.z, c1.z, c2.z])
      have HY := hid fun (w1 : World) (h : Below wr.heap.size wr w1) => Harea_g (w := w1) (a0 := a0) (a1 := a1) (a2 := a2) (b0 := d0) (b1 := d1) (b2 := d2) (c0 := c0) (c1 := c1) (c2 := c2) (all9E.2 ⟨oa0.below h, oa1.below h, oa2.below h, od0.below h, od1.below h, od2.below h, oc0.below h, oc1.below h, oc2.below h⟩) (k := 2 * k) (by omega) (all9E.2 ⟨ha0, ha1, ha2, hd0, hd1, hd2, hc0, hc1, hc2⟩) IY_.out
      obtain ⟨bZ, nZ, LZ, IZ_⟩ := iz (detZ [a0.z, a1.z, a2.z, b0.z, b1.z, b2.z, d0.z, d1.z, d2.z])
      have HZ := hid fun (w1 : World) (h : Below wr.heap.size wr w1) => Harea_g (w := w1) (a0 := a0) (a1 := a1) (a2 := a2) (b0 := b0) (b1 := b1) (b2 := b2) (c0 := d0) (c1 := d1) (c2 := d2) (all9E.2 ⟨oa0.below h, oa1.below h, oa2.below h, ob0.below h, ob1.below h, ob2.below h, od0.below h, od1.below h, od2.below h⟩) (k := 2 * k) (by omega) (all9E.2 ⟨ha0, ha1, ha2, hb0, hb1, hb2, hd0, hd1, hd2⟩) IZ_.out
      obtain ⟨bQ, nQ, LQ, IQ_⟩ := iz (detZ [a0.z, a1.z, a2.z, b0.z, b1.z, b2.z, c0.z, c1.z, c2.z])
      have HQ := hid fun (w1 : World) (h : Below wr.heap.size wr w1) => Harea_g (w := w1) (a0 := a0) (a1 := a1) (a2 := a2) (b0 := b0) (b1 := b1) (b2 := b2) (c0 := c0) (c1 := c1) (c2 := c2) (all9E.2 ⟨oa0.below h, oa1.below h, oa2.below h, ob0.below h, ob1.below h, ob2.below h, oc0.below h, oc1.below h, oc2.below h⟩) (k := 2 * k) (by omega) (all9E.2 ⟨ha0, ha1, ha2, hb0, hb1, hb2, hc0, hc1, hc2⟩) IQ_.out
      have hfB : frmB [a0.z, a1.z, a2.z, b0.z, b1.z, b2.z, c0.z, c1.z, c2.z, d0.z, d1.z, d2.z] = (!decide (nQ = 0) && !decide (nX = 0) && !decide (nY = 0) && !decide (nZ = 0)) := by
        unfold frmB
        rw [Bool.eq_iff_iff]
        simp only [Bool.and_eq_true, Bool.not_eq_true', decide_eq_true_eq, decide_eq_false_iff_not, ne_eq, IQ_.out.zero, IX_.out.zero, IY_.out.zero, IZ_.out.zero]
      have hfl : facZ [a0.z, a1.z, a2.z, b0.z, b1.z, b2.z, c0.z, c1.z, c2.z, d0.z, d1.z, d2.z] = [detZ [d0.z, d1.z, d2.z, b0.z, b1.z, b2.z, c0.z, c1.z, c2.z], detZ [a0.z, a1.z, a2.z, d0.z, d1.z, d2.z, c0.z, c1.z, c2.z], detZ [a0.z, a1.z, a2.z, b0.z, b1.z, b2.z, d0.z, d1.z, d2.z]] := rfl
      have hfb := facZ_bz (P := [a0.z, a1.z, a2.z, b0.z, b1.z, b2.z, c0.z, c1.z, c2.z, d0.z, d1.z, d2.z]) rfl hpb
      have hmb := frmZ_bz (P := [a0.z, a1.z, a2.z, b0.z, b1.z, b2.z, c0.z, c1.z, c2.z, d0.z, d1.z, d2.z]) rfl hpb
      have hat := frmZ_el (P := [a0.z, a1.z, a2.z, b0.z, b1.z, b2.z, c0.z, c1.z, c2.z, d0.z, d1.z, d2.z]) rfl
      have hml := frmZ_len (P := [a0.z, a1.z, a2.z, b0.z, b1.z, b2.z, c0.z, c1.z, c2.z, d0.z, d1.z, d2.z]) rfl
      have hfac := facZ_len (P := [a0.z, a1.z, a2.z, b0.z, b1.z, b2.z, c0.z, c1.z, c2.z, d0.z, d1.z, d2.z]) rfl
      have HE2 := hid e2
      have HOK := hid e3
      clear e3 oa0 ha0 oa1 ha1 oa2 ha2 ob0 hb0 ob1 hb1 ob2 hb2 oc0 hc0 oc1 hc1 oc2 hc2 od0 hd0 od1 hd1 od2 hd2
      generalize hXe : detZ [d0.z, d1.z, d2.z, b0.z, b1.z, b2.z, c0.z, c1.z, c2.z] = vX at *
      generalize hYe : detZ [a0.z, a1.z, a2.z, d0.z, d1.z, d2.z, c0.z, c1.z, c2.z] = vY at *
      generalize hZe : detZ [a0.z, a1.z, a2.z, b0.z, b1.z, b2.z, d0.z, d1.z, d2.z] = vZ at *
      clear hXe hYe hZe
      generalize hPe : [a0.z, a1.z, a2.z, b0.z, b1.z, b2.z, c0.z, c1.z, c2.z, d0.z, d1.z, d2.z] = PP at *
      have HPE := hid hPe
      clear hPe
      obtain ⟨za0, ba0, na0, xa0, Aa0, ca0⟩ := a0
      obtain ⟨za1, ba1, na1, xa1, Aa1, ca1⟩ := a1
      obtain ⟨za2, ba2, na2, xa2, Aa2, ca2⟩ := a2
      obtain ⟨zb0, bb0, nb0, xb0, Ab0, cb0⟩ := b0
      obtain ⟨zb1, bb1, nb1, xb1, Ab1, cb1⟩ := b1
      obtain ⟨zb2, bb2, nb2, xb2, Ab2, cb2⟩ := b2
      obtain ⟨zc0, bc0, nc0, xc0, Ac0, cc0⟩ := c0
      obtain ⟨zc1, bc1, nc1, xc1, Ac1, cc1⟩ := c1
      obtain ⟨zc2, bc2, nc2, xc2, Ac2, cc2⟩ := c2
      obtain ⟨zd0, bd0, nd0, xd0, Ad0, cd0⟩ := d0
      obtain ⟨zd1, bd1, nd1, xd1, Ad1, cd1⟩ := d1
      obtain ⟨zd2, bd2, nd2, xd2, Ad2, cd2⟩ := d2
      simp only [cellsM, ZE.cells, List.cons_append, List.nil_append] at HX HY HZ HQ e2
      have s0 : wr.cell? ⟨w.heap.size + 1 + 1, 0, none⟩ = some (.bool ba0) := e2 0 _ rfl
      have s1 : wr.cell? ⟨w.heap.size + 1 + 1, 1, none⟩ = some (.slice Aa0 na0 ca0) := e2 1 _ rfl
      have s2 : wr.cell? ⟨w.heap.size + 1 + 1, 2, none⟩ = some (.bool ba1) := e2 2 _ rfl
      have s3 : wr.cell? ⟨w.heap.size + 1 + 1, 3, none⟩ = some (.slice Aa1 na1 ca1) := e2 3 _ rfl
      have s4 : wr.cell? ⟨w.heap.size + 1 + 1, 4, none⟩ = some (.bool ba2) := e2 4 _ rfl
      have s5 : wr.cell? ⟨w.heap.size + 1 + 1, 5, none⟩ = some (.slice Aa2 na2 ca2) := e2 5 _ rfl
      have s6 : wr.cell? ⟨w.heap.size + 1 + 1, 6, none⟩ = some (.bool bb0) := e2 6 _ rfl
      have s7 : wr.cell? ⟨w.heap.size + 1 + 1, 7, none⟩ = some (.slice Ab0 nb0 cb0) := e2 7 _ rfl
      have s8 : wr.cell? ⟨w.heap.size + 1 + 1, 8, none⟩ = some (.bool bb1) := e2 8 _ rfl
      have s9 : wr.cell? ⟨w.heap.size + 1 + 1, 9, none⟩ = some (.slice Ab1 nb1 cb1) := e2 9 _ rfl
      have s10 : wr.cell? ⟨w.heap.size + 1 + 1, 10, none⟩ = some (.bool bb2) := e2 10 _ rfl
      have s11 : wr.cell? ⟨w.heap.size + 1 + 1, 11, none⟩ = some (.slice Ab2 nb2 cb2) := e2 11 _ rfl
      have s12 : wr.cell? ⟨w.heap.size + 1 + 1, 12, none⟩ = some (.bool bc0) := e2 12 _ rfl
      have s13 : wr.cell? ⟨w.heap.size + 1 + 1, 13, none⟩ = some (.slice Ac0 nc0 cc0) := e2 13 _ rfl
      have s14 : wr.cell? ⟨w.heap.size + 1 + 1, 14, none⟩ = some (.bool bc1) := e2 14 _ rfl
      have s15 : wr.cell? ⟨w.heap.size + 1 + 1, 15, none⟩ = some (.slice Ac1 nc1 cc1) := e2 15 _ rfl
      have s16 : wr.cell? ⟨w.heap.size + 1 + 1, 16, none⟩ = some (.bool bc2) := e2 16 _ rfl
      have s17 : wr.cell? ⟨w.heap.size + 1 + 1, 17, none⟩ = some (.slice Ac2 nc2 cc2) := e2 17 _ rfl
      have s18 : wr.cell? ⟨w.heap.size + 1 + 1, 18, none⟩ = some (.bool bd0) := e2 18 _ rfl
      have s19 : wr.cell? ⟨w.heap.size + 1 + 1, 19, none⟩ = some (.slice Ad0 nd0 cd0) := e2 19 _ rfl
      have s20 : wr.cell? ⟨w.heap.size + 1 + 1, 20, none⟩ = some (.bool bd1) := e2 20 _ rfl
      have s21 : wr.cell? ⟨w.heap.size + 1 + 1, 21, none⟩ = some (.slice Ad1 nd1 cd1) := e2 21 _ rfl
      have s22 : wr.cell? ⟨w.heap.size + 1 + 1, 22, none⟩ = some (.bool bd2) := e2 22 _ rfl
      have s23 : wr.cell? ⟨w.heap.size + 1 + 1, 23, none⟩ = some (.slice Ad2 nd2 cd2) := e2 23 _ rfl
      clear e2
      go_upto_region 7 with fail
      go_cut [7] (fun s7 wx => ∃ g : Nat, s7 = .pointer (some ⟨g, 0, none⟩) ∧ Tri wr g [vX, vY, vZ] wx)
      case first =>
        have HB := Below.refl wr.heap.size wr
        go_region_held3 (fun w' => (w'.cell? ⟨w.heap.size + 1 + 1, 0, none⟩ = some (.bool ba0) ∧ w'.cell? ⟨w.heap.size + 1 + 1, 1, none⟩ = some (.slice Aa0 na0 ca0)) ∧ (w'.cell? ⟨w.heap.size + 1 + 1, 2, none⟩ = some (.bool ba1) ∧ w'.cell? ⟨w.heap.size + 1 + 1, 3, none⟩ = some (.slice Aa1 na1 ca1)) ∧ (w'.cell? ⟨w.heap.size + 1 + 1, 4, none⟩ = some (.bool ba2) ∧ w'.cell? ⟨w.heap.size + 1 + 1, 5, none⟩ = some (.slice Aa2 na2 ca2)) ∧ (w'.cell? ⟨w.heap.size + 1 + 1, 6, none⟩ = some (.bool bb0) ∧ w'.cell? ⟨w.heap.size + 1 + 1, 7, none⟩ = some (.slice Ab0 nb0 cb0)) ∧ (w'.cell? ⟨w.heap.size + 1 + 1, 8, none⟩ = some (.bool bb1) ∧ w'.cell? ⟨w.heap.size + 1 + 1, 9, none⟩ = some (.slice Ab1 nb1 cb1)) ∧ (w'.cell? ⟨w.heap.size + 1 + 1, 10, none⟩ = some (.bool bb2) ∧ w'.cell? ⟨w.heap.size + 1 + 1, 11, none⟩ = some (.slice Ab2 nb2 cb2)) ∧ (w'.cell? ⟨w.heap.size + 1 + 1, 12, none⟩ = some (.bool bc0) ∧ w'.cell? ⟨w.heap.size + 1 + 1, 13, none⟩ = some (.slice Ac0 nc0 cc0)) ∧ (w'.cell? ⟨w.heap.size + 1 + 1, 14, none⟩ = some (.bool bc1) ∧ w'.cell? ⟨w.heap.size + 1 + 1, 15, none⟩ = some (.slice Ac1 nc1 cc1)) ∧ (w'.cell? ⟨w.heap.size + 1 + 1, 16, none⟩ = some (.bool bc2) ∧ w'.cell? ⟨w.heap.size + 1 + 1, 17, none⟩ = some (.slice Ac2 nc2 cc2)) ∧ (w'.cell? ⟨w.heap.size + 1 + 1, 18, none⟩ = some (.bool bd0) ∧ w'.cell? ⟨w.heap.size + 1 + 1, 19, none⟩ = some (.slice Ad0 nd0 cd0)) ∧ (w'.cell? ⟨w.heap.size + 1 + 1, 20, none⟩ = some (.bool bd1) ∧ w'.cell? ⟨w.heap.size + 1 + 1, 21, none⟩ = some (.slice Ad1 nd1 cd1)) ∧ (w'.cell? ⟨w.heap.size + 1 + 1, 22, none⟩ = some (.bool bd2) ∧ w'.cell? ⟨w.heap.size + 1 + 1, 23, none⟩ = some (.slice Ad2 nd2 cd2))) (first | ((try dsimp only); repeat' (first | with_reducible assumption | apply And.intro | (with_reducible refine keep_alloc ?_) | (with_reducible refine keep_drew ?_) | (with_reducible refine keep_set (by omega) ?_) | (with_reducible refine keep_sets (by omega) ?_) | (with_reducible refine keep_cell (W := wr) ?_ ?_) | fail))) (first | (go_at_call 44; (with_reducible refine (HX.out _ (bel_step HB BG)).mono ?_); rintro e v1 ⟨R1, d1, rfl, m1, hq1⟩; have qv1 : Below wr.heap.size wr v1 := bel_step BG hq1; have hs1 := qv1.size; (try refine And.elim (fun ra za => ?_) (alloc_drew hq1)); (try refine And.elim (fun ra za => ?_) (alloc_plain hq1))) | (go_at_call 44; (with_reducible refine (HY.out _ (bel_step HB BG)).mono ?_); rintro e v2 ⟨R2, d2, rfl, m2, hq2⟩; have qv2 : Below wr.heap.size wr v2 := bel_step BG hq2; have hs2 := qv2.size; have wv2 : Below v1.heap.size v1 v2 := bel_step BG hq2; have hp2 := wv2.size; have m1 := m1.below wv2; (try refine (fun ra za => ?_ : _ → _ → _) (rng_below ra wv2) (Zn.below za wv2)); (try refine And.elim (fun ra za => ?_) (alloc_drew hq2)); (try refine And.elim (fun ra za => ?_) (alloc_plain hq2))) | (go_at_call 44; (with_reducible refine (HZ.out _ (bel_step HB BG)).mono ?_); rintro e v3 ⟨R3, d3, rfl, m3, hq3⟩; have qv3 : Below wr.heap.size wr v3 := bel_step BG hq3; have hs3 := qv3.size; have wv3 : Below v2.heap.size v2 v3 := bel_step BG hq3; have hp3 := wv3.size; have m1 := m1.below wv3; have m2 := m2.below wv3; (try refine (fun ra za => ?_ : _ → _ → _) (rng_below ra wv3) (Zn.below za wv3)); (try refine And.elim (fun ra za => ?_) (alloc_drew hq3)); (try refine And.elim (fun ra za => ?_) (alloc_plain hq3)); (try (refine (fun k0 k1 k2 k3 k4 k5 fa => ?_ : _ → _ → _ → _ → _ → _ → _ → _) (ra 0 _ rfl) (ra 1 _ rfl) (ra 2 _ rfl) (ra 3 _ rfl) (ra 4 _ rfl) (ra 5 _ rfl) (Zn.fr za); simp only [Nat.zero_add] at k0 k1 k2 k3 k4 k5))))
        all_goals
          go_wp2_with fail
          go_meet
        all_goals
          first
          | exact ⟨_, rfl, Tri.new (f0 := ⟨vX, bX, nX, LX, R1, d1⟩) (f1 := ⟨vY, bY, nY, LY, R2, d2⟩) (f2 := ⟨vZ, bZ, nZ, LZ, R3, d3⟩) qv3 ⟨IX_.out, m1⟩ ⟨IY_.out, m2⟩ ⟨IZ_.out, m3⟩⟩
          | exact ⟨_, rfl, Tri.set (f0 := ⟨vX, bX, nX, LX, R1, d1⟩) (f1 := ⟨vY, bY, nY, LY, R2, d2⟩) (f2 := ⟨vZ, bZ, nZ, LZ, R3, d3⟩) ra za qv3 (by omega) ⟨IX_.out, m1⟩ ⟨IY_.out, m2⟩ ⟨IZ_.out, m3⟩⟩
      case rest =>
        obtain ⟨gf, rfl, hT⟩ := hcut
        obtain ⟨f0, f1, f2, tf, tok, tz⟩ := hT.ex
        simp only [List.cons.injEq, and_true] at tz
        obtain ⟨y0, y1, y2⟩ := tz
        have p0 := tok f0 (by simp)
        have p1 := tok f1 (by simp)
        have p2 := tok f2 (by simp)
        have HBc := hT.b
        have HB := bel_step HBr hT.b
        have r1 := rng_below r1 hT.b
        have zn1 := zn1.below hT.b
        have hgf := hT.hg
        have hgz := hT.z
        have w0 : f0.n = 0 ↔ nX = 0 := by rw [p0.i.zero, y0, IX_.out.zero]
        have w1 : f1.n = 0 ↔ nY = 0 := by rw [p1.i.zero, y1, IY_.out.zero]
        have w2 : f2.n = 0 ↔ nZ = 0 := by rw [p2.i.zero, y2, IZ_.out.zero]
        obtain ⟨tq, htq⟩ : ∃ tq, decide (nQ = 0) = tq := ⟨_, rfl⟩
        obtain ⟨tx, htx⟩ : ∃ tx, decide (nX = 0) = tx := ⟨_, rfl⟩
        obtain ⟨ty, hty⟩ : ∃ ty, decide (nY = 0) = ty := ⟨_, rfl⟩
        obtain ⟨tz, htz⟩ : ∃ tz, decide (nZ = 0) = tz := ⟨_, rfl⟩
        rw [htq, htx, hty, htz] at hfB
        have K0 := hid fun (v : World) (A : Option Addr) (c : Nat) => Hzero_g (b := bQ) (n := nQ) (c := c) (A := A) (w := v) tq htq
        have K1 := hid fun (v : World) => Hzero_g (b := f0.b) (n := f0.n) (c := f0.c) (A := f0.A) (w := v) tx (by rw [← htx]; exact decide_eq_decide.2 w0)
        have K2 := hid fun (v : World) => Hzero_g (b := f1.b) (n := f1.n) (c := f1.c) (A := f1.A) (w := v) ty (by rw [← hty]; exact decide_eq_decide.2 w1)
        have K3 := hid fun (v : World) => Hzero_g (b := f2.b) (n := f2.n) (c := f2.c) (A := f2.A) (w := v) tz (by rw [← htz]; exact decide_eq_decide.2 w2)
        clear w0 w1 w2 htq htx hty htz HX HY HZ hT tok
        have s0 := keep_cell HBc s0
        have s1 := keep_cell HBc s1
        have s2 := keep_cell HBc s2
        have s3 := keep_cell HBc s3
        have s4 := keep_cell HBc s4
        have s5 := keep_cell HBc s5
        have s6 := keep_cell HBc s6
        have s7 := keep_cell HBc s7
        have s8 := keep_cell HBc s8
        have s9 := keep_cell HBc s9
        have s10 := keep_cell HBc s10
        have s11 := keep_cell HBc s11
        have s12 := keep_cell HBc s12
        have s13 := keep_cell HBc s13
        have s14 := keep_cell HBc s14
        have s15 := keep_cell HBc s15
        have s16 := keep_cell HBc s16
        have s17 := keep_cell HBc s17
        clear s18 s19 s20 s21 s22 s23
        have HTF := hid tf
        have HP0 := hid p0
        have HP1 := hid p1
        have HP2 := hid p2
        clear p0 p1 p2
        have l0 : wc.cell? ⟨gf, 0, none⟩ = some (.bool f0.b) := tf 0 _ rfl
        have l1 : wc.cell? ⟨gf, 1, none⟩ = some (.slice f0.A f0.n f0.c) := tf 1 _ rfl
        have l2 : wc.cell? ⟨gf, 2, none⟩ = some (.bool f1.b) := tf 2 _ rfl
        have l3 : wc.cell? ⟨gf, 3, none⟩ = some (.slice f1.A f1.n f1.c) := tf 3 _ rfl
        have l4 : wc.cell? ⟨gf, 4, none⟩ = some (.bool f2.b) := tf 4 _ rfl
        have l5 : wc.cell? ⟨gf, 5, none⟩ = some (.slice f2.A f2.n f2.c) := tf 5 _ rfl
        clear tf
        go_wp2_with fail
        refine (HQ.out wc HBc).mono ?_
        rintro e v1 ⟨Rq, dq, rfl, mq, g1⟩
        go_wp2_with fail
        refine (K0.out v1 _ _).mono ?_
        rintro e v2 ⟨rfl, g2⟩
        have g12 := bel_step g1 g2
        have HB := bel_step HB g12
        have r1 := rng_below r1 g12
        have zn1 := zn1.below g12
        have l0 := keep_cell g12 l0
        have l1 := keep_cell g12 l1
        have l2 := keep_cell g12 l2
        have l3 := keep_cell g12 l3
        have l4 := keep_cell g12 l4
        have l5 := keep_cell g12 l5
        clear mq s0 s1 s2 s3 s4 s5 s6 s7 s8 s9 s10 s11 s12 s13 s14 s15 s16 s17
        cases tq
        · go_wp2_with fail
          refine (K1.out _).mono ?_
          rintro e u1 ⟨rfl, e1⟩
          have HB := bel_step HB e1
          have r1 := rng_below r1 e1
          have zn1 := zn1.below e1
          have l0 := keep_cell e1 l0
          have l1 := keep_cell e1 l1
          have l2 := keep_cell e1 l2
          have l3 := keep_cell e1 l3
          have l4 := keep_cell e1 l4
          have l5 := keep_cell e1 l5
          cases tx
          · go_wp2_with fail
            refine (K2.out _).mono ?_
            rintro e u2 ⟨rfl, e2⟩
            have HB := bel_step HB e2
            have r1 := rng_below r1 e2
            have zn1 := zn1.below e2
            have l0 := keep_cell e2 l0
            have l1 := keep_cell e2 l1
            have l2 := keep_cell e2 l2
            have l3 := keep_cell e2 l3
            have l4 := keep_cell e2 l4
            have l5 := keep_cell e2 l5
            cases ty
            · go_wp2_with fail
              refine (K3.out _).mono ?_
              rintro e u3 ⟨rfl, e3⟩
              have HB := bel_step HB e3
              have r1 := rng_below r1 e3
              have zn1 := zn1.below e3
              have l0 := keep_cell e3 l0
              have l1 := keep_cell e3 l1
              have l2 := keep_cell e3 l2
              have l3 := keep_cell e3 l3
              have l4 := keep_cell e3 l4
              have l5 := keep_cell e3 l5
              cases tz
              · have HNB : Hid (frmB [za0, za1, za2, zb0, zb1, zb2, zc0, zc1, zc2, zd0, zd1, zd2] = true) := by unfold Hid; rw [HPE.out, hfB]; simp
                obtain ⟨LP, q1, q2o, q3, q4, q5⟩ := HLP.out
                have q2 : LP.map (·.z) = PP := q2o.trans HPE.out
                have hpbL : ∀ e ∈ LP, Bz (2 * k) e.z := fun e he => HPB.out e.z (by rw [← q2o]; exact List.mem_map.2 ⟨e, he, rfl⟩)
                have hcw := bel_step g12 (bel_step e1 (bel_step e2 e3))
                have hrw := bel_step HBc hcw
                have hFz : [f0, f1, f2].map (·.z) = facZ PP := by rw [hfl]; simp [y0, y1, y2]
                have hFo : ∀ e ∈ [f0, f1, f2], e.ok u3 := by
                  intro e he
                  simp only [List.mem_cons, List.not_mem_nil, or_false] at he
                  rcases he with rfl | rfl | rfl
                  · exact HP0.out.below hcw
                  · exact HP1.out.below hcw
                  · exact HP2.out.below hcw
                have hPP : PP.length = 12 := by rw [← q2, List.length_map, q1]
                have hat := hat
                have q3 := rng_below q3 hrw
                have q4 : ∀ e ∈ LP, e.ok u3 := fun e he => (q4 e he).below hrw
                have q5 := q5.below hrw
                have tf := rng_below HTF.out hcw
                have hgz := hgz.below hcw
                have hfL : [f0, f1, f2].length = 3 := rfl
                generalize [f0, f1, f2] = FL at *
                have hltg := hgz.lt
                have hMl : (frmZ PP).length = 9 := hml
                go_upto_region 11 with fail
                refine enterR (P := fun u => Code.wp _ _ _ _ u) ?_
                intro v hv q0 qz hsz
                clear hsz
                have hF : Fil w [(w.heap.size + 1, cellsM zeros9), (w.heap.size + 1 + 1, cellsM LP), (gf, cellsM FL)] u3.heap.size (fcont (frmZ PP) 0 0) v := ⟨bel_step HB hv, by
                  intro p hp
                  simp only [List.mem_cons, List.not_mem_nil, or_false] at hp
                  have h1 := zn1.lt
                  have h2 := q5.lt
                  rcases hp with rfl | rfl | rfl
                  · exact ⟨rng_below r1 hv, zn1.below hv, by dsimp only; omega⟩
                  · exact ⟨rng_below q3 hv, q5.below hv, by dsimp only; omega⟩
                  · exact ⟨rng_below tf hv, hgz.below hv, by dsimp only; omega⟩, qz, HB.size, zeros9, q0, fun e he => by rw [List.eq_of_mem_replicate he]; exact ZE.zero_ok _, by rw [fcont_none hMl]; rfl⟩
                obtain ⟨gm, hgm⟩ : ∃ gm, gm = u3.heap.size := ⟨_, rfl⟩
                rw [← hgm] at hF ⊢
                have hgU := hid (Nat.le_of_eq hgm.symm)
                have hBv : Below u3.heap.size u3 v := hv
                have hFoU := hFo
                have hLoU := q4
                have hFo : ∀ e ∈ FL, e.ok v := fun e he => (hFo e he).below hv
                have q4 : ∀ e ∈ LP, e.ok v := fun e he => (q4 e he).below hv
                have tfv := rng_below tf hv
                have hi3 := hid (show (Try.prog.info? 67).map (·.size) = some (cellsM FL).length by rw [cellsM_len, hfL]; kernel_rfl)
                have HIx3 := fun (w1 : World) (j : Nat) (hj : j < FL.length) => run_index_M w1 FL 67 3 hfL Try.underlying67 j hj
                have hvg : v.heap.size > gm := by have := qz.lt; omega
                clear hgm
                clear hfB hfl hml y0 y1 y2 HP0 HP1 HP2 HTF HLP HPB HOK HE2 K0 K1 K2 K3 HQ g1 g2 g12 e1 e2 e3 l0 l1 l2 l3 l4 l5 q2o r1 zn1 q0 qz hv tf hgz q3 q5
                go_wp2_with (first | refine wpList_load_mid (by rfl) _ _ (by rfl) gf 0 (by rfl) (cellsM FL) _ tfv Try.underlying67 (by rfl) hi3.out ?_ | fail)
                have hFo' := hid fun (W : World) (h : Below u3.heap.size u3 W) e (he : e ∈ FL) => (hFoU e he).below h
                have hLo' := hid fun (W : World) (h : Below u3.heap.size u3 W) e (he : e ∈ LP) => (hLoU e he).below h
                obtain ⟨U3, hU3⟩ : ∃ U3 : World, U3 = u3 := ⟨_, rfl⟩
                rw [← hU3] at hFo' hLo' hBv
                rw [← hU3] at hgU
                clear hU3
                go_loopw [69] (fun s69 wr => ∃ i : Nat, i ≤ 3 ∧ s69 = .int .i64 i ∧ Fil w [(w.heap.size + 1, cellsM zeros9), (w.heap.size + 1 + 1, cellsM LP), (gf, cellsM FL)] gm (fcont (frmZ PP) i 0) wr ∧ Below U3.heap.size U3 wr) (fun s69 _ => 3 - (intOf s69).toNat)
                case atStart => exact ⟨0, by omega, rfl, hF, hBv⟩
                case round =>
                  obtain ⟨i, hi, rfl, hS, hU⟩ := hrel
                  clear hF hBv
                  by_cases h3 : i < 3
                  · have h3i : (i : Int) < 3 := by omega
                    have hi2 : i < FL.length := by omega
                    have hix := HIx3 wr i hi2
                    have hx := hFo'.out wr hU FL[i] (List.getElem_mem hi2)
                    have HXy := fun (W : World) (h : Below U3.heap.size U3 W) => hFo'.out W h FL[i] (List.getElem_mem hi2)
                    have hxz : (facZ PP)[i]? = some FL[i].z := by rw [← hFz, List.getElem?_map, List.getElem?_eq_getElem hi2]; rfl
                    have hxb : Bz (3 * (2 * k) + 3) FL[i].z := hfb _ (by rw [← hFz]; exact List.mem_map.2 ⟨_, List.getElem_mem hi2, rfl⟩)
                    obtain ⟨e, he⟩ : ∃ e, FL[i] = e := ⟨_, rfl⟩
                    rw [he] at hix hx hxz hxb
                    simp only [he] at HXy
                    have HXy := hid HXy
                    clear he HIx3
                    obtain ⟨ez, eb, en, exs, eA, ec⟩ := e
                    dsimp only at hx hxz hxb hix
                    go_upto_region 14 with fail
                    refine enterR (P := fun u => Code.wp _ _ _ _ u) (c := [.bool eb, .slice eA en ec]) ?_
                    intro y HY t0 zt hsz
                    have hSy := hS.below HY
                    have hgy := hS.zm.lt
                    have hF2 : Fil w ((wr.heap.size, cellsM [⟨ez, eb, en, exs, eA, ec⟩]) :: [(w.heap.size + 1, cellsM zeros9), (w.heap.size + 1 + 1, cellsM LP), (gf, cellsM FL)]) gm (fcont (frmZ PP) i 0) y := ⟨hSy.b, by
                      intro p hp
                      rcases List.mem_cons.1 hp with rfl | hp
                      · exact ⟨t0, zt, by dsimp only; omega⟩
                      · exact hSy.k p hp, hSy.zm, hSy.hg, hSy.ex⟩
                    have hUy := bel_step hU HY
                    obtain ⟨gb, hgb⟩ : ∃ gb, gb = wr.heap.size := ⟨_, rfl⟩
                    rw [← hgb] at hF2 ⊢
                    clear hS hSy hx t0 zt hsz hgb hU hgy HY
                    go_wp2
                    go_loopw [73] (fun s73 wr => ∃ q : Nat, q ≤ 3 ∧ s73 = .int .i64 q ∧ Fil w ((gb, cellsM [⟨ez, eb, en, exs, eA, ec⟩]) :: [(w.heap.size + 1, cellsM zeros9), (w.heap.size + 1 + 1, cellsM LP), (gf, cellsM FL)]) gm (fcont (frmZ PP) i q) wr ∧ Below U3.heap.size U3 wr) (fun s73 _ => 3 - (intOf s73).toNat)
                    case atStart => exact ⟨0, by omega, rfl, hF2, hUy⟩
                    case round =>
                      obtain ⟨q, hq3, rfl, hS, hU⟩ := hrel
                      clear hF2 hUy
                      by_cases hq : q < 3
                      · have hqi : (q : Int) < 3 := by omega
                        have hj : 3 * i + q < LP.length := by omega
                        have hy := hLo'.out wr hU LP[3 * i + q] (List.getElem_mem hj)
                        have hyb := hpbL LP[3 * i + q] (List.getElem_mem hj)
                        have hyz : PP[3 * i + q]? = some LP[3 * i + q].z := by rw [← q2, List.getElem?_map, List.getElem?_eq_getElem hj]; rfl
                        have hel := hat i q h3 hq _ _ hxz hyz
                        obtain ⟨k0, z0, n0⟩ := hS.k (gb, cellsM [⟨ez, eb, en, exs, eA, ec⟩]) (by simp)
                        obtain ⟨k1, z1, n1⟩ := hS.k (w.heap.size + 1 + 1, cellsM LP) (by simp)
                        dsimp only at k0 k1 n0 n1
                        have x0 : wr.cell? ⟨gb, 0, none⟩ = some (.bool eb) := k0 0 _ rfl
                        have x1 : wr.cell? ⟨gb, 1, none⟩ = some (.slice eA en ec) := k0 1 _ rfl
                        obtain ⟨d0, d1⟩ := rng_cell k1 hj
                        rw [show (3 * i + q) * 2 = i * 6 + q * 2 by omega] at d0 d1
                        have hex := HXy.out wr hU
                        generalize LP[3 * i + q] = p at *
                        have hlen : (fcont (frmZ PP) i q).length = 9 := fcont_len _ _ _
                        obtain ⟨td, _, _, c0, c1⟩ := hS.cell (j := 3 * q + i) (by omega)
                        have hnx := fcont_next hMl h3 hq hel
                        obtain ⟨rb, rn, rL, IR⟩ := iz (ez * p.z)
                        have HM := hid fun (W : World) (h : Below wr.heap.size wr W) => Hmul_g (w := W) hex.i hy.i IR.out (hex.m.below h) (hy.m.below h) (hxb.ft (by omega)) (hyb.ft (by omega)) ((hxb.mul hyb).ft (by omega)) rfl
                        have HS := hid hS
                        have HN := hid hnx
                        have fm := hS.zm.fr
                        have lt0 := cell_lt x0
                        have lt1 := cell_lt d0
                        have lt2 := cell_lt c0
                        obtain ⟨pz, pb, pn, pxs, pA, pc⟩ := p
                        obtain ⟨zd_, bd_, nd_, xd_, Ad_, cd_⟩ := td
                        dsimp only at *
                        have e1 : IntKind.i64.wrap (3 * (q : Int)) = 3 * (q : Int) := by rw [IntKind.wrap_i64]; omega
                        have e2 : IntKind.i64.wrap (3 * (q : Int) + (i : Int)) = 3 * (q : Int) + (i : Int) := by rw [IntKind.wrap_i64]; omega
                        have e3 : (3 * (q : Int) + (i : Int)).toNat = 3 * q + i := by omega
                        have e4 : (0 : Int) ≤ 3 * (q : Int) + (i : Int) := by omega
                        have e5 : 3 * (q : Int) + (i : Int) < 9 := by omega
                        have e6 : (i : Int) < 4 := by omega
                        have HB := Below.refl wr.heap.size wr
                        clear hS hy hyb hyz hel k0 k1 z0 z1 hex hnx hj hix hFo' hLo' HXy hpbL hfb
                        go_wp2_with fail
                        go_region_held3 (fun w' => (w'.cell? ⟨gb, 0, none⟩ = some (.bool eb) ∧ w'.cell? ⟨gb, 1, none⟩ = some (.slice eA en ec)) ∧ (w'.cell? ⟨w.heap.size + 1 + 1, i * 6 + q * 2, none⟩ = some (.bool pb) ∧ w'.cell? ⟨w.heap.size + 1 + 1, i * 6 + q * 2 + 1, none⟩ = some (.slice pA pn pc))) (first | ((try dsimp only); repeat' (first | with_reducible assumption | apply And.intro | (with_reducible refine keep_alloc ?_) | (with_reducible refine keep_drew ?_) | (with_reducible refine keep_set (by omega) ?_) | (with_reducible refine keep_sets (by omega) ?_) | (with_reducible refine keep_cell (W := wr) ?_ ?_) | fail))) ((go_at_call 45; (with_reducible refine (HM.out _ (bel_step HB BG)).mono ?_); rintro e v1 ⟨R1, g1, rfl, m1, hq1⟩; have qv1 : Below wr.heap.size wr v1 := bel_step BG hq1; have c0 := keep_cell qv1 c0; have c1 := keep_cell qv1 c1; have fm := (HS.out.zm.below qv1).fr))
                        all_goals
                          have hF5 := (HS.out.below qv1).set (j := 3 * q + i) (by omega) IR.out m1
                          rw [HN.out] at hF5
                          have hU5 := below_set (below_set (bel_step hU qv1) hgU.out ((3 * q + i) * 2) (.bool rb)) hgU.out ((3 * q + i) * 2 + 1) (.slice R1 rn g1)
                          have HF5 := hid hF5
                          have HU5 := hid hU5
                          clear hF5 hU5
                          go_wp2
                          go_roundw
                          case rel => exact ⟨q + 1, by omega, by go_num, HF5.out, HU5.out⟩
                          case measure => simp [intOf]; omega
                      · obtain rfl : q = 3 := by omega
                        rw [fcont_col hMl h3] at hS
                        have hS' : Fil w [(w.heap.size + 1, cellsM zeros9), (w.heap.size + 1 + 1, cellsM LP), (gf, cellsM FL)] gm (fcont (frmZ PP) (i + 1) 0) wr := ⟨hS.b, fun p hp => hS.k p (List.mem_cons_of_mem _ hp), hS.zm, hS.hg, hS.ex⟩
                        clear hS
                        go_wp2
                        go_roundw
                        case rel => exact ⟨i + 1, by omega, by go_num, hS', hU⟩
                        case measure => simp [intOf]; omega
                  · obtain rfl : i = 3 := by omega
                    rw [fcont_all hMl] at hS
                    obtain ⟨lm, e2, e3, e4⟩ := hS.ex
                    obtain ⟨r1, zn1, _⟩ := hS.k (w.heap.size + 1, cellsM zeros9) (by simp)
                    dsimp only at r1 zn1
                    have e1 : lm.length = 9 := by rw [← List.length_map (·.z), e4, hMl]
                    have hi9 := hid (show (Try.prog.info? 55).map (·.size) = some (cellsM lm).length by rw [cellsM_len, e1]; kernel_rfl)
                    obtain ⟨G1, G2, G3, G4⟩ := fin_N (w := w) (l := lm) (cs := zeros9) T55u rfl hi9.out hS.b (by omega) r1 zn1 (by rw [e1]; rfl) e3
                    have HF := hid (And.intro e4 (And.intro G3 (And.intro G4 e1)))
                    have ht := rng_there r1 zn1
                    rw [show (cellsM zeros9).length = (cellsM lm).toArray.size by rw [List.size_toArray, cellsM_len, cellsM_len, e1]; rfl] at ht
                    have hi9' := hid (show (Try.prog.info? 55).map (·.size) = some (cellsM lm).toArray.size by rw [List.size_toArray, cellsM_len, e1]; kernel_rfl)
                    have ho := all_oneCell_toArray (cellsM_one lm)
                    clear e1 e3 e4 G1 G3 G4 hS r1 zn1 HIx3
                    go_wp2_with (first | refine wpList_load_mid (by rfl) _ _ (by rfl) gm 0 (by rfl) (cellsM lm) _ e2 T55u (by rfl) hi9.out ?_ | refine wpList_store_mid (by rfl) _ _ _ (by rfl) (w.heap.size + 1) 0 (cellsM lm).toArray (by rfl) (by rfl) ht hi9'.out ho ?_ | fail)
                    refine bodyPost_ret (v := .tuple #[.agg (cellsM lm).toArray, .bool true]) ?_ rfl ?_
                    · simp [results, Try.results21, Sem.run_bind, asAddr, G2]
                    · exact RetMat.yes HNB.out HF.out.2.2.2 (HF.out.1.trans (congrArg frmZ HPE.out.symm)) HF.out.2.2.1 HF.out.2.1
              · have HNB : Hid (frmB [za0, za1, za2, zb0, zb1, zb2, zc0, zc1, zc2, zd0, zd1, zd2] = false) := by unfold Hid; rw [HPE.out, hfB]; simp
                clear hfB l0 l1 l2 l3 l4 l5
                go_upto_region 9 with fail
                have ht := rng_there r1 zn1
                have ho := all_oneCell_toArray (cellsM_one zeros9)
                obtain ⟨G1, G2, G3, G4⟩ := fin_N (w := w) (l := zeros9) (cs := zeros9) T55u rfl (by kernel_rfl) HB (by omega) r1 zn1 rfl (fun e he => by rw [List.eq_of_mem_replicate he]; exact ZE.zero_ok _)
                clear G1 G4
                have HF := hid G3
                clear G3
                go_wp2_with (first | refine wpList_store_mid (by rfl) _ _ _ (by rfl) (w.heap.size + 1) 0 (cellsM zeros9).toArray (by rfl) (by rfl) ht hi18.out ho ?_ | fail)
                refine bodyPost_ret (v := .tuple #[.agg (cellsM zeros9).toArray, .bool false]) ?_ rfl ?_
                · simp [results, Try.results21, Sem.run_bind, asAddr, G2]
                · exact RetMat.no HNB.out HF.out
            · have HNB : Hid (frmB [za0, za1, za2, zb0, zb1, zb2, zc0, zc1, zc2, zd0, zd1, zd2] = false) := by unfold Hid; rw [HPE.out, hfB]; simp
              clear hfB l0 l1 l2 l3 l4 l5
              go_upto_region 9 with fail
              have ht := rng_there r1 zn1
              have ho := all_oneCell_toArray (cellsM_one zeros9)
              obtain ⟨G1, G2, G3, G4⟩ := fin_N (w := w) (l := zeros9) (cs := zeros9) T55u rfl (by kernel_rfl) HB (by omega) r1 zn1 rfl (fun e he => by rw [List.eq_of_mem_replicate he]; exact ZE.zero_ok _)
              clear G1 G4
              have HF := hid G3
              clear G3
              go_wp2_with (first | refine wpList_store_mid (by rfl) _ _ _ (by rfl) (w.heap.size + 1) 0 (cellsM zeros9).toArray (by rfl) (by rfl) ht hi18.out ho ?_ | fail)
              refine bodyPost_ret (v := .tuple #[.agg (cellsM zeros9).toArray, .bool false]) ?_ rfl ?_
              · simp [results, Try.results21, Sem.run_bind, asAddr, G2]
              · exact RetMat.no HNB.out HF.out
          · have HNB : Hid (frmB [za0, za1, za2, zb0, zb1, zb2, zc0, zc1, zc2, zd0, zd1, zd2] = false) := by unfold Hid; rw [HPE.out, hfB]; simp
            clear hfB l0 l1 l2 l3 l4 l5
            go_upto_region 9 with fail
            have ht := rng_there r1 zn1
            have ho := all_oneCell_toArray (cellsM_one zeros9)
            obtain ⟨G1, G2, G3, G4⟩ := fin_N (w := w) (l := zeros9) (cs := zeros9) T55u rfl (by kernel_rfl) HB (by omega) r1 zn1 rfl (fun e he => by rw [List.eq_of_mem_replicate he]; exact ZE.zero_ok _)
            clear G1 G4
            have HF := hid G3
            clear G3
            go_wp2_with (first | refine wpList_store_mid (by rfl) _ _ _ (by rfl) (w.heap.size + 1) 0 (cellsM zeros9).toArray (by rfl) (by rfl) ht hi18.out ho ?_ | fail)
            refine bodyPost_ret (v := .tuple #[.agg (cellsM zeros9).toArray, .bool false]) ?_ rfl ?_
            · simp [results, Try.results21, Sem.run_bind, asAddr, G2]
            · exact RetMat.no HNB.out HF.out
        · have HNB : Hid (frmB [za0, za1, za2, zb0, zb1, zb2, zc0, zc1, zc2, zd0, zd1, zd2] = false) := by unfold Hid; rw [HPE.out, hfB]; simp
          clear hfB l0 l1 l2 l3 l4 l5
          go_upto_region 9 with fail
          have ht := rng_there r1 zn1
          have ho := all_oneCell_toArray (cellsM_one zeros9)
          obtain ⟨G1, G2, G3, G4⟩ := fin_N (w := w) (l := zeros9) (cs := zeros9) T55u rfl (by kernel_rfl) HB (by omega) r1 zn1 rfl (fun e he => by rw [List.eq_of_mem_replicate he]; exact ZE.zero_ok _)
          clear G1 G4
          have HF := hid G3
          clear G3
          go_wp2_with (first | refine wpList_store_mid (by rfl) _ _ _ (by rfl) (w.heap.size + 1) 0 (cellsM zeros9).toArray (by rfl) (by rfl) ht hi18.out ho ?_ | fail)
          refine bodyPost_ret (v := .tuple #[.agg (cellsM zeros9).toArray, .bool false]) ?_ rfl ?_
          · simp [results, Try.results21, Sem.run_bind, asAddr, G2]
          · exact RetMat.no HNB.out HF.out
end Go.Proofs.Ytgnfobnkhjlbbaa
