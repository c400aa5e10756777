/- Homographies: walk of Apply (package). Conditions: none. -/
import Derived.Test.YtdkgbkbbbldliaaGreatZYW
import Derived.Test.YtdkgbkbbbldliaaGreatZYU
import Derived.Test.YtdkgbkbbbldliaaGreatZHm20
import Derived.Test.YtdkgbkbbbldliaaGreatZAr10
import Derived.Test.YtdkgbkbbbldliaaGreatZYH
set_option linter.unusedVariables false
set_option linter.unusedSimpArgs false
namespace Go.Proofs.YtdkgbkbbbldliaaGreat
open Go.RowKit Big
/-- a point and an error come back -/
def RetPE (w : World) (q : List Int × Int) (e : Ending) (w' : World) : Prop := ∃ l : List ZE, e = .returned (.tuple #[.agg (Kc l).toArray, .int .i64 q.2]) ∧ l.map (·.z) = q.1 ∧ (∀ x ∈ l, x.ok w') ∧ Below w.heap.size w w'
/-- the product of a row of a matrix and a vector -/
def rowZ (M v : List Int) (i : Nat) : Int := M.getD (3 * i) 0 * v.getD 0 0 + M.getD (3 * i + 1) 0 * v.getD 1 0 + M.getD (3 * i + 2) 0 * v.getD 2 0
/-- what Apply answers -/
def aplE (fs gs : List Rf) : List Int × Int :=
 if nrmB fs then
  (if chkZ 40 gs = 0 then
   (match gs.map Rf.f with
    | [x, y] => if rowZ (nrmZ fs) (ptZ x y) 2 = 0 then (List.replicate 4 0, 24) else (frZ [(newE (rowZ (nrmZ fs) (ptZ x y) 0) (rowZ (nrmZ fs) (ptZ x y) 2)).1, (newE (rowZ (nrmZ fs) (ptZ x y) 1) (rowZ (nrmZ fs) (ptZ x y) 2)).1], 0)
    | _ => (List.replicate 4 0, 0))
   else (List.replicate 4 0, chkZ 40 gs))
 else (List.replicate 4 0, 1)
theorem two_of {α : Type} {l : List α} (h : l.length = 2) : ∃ a b, l = [a, b] := by
 match l, h with
 | [a, b], _ => exact ⟨a, b, rfl⟩
def Kt : List ZE := List.replicate 4 ZE.zero
theorem T28u : ∃ d, Tryz.prog.underlying 42 = some d ∧ d.isRow = true := ⟨_, Tryz.underlying42, rfl⟩
theorem T28i : (Tryz.prog.info? 42).map (·.size) = some 8 := by kernel_rfl
set_option maxRecDepth 100000 in
set_option maxHeartbeats 8000000 in
theorem HApply_g (fs gs : List Rf) (h9 : fs.length = 9) (h2_ : gs.length = 2) {w : World} (hm : ∀ f ∈ fs, f.mg w) (hm' : ∀ f ∈ gs, f.mg w) :
  Calls Tryz.prog 43 #[.agg (Kc (zl fs)).toArray, .agg (Kc (zl gs)).toArray] w (RetPE w (aplE fs gs)) := by
 have hl : (zl fs).length = 18 := by rw [Ky, h9]
 obtain ⟨d32, u32, row32⟩ := T32u
 have hi := hid (show (Tryz.prog.info? 32).map (·.size) = some (Kc (zl fs)).length by rw [Kf, hl]; exact T32i)
 have hi18 := hid (show (Tryz.prog.info? 95).map (·.size) = some 18 by kernel_rfl)
 have HN := hid fun (w1 : World) (h : Below w.heap.size w w1) => Wk fs h9 (w := w1) (fun f hf => (hm f hf).below h)
 have HMg := hid fun (W : World) (h : Below w.heap.size w W) f (hf : f ∈ gs) => (hm' f hf).below h
 have HCk := hid fun (W : World) (h : Below w.heap.size w W) (g : Nat) (hr : W.rangeAt g 0 (Kc (zl gs))) => (show Calls Tryz.prog 70 #[.int .i64 40, .slice (some ⟨g, 0, none⟩) 2 2] W (RetI W (chkZ 40 gs)) from by
  have := Hcheck_g 40 (by omega) gs g 2 W (by omega) (by omega) (by omega) (fun j hj => rf_at hr (HMg.out W h) j hj)
  rwa [h2_] at this)
 have hnl := Jf h9
 have hbz := Zo (fs := fs)
 have hAE : Hid (aplE fs gs = if nrmB fs then
  (if chkZ 40 gs = 0 then
   (match gs.map Rf.f with
    | [x, y] => if rowZ (nrmZ fs) (ptZ x y) 2 = 0 then (List.replicate 4 0, 24) else (frZ [(newE (rowZ (nrmZ fs) (ptZ x y) 0) (rowZ (nrmZ fs) (ptZ x y) 2)).1, (newE (rowZ (nrmZ fs) (ptZ x y) 1) (rowZ (nrmZ fs) (ptZ x y) 2)).1], 0)
    | _ => (List.replicate 4 0, 0))
   else (List.replicate 4 0, chkZ 40 gs))
 else (List.replicate 4 0, 1)) := rfl
 obtain ⟨cv, hcv⟩ : ∃ cv, chkZ 40 gs = cv := ⟨_, rfl⟩
 rw [hcv] at HCk hAE
 have hCV := hid hcv
 clear hm hm' hcv
 generalize nrmB fs = b1 at *
 generalize nrmZ fs = N1 at *
 go_enter Tryz.func43, Tryz.ntmps43
 go_upto_region 1 with fail
 refine X5 (P := fun u => Code.wp _ _ _ _ u) ?_
 intro u HB r0 q0 r1 zn0 zq zn1 hsz
 have r1 : u.rangeAt (w.heap.size + 1 + 1) 0 (Kc Kt) := r1
 clear hsz
 go_wp2_with (first | refine wpList_load_mid (by rfl) _ _ (by rfl) w.heap.size 0 (by rfl) (Kc (zl fs)) _ r0 u32 row32 hi.out ?_ | fail)
 refine (HN.out u HB).mono ?_
 rintro e w1 ⟨l1, hl1, rfl, hz1, h1⟩
 have F1 := Jt (w := w1) hl1 _ hi18.out
 have h18 : (Kc l1).length = 18 := by rw [Kf, hl1]
 have HB1 := Kb HB h1
 have q0 := Ke q0 h1
 have r1 := Ke r1 h1
 have zn1 := zn1.below h1
 have ltq : w.heap.size + 1 + 1 < w1.heap.size := zn1.lt
 clear HB HN r0 zn0 zq h1
 go_upto_region 2 with fail
 refine Kw (P := fun u => Code.wp _ _ _ _ u) ?_
 intro v hv p0 pz hsz
 have q0 := Ke q0 hv
 have r1 := Ke r1 hv
 have zn1 := zn1.below hv
 have HB := Kb HB1 hv
 have hok1 := hid fun (h : b1 = true) => And.intro (hz1 h).1 (fun x hx => ((hz1 h).2 x hx).below hv)
 clear hsz F1 hz1 HB1 hv u32 row32
 cases b1
 ·have HR : Hid (aplE fs gs = (List.replicate 4 0, 1)) := by rw [hAE]; rfl
  clear hAE HCk q0
  go_upto_region 3 with fail
  have ht := Kq r1 zn1
  have ho := all_oneCell_toArray (Km Kt)
  obtain ⟨d28, u28, row28⟩ := T28u
  obtain ⟨G1, G2, G3, G4⟩ := Ju (w := w) (l := Kt) (cs := Kt) u28 row28 T28i HB (by omega) r1 zn1 rfl (fun e he => by rw [List.eq_of_mem_replicate he]; exact ZE.zero_ok _)
  have HF := hid (And.intro G3 G4)
  clear G1 G3 G4
  go_wp2_with (first | refine wpList_store_mid (by rfl) _ _ _ (by rfl) (w.heap.size + 1 + 1) 0 (Kc Kt).toArray (by rfl) (by rfl) ht T28i ho ?_ | fail)
  refine bodyPost_ret (v := .tuple #[.agg (Kc Kt).toArray, .int .i64 1]) ?_ rfl ?_
  ·simp [results, Tryz.results43, Sem.run_bind, asAddr, G2]
  ·rw [HR.out]
   exact ⟨Kt, rfl, rfl, HF.out.2, HF.out.1⟩
 ·obtain ⟨m1, o1⟩ := hok1.out rfl
  have bz1 := (hbz rfl).1
  have e1 : ∀ e ∈ l1, Bz 1280 e.z := fun e he => bz1 e.z (m1 ▸ List.mem_map.2 ⟨e, he, rfl⟩)
  rw [if_pos rfl] at hAE
  clear hok1 hbz
  obtain ⟨g0, g1, rfl⟩ : ∃ a b, gs = [a, b] := by
   match gs, h2_ with
   | [a, b], _ => exact ⟨a, b, rfl⟩
  obtain ⟨a0, A0, x0, k0, b0, B0, y0, l0_⟩ := g0
  obtain ⟨a1, A1, x1, k1, b1, B1, y1, l1_⟩ := g1
  have s0 : v.cell? ⟨w.heap.size + 1, 0, none⟩ = some (.bool a0) := q0 0 _ rfl
  have s1 : v.cell? ⟨w.heap.size + 1, 1, none⟩ = some (.slice A0 x0.length k0) := q0 1 _ rfl
  have s2 : v.cell? ⟨w.heap.size + 1, 2, none⟩ = some (.bool b0) := q0 2 _ rfl
  have s3 : v.cell? ⟨w.heap.size + 1, 3, none⟩ = some (.slice B0 y0.length l0_) := q0 3 _ rfl
  have s4 : v.cell? ⟨w.heap.size + 1, 4, none⟩ = some (.bool a1) := q0 4 _ rfl
  have s5 : v.cell? ⟨w.heap.size + 1, 5, none⟩ = some (.slice A1 x1.length k1) := q0 5 _ rfl
  have s6 : v.cell? ⟨w.heap.size + 1, 6, none⟩ = some (.bool b1) := q0 6 _ rfl
  have s7 : v.cell? ⟨w.heap.size + 1, 7, none⟩ = some (.slice B1 y1.length l1_) := q0 7 _ rfl
  clear q0
  go_upto_region 4 with fail
  go_wp2_with fail
  refine (HCk.out _ (HB.alloc HB.size _) v.heap.size K4).mono ?_
  rintro e w2 ⟨rfl, h2⟩
  have hb2 : Below v.heap.size v w2 := ((Below.refl _ _).alloc (Nat.le_refl _) _).trans (h2.mono (by simp))
  have r1 := Ke r1 hb2
  have zn1 := zn1.below hb2
  have HB := Kb HB hb2
  have p0 := Ke p0 hb2
  have s0 := Ka hb2 s0
  have s1 := Ka hb2 s1
  have s2 := Ka hb2 s2
  have s3 := Ka hb2 s3
  have s4 := Ka hb2 s4
  have s5 := Ka hb2 s5
  have s6 := Ka hb2 s6
  have s7 := Ka hb2 s7
  have o2 : ∀ e ∈ l1, e.ok w2 := fun e he => (o1 e he).below hb2
  clear h2 HCk o1
  by_cases hc : cv = 0
  ·rw [if_pos hc] at hAE
   have hc0 := hCV.out.trans hc
   subst hc
   have hmu := HMg.out w2 HB
   have hbz := G7 (k := 1280) hc0 (by omega) hmu
   obtain ⟨hv, _⟩ := J8 hc0
   obtain ⟨ok1, z1⟩ := Wy _ hv hmu
   have bX : Bz 1280 (sg a0 (val x0)) := (hbz (sg a0 (val x0), val y0) (by simp [Rf.f])).1.2.1
   have bXd : Bz 1280 ((val y0 : Nat) : Int) := Q9 (hbz (sg a0 (val x0), val y0) (by simp [Rf.f])).1.2.2
   have bY : Bz 1280 (sg a1 (val x1)) := (hbz (sg a1 (val x1), val y1) (by simp [Rf.f])).1.2.1
   have bYd : Bz 1280 ((val y1 : Nat) : Int) := Q9 (hbz (sg a1 (val x1), val y1) (by simp [Rf.f])).1.2.2
   have hz : [sg a0 (val x0), sg b0 (val y0), sg a1 (val x1), sg b1 (val y1)] = [sg a0 (val x0), ((val y0 : Nat) : Int), sg a1 (val x1), ((val y1 : Nat) : Int)] := z1
   simp only [List.cons.injEq, and_true, true_and] at hz
   obtain ⟨hD0, hD1⟩ := hz
   have hpt : ptZ (Rf.f ⟨a0, A0, x0, k0, b0, B0, y0, l0_⟩) (Rf.f ⟨a1, A1, x1, k1, b1, B1, y1, l1_⟩) = [sg a0 (val x0) * sg b1 (val y1), sg a1 (val x1) * sg b0 (val y0), sg b0 (val y0) * sg b1 (val y1)] := by rw [hD0, hD1]; rfl
   rw [← hD0] at bXd
   rw [← hD1] at bYd
   have HAE : Hid (aplE fs [⟨a0, A0, x0, k0, b0, B0, y0, l0_⟩, ⟨a1, A1, x1, k1, b1, B1, y1, l1_⟩] = if rowZ N1 [sg a0 (val x0) * sg b1 (val y1), sg a1 (val x1) * sg b0 (val y0), sg b0 (val y0) * sg b1 (val y1)] 2 = 0 then (List.replicate 4 0, 24) else (frZ [(newE (rowZ N1 [sg a0 (val x0) * sg b1 (val y1), sg a1 (val x1) * sg b0 (val y0), sg b0 (val y0) * sg b1 (val y1)] 0) (rowZ N1 [sg a0 (val x0) * sg b1 (val y1), sg a1 (val x1) * sg b0 (val y0), sg b0 (val y0) * sg b1 (val y1)] 2)).1, (newE (rowZ N1 [sg a0 (val x0) * sg b1 (val y1), sg a1 (val x1) * sg b0 (val y0), sg b0 (val y0) * sg b1 (val y1)] 1) (rowZ N1 [sg a0 (val x0) * sg b1 (val y1), sg a1 (val x1) * sg b0 (val y0), sg b0 (val y0) * sg b1 (val y1)] 2)).1], 0)) := by
    have h1 := hAE
    unfold Hid at h1 ⊢
    rw [h1]
    simp only [List.map_cons, List.map_nil, hpt]
   have HH := hid (Gk (ok1 ⟨sg a0 (val x0), a0, x0.length, x0, A0, k0⟩ (by simp [zl, Rf.ze])) (ok1 ⟨sg b0 (val y0), b0, y0.length, y0, B0, l0_⟩ (by simp [zl, Rf.ze])) (ok1 ⟨sg a1 (val x1), a1, x1.length, x1, A1, k1⟩ (by simp [zl, Rf.ze])) (ok1 ⟨sg b1 (val y1), b1, y1.length, y1, B1, l1_⟩ (by simp [zl, Rf.ze])) (k := 1280) (by omega) bX bXd bY bYd)
   dsimp only at HH
   have bv0 := bX.mul bYd
   have bv1 := bY.mul bXd
   have bv2 := bXd.mul bYd
   clear hAE hpt hD0 hD1 z1 hbz bX bXd bY bYd ok1 hv hmu HMg hCV hc0
   generalize sg a0 (val x0) * sg b1 (val y1) = V0 at *
   generalize sg a1 (val x1) * sg b0 (val y0) = V1 at *
   generalize sg b0 (val y0) * sg b1 (val y1) = V2 at *
   simp only [Kc, ZE.cells, List.cons_append, List.nil_append] at HH
   go_upto_region 7 with fail
   go_wp2_with fail
   refine HH.out.mono ?_
   rintro e w3 ⟨l3, rfl, hz3, hok3, h3⟩
   obtain ⟨va, vb, vc, rfl⟩ := three l3 (by simpa using congrArg List.length hz3)
   simp only [List.map_cons, List.map_nil, List.cons.injEq, and_true] at hz3
   obtain ⟨ya, yb, yc⟩ := hz3
   have oa := hok3 va (by simp)
   have ob := hok3 vb (by simp)
   have oc := hok3 vc (by simp)
   obtain ⟨zv0, bb0, nn0, xx0, AA0, cc0⟩ := va
   obtain ⟨zv1, bb1, nn1, xx1, AA1, cc1⟩ := vb
   obtain ⟨zv2, bb2, nn2, xx2, AA2, cc2⟩ := vc
   dsimp only at ya yb yc
   subst ya yb yc
   simp only [Kc, ZE.cells, List.cons_append, List.nil_append]
   go_upto_region 8 with fail
   refine Kw (P := fun u => Code.wp _ _ _ _ u) ?_
   intro v3 hv3 rv zv hsz
   have r1 := Ke (Ke r1 h3) hv3
   have zn1 := (zn1.below h3).below hv3
   have HB := Kb (Kb HB h3) hv3
   have p0 := Ke (Ke p0 h3) hv3
   have o2 : ∀ e ∈ l1, e.ok v3 := fun e he => ((o2 e he).below h3).below hv3
   have oa := oa.below hv3
   have ob := ob.below hv3
   have oc := oc.below hv3
   have rv : v3.rangeAt w3.heap.size 0 (Kc [⟨zv0, bb0, nn0, xx0, AA0, cc0⟩, ⟨zv1, bb1, nn1, xx1, AA1, cc1⟩, ⟨zv2, bb2, nn2, xx2, AA2, cc2⟩]) := rv
   clear hsz zv h3 hv3 hok3 HH s0 s1 s2 s3 s4 s5 s6 s7
   obtain ⟨q0, q1, q2, q3, q4, q5, q6, q7, q8, rfl⟩ := nine l1 hl1
   simp only [List.map_cons, List.map_nil] at m1
   subst m1
   have bq0 := e1 q0 (by simp)
   have oq0 := o2 q0 (by simp)
   have bq1 := e1 q1 (by simp)
   have oq1 := o2 q1 (by simp)
   have bq2 := e1 q2 (by simp)
   have oq2 := o2 q2 (by simp)
   have bq3 := e1 q3 (by simp)
   have oq3 := o2 q3 (by simp)
   have bq4 := e1 q4 (by simp)
   have oq4 := o2 q4 (by simp)
   have bq5 := e1 q5 (by simp)
   have oq5 := o2 q5 (by simp)
   have bq6 := e1 q6 (by simp)
   have oq6 := o2 q6 (by simp)
   have bq7 := e1 q7 (by simp)
   have oq7 := o2 q7 (by simp)
   have bq8 := e1 q8 (by simp)
   have oq8 := o2 q8 (by simp)
   have t0 : v3.rangeAt w1.heap.size 0 (Kc [q0, q1, q2]) := Qm [] [q0, q1, q2] [q3, q4, q5, q6, q7, q8] p0
   have t1 : v3.rangeAt w1.heap.size 6 (Kc [q3, q4, q5]) := Qm [q0, q1, q2] [q3, q4, q5] [q6, q7, q8] p0
   have t2 : v3.rangeAt w1.heap.size 12 (Kc [q6, q7, q8]) := Qm [q0, q1, q2, q3, q4, q5] [q6, q7, q8] [] p0
   have X0 := Bz.dot bq0 bq1 bq2 bv0 bv1 bv2
   have Y0 : q0.z * zv0 + q1.z * zv1 + q2.z * zv2 = rowZ [q0.z, q1.z, q2.z, q3.z, q4.z, q5.z, q6.z, q7.z, q8.z] [zv0, zv1, zv2] 0 := rfl
   obtain ⟨db0, dn0, dL0, DI0⟩ := iz (rowZ [q0.z, q1.z, q2.z, q3.z, q4.z, q5.z, q6.z, q7.z, q8.z] [zv0, zv1, zv2] 0)
   rw [Y0] at X0
   have HD0 := hid fun (W : World) (h : Below v3.heap.size v3 W) (ca cb : Nat) => Hdot_g (w := W) (ca := ca) (cb := cb) (Ke t0 h) (Ke rv h) (oq0.below h) (oq1.below h) (oq2.below h) (oa.below h) (ob.below h) (oc.below h) (bq0.ft (by omega)) (bq1.ft (by omega)) (bq2.ft (by omega)) (bv0.ft (by omega)) (bv1.ft (by omega)) (bv2.ft (by omega)) ((bq0.mul bv0).ft (by omega)) ((bq1.mul bv1).ft (by omega)) ((bq2.mul bv2).ft (by omega)) (((bq0.mul bv0).add (bq1.mul bv1)).ft (by omega)) (X0.ft (by omega)) Y0 DI0.out
   have X1 := Bz.dot bq3 bq4 bq5 bv0 bv1 bv2
   have Y1 : q3.z * zv0 + q4.z * zv1 + q5.z * zv2 = rowZ [q0.z, q1.z, q2.z, q3.z, q4.z, q5.z, q6.z, q7.z, q8.z] [zv0, zv1, zv2] 1 := rfl
   obtain ⟨db1, dn1, dL1, DI1⟩ := iz (rowZ [q0.z, q1.z, q2.z, q3.z, q4.z, q5.z, q6.z, q7.z, q8.z] [zv0, zv1, zv2] 1)
   rw [Y1] at X1
   have HD1 := hid fun (W : World) (h : Below v3.heap.size v3 W) (ca cb : Nat) => Hdot_g (w := W) (ca := ca) (cb := cb) (Ke t1 h) (Ke rv h) (oq3.below h) (oq4.below h) (oq5.below h) (oa.below h) (ob.below h) (oc.below h) (bq3.ft (by omega)) (bq4.ft (by omega)) (bq5.ft (by omega)) (bv0.ft (by omega)) (bv1.ft (by omega)) (bv2.ft (by omega)) ((bq3.mul bv0).ft (by omega)) ((bq4.mul bv1).ft (by omega)) ((bq5.mul bv2).ft (by omega)) (((bq3.mul bv0).add (bq4.mul bv1)).ft (by omega)) (X1.ft (by omega)) Y1 DI1.out
   have X2 := Bz.dot bq6 bq7 bq8 bv0 bv1 bv2
   have Y2 : q6.z * zv0 + q7.z * zv1 + q8.z * zv2 = rowZ [q0.z, q1.z, q2.z, q3.z, q4.z, q5.z, q6.z, q7.z, q8.z] [zv0, zv1, zv2] 2 := rfl
   obtain ⟨db2, dn2, dL2, DI2⟩ := iz (rowZ [q0.z, q1.z, q2.z, q3.z, q4.z, q5.z, q6.z, q7.z, q8.z] [zv0, zv1, zv2] 2)
   rw [Y2] at X2
   have HD2 := hid fun (W : World) (h : Below v3.heap.size v3 W) (ca cb : Nat) => Hdot_g (w := W) (ca := ca) (cb := cb) (Ke t2 h) (Ke rv h) (oq6.below h) (oq7.below h) (oq8.below h) (oa.below h) (ob.below h) (oc.below h) (bq6.ft (by omega)) (bq7.ft (by omega)) (bq8.ft (by omega)) (bv0.ft (by omega)) (bv1.ft (by omega)) (bv2.ft (by omega)) ((bq6.mul bv0).ft (by omega)) ((bq7.mul bv1).ft (by omega)) ((bq8.mul bv2).ft (by omega)) (((bq6.mul bv0).add (bq7.mul bv1)).ft (by omega)) (X2.ft (by omega)) Y2 DI2.out
   clear Y0 Y1 Y2 t0 t1 t2 rv oa ob oc bv0 bv1 bv2 e1 o2 p0 bq0 oq0 bq1 oq1 bq2 oq2 bq3 oq3 bq4 oq4 bq5 oq5 bq6 oq6 bq7 oq7 bq8 oq8
   generalize rowZ [q0.z, q1.z, q2.z, q3.z, q4.z, q5.z, q6.z, q7.z, q8.z] [zv0, zv1, zv2] 0 = W0 at *
   generalize rowZ [q0.z, q1.z, q2.z, q3.z, q4.z, q5.z, q6.z, q7.z, q8.z] [zv0, zv1, zv2] 1 = W1 at *
   generalize rowZ [q0.z, q1.z, q2.z, q3.z, q4.z, q5.z, q6.z, q7.z, q8.z] [zv0, zv1, zv2] 2 = W2 at *
   have ltv := zn1.lt
   go_cut [10] (fun s wx => ∃ g : Nat, s = .pointer (some ⟨g, 0, none⟩) ∧ Blk v3 g [W2] wx)
   case first =>
    have HB0 := Below.refl v3.heap.size v3
    go_region_held3 (fun _ => True) (trivial) ((go_at_call 72; (with_reducible refine (HD2.out _ (Kb HB0 BG) _ _).mono ?_); rintro e v4 ⟨R1, d1, rfl, m1, hq1⟩; have qv1 : Below v3.heap.size v3 v4 := Kb BG hq1; have hs1 := qv1.size; (try refine And.elim (fun ra za => ?_) (Zb hq1)); (try refine And.elim (fun ra za => ?_) (Xr hq1)); (try (refine (fun k0 k1 fa => ?_ : _ → _ → _ → _) (ra 0 _ rfl) (ra 1 _ rfl) (Zn.fr za); simp only [Nat.zero_add] at k0 k1))))
    all_goals
     go_wp2_with fail
     go_meet
    all_goals
     first
     | exact ⟨_, rfl, Blk.new1 (e := ⟨W2, db2, dn2, dL2, R1, d1⟩) qv1 ⟨DI2.out, m1⟩⟩
     | exact ⟨_, rfl, Blk.set1 (e := ⟨W2, db2, dn2, dL2, R1, d1⟩) ra za qv1 (by omega) ⟨DI2.out, m1⟩⟩
   case rest =>
    obtain ⟨gw, rfl, hW⟩ := hcut
    have hWb := hW.b
    obtain ⟨fw, cw, ow, zw⟩ := hW.ex
    obtain ⟨ew, rfl⟩ : ∃ e, fw = [e] := by match fw, zw with | [e], _ => exact ⟨e, rfl⟩
    have ow := ow ew (by simp)
    have zw : ew.z = W2 := by simpa using zw
    have hw0 : ew.n = 0 ↔ W2 = 0 := by rw [ow.i.zero, zw]
    have c0 : wc.cell? ⟨gw, 0, none⟩ = some (.bool ew.b) := cw 0 _ rfl
    have c1 : wc.cell? ⟨gw, 1, none⟩ = some (.slice ew.A ew.n ew.c) := cw 1 _ rfl
    have r1 := Ke r1 hWb
    have zn1 := zn1.below hWb
    have HB := Kb HB hWb
    obtain ⟨tz, htz⟩ : ∃ tz, decide (ew.n = 0) = tz := ⟨_, rfl⟩
    have HZ := hid (W6 (b := ew.b) (n := ew.n) (c := ew.c) (A := ew.A) (w := wc) tz htz)
    clear cw HD2 DI2 hW
    go_wp2_with fail
    refine HZ.out.mono ?_
    rintro e w4 ⟨rfl, h4⟩
    have r1 := Ke r1 h4
    have zn1 := zn1.below h4
    have HB := Kb HB h4
    have c0 := Ka h4 c0
    have c1 := Ka h4 c1
    have ow := ow.below h4
    have hv4 := Kb hWb h4
    clear HZ h4 hWb
    by_cases hz : W2 = 0
    ·obtain rfl : tz = true := by rw [← htz]; simp [hw0, hz]
     rw [if_pos hz] at HAE
     have HR := HAE
     clear HAE c0 c1 ow htz hw0
     go_upto_region 10 with fail
     have ht := Kq r1 zn1
     have ho := all_oneCell_toArray (Km Kt)
     obtain ⟨d28, u28, row28⟩ := T28u
     obtain ⟨G1, G2, G3, G4⟩ := Ju (w := w) (l := Kt) (cs := Kt) u28 row28 T28i HB (by omega) r1 zn1 rfl (fun e he => by rw [List.eq_of_mem_replicate he]; exact ZE.zero_ok _)
     have HF := hid (And.intro G3 G4)
     clear G1 G3 G4
     go_wp2_with (first | refine wpList_store_mid (by rfl) _ _ _ (by rfl) (w.heap.size + 1 + 1) 0 (Kc Kt).toArray (by rfl) (by rfl) ht T28i ho ?_ | fail)
     refine bodyPost_ret (v := .tuple #[.agg (Kc Kt).toArray, .int .i64 24]) ?_ rfl ?_
     ·simp [results, Tryz.results43, Sem.run_bind, asAddr, G2]
     ·rw [HR.out]
      exact ⟨Kt, rfl, rfl, HF.out.2, HF.out.1⟩
    ·obtain rfl : tz = false := by rw [← htz]; simp [hw0, hz]
     rw [if_neg hz] at HAE
     obtain ⟨nx0, nf0, _⟩ := U0 X0 X2 hz (by omega)
     obtain ⟨ny0, nf1, _⟩ := U0 X1 X2 hz (by omega)
     have fW := X2.ft (show 1280 + (1280 + 1280) + 2 ≤ 16384 by omega)
     have f0 := X0.ft (show 1280 + (1280 + 1280) + 2 ≤ 16384 by omega)
     have f1 := X1.ft (show 1280 + (1280 + 1280) + 2 ≤ 16384 by omega)
     rw [← zw] at fW nx0 ny0 HAE
     obtain ⟨Pb, Pk, PL, Pl, PY, PI⟩ := fz (newE W0 ew.z).1
     have HN0 := hid fun (W : World) (h : Below w4.heap.size w4 W) (R : Option Addr) (c : Nat) (m : Mg W R c dL0) => (HNew_g (w := W) DI0.out ow.i m (ow.m.below h) f0 fW).mono (R' := GF W Pb Pk PL Pl PY 0) fun e w' h => by have := Yd.g h PI.out; rwa [nx0] at this
     obtain ⟨Qb, Qk, QL, Ql, QY, QI⟩ := fz (newE W1 ew.z).1
     have HN1 := hid fun (W : World) (h : Below w4.heap.size w4 W) (R : Option Addr) (c : Nat) (m : Mg W R c dL1) => (HNew_g (w := W) DI1.out ow.i m (ow.m.below h) f1 fW).mono (R' := GF W Qb Qk QL Ql QY 0) fun e w' h => by have := Yd.g h QI.out; rwa [ny0] at this
     clear nx0 ny0 nf0 nf1 fW f0 f1 X0 X1 X2 hw0 htz
     have HD0 := hid fun (W : World) (h : Below w4.heap.size w4 W) (ca cb : Nat) => HD0.out W (Kb hv4 h) ca cb
     have HD1 := hid fun (W : World) (h : Below w4.heap.size w4 W) (ca cb : Nat) => HD1.out W (Kb hv4 h) ca cb
     have ltv := zn1.lt
     obtain ⟨ez, eb, en, exs, eA, ec⟩ := ew
     dsimp only at *
     go_upto_region 11 with fail
     go_cut [11, 12] (fun s t wx => t = .int .i64 0 ∧ ∃ g : Nat, s = .pointer (some ⟨g, 0, none⟩) ∧ Blk w4 g [(newE W0 ez).1.1, ((newE W0 ez).1.2 : Int)] wx)
     case first =>
      have HB0 := Below.refl w4.heap.size w4
      have ltg := Kd c0
      go_region_held3 (fun w' => w'.cell? ⟨gw, 0, none⟩ = some (.bool eb) ∧ w'.cell? ⟨gw, 1, none⟩ = some (.slice eA en ec)) (first | ((try dsimp only); repeat' (first | with_reducible assumption | apply And.intro | (with_reducible refine Kk ?_) | (with_reducible refine Kn ?_) | (with_reducible refine Kh (by omega) ?_) | (with_reducible refine Kp (by omega) ?_) | (with_reducible refine Ka (W := w4) ?_ ?_) | fail))) (first | (go_at_call 72; (with_reducible refine (HD0.out _ (Kb HB0 BG) _ _).mono ?_); rintro e v5 ⟨R1, d1, rfl, m1, hq1⟩; have qv1 : Below w4.heap.size w4 v5 := Kb BG hq1; have hs1 := qv1.size; (try refine And.elim (fun ra za => ?_) (Zb hq1)); (try refine And.elim (fun ra za => ?_) (Xr hq1))) | (go_at_call 74; (with_reducible refine (HN0.out _ (Kb HB0 BG) _ _ (m1.below BG)).mono ?_); rintro e v6 ⟨R2, d2, R3, d3, rfl, m2, m3, hq2⟩; have qv2 : Below w4.heap.size w4 v6 := Kb BG hq2; have hs2 := qv2.size; have wv2 : Below v5.heap.size v5 v6 := Kb BG hq2; have hp2 := wv2.size; (try refine (fun ra za => ?_ : _ → _ → _) (Ke ra wv2) (Zn.below za wv2)); (try refine And.elim (fun ra za => ?_) (Zb hq2)); (try refine And.elim (fun ra za => ?_) (Xr hq2)); (try (refine (fun k0 k1 k2 k3 fa => ?_ : _ → _ → _ → _ → _ → _) (ra 0 _ rfl) (ra 1 _ rfl) (ra 2 _ rfl) (ra 3 _ rfl) (Zn.fr za); simp only [Nat.zero_add] at k0 k1 k2 k3))))
      all_goals
       go_wp2_with fail
       go_meet
      all_goals
       first
       | exact ⟨rfl, _, rfl, Blk.new2 (e := ⟨_, Pb, Pk, PL, R2, d2⟩) (f := ⟨_, false, Pl, PY, R3, d3⟩) qv2 ⟨PI.out.num, m2⟩ ⟨PI.out.den, m3⟩⟩
       | exact ⟨rfl, _, rfl, Blk.set2 (e := ⟨_, Pb, Pk, PL, R2, d2⟩) (f := ⟨_, false, Pl, PY, R3, d3⟩) ra za qv2 (by omega) ⟨PI.out.num, m2⟩ ⟨PI.out.den, m3⟩⟩
     case rest =>
      obtain ⟨rfl, gx, rfl, hX⟩ := hcut
      have hXb := hX.b
      have r1 := Ke r1 hXb
      have zn1 := zn1.below hXb
      have HB := Kb HB hXb
      have c0 := Ka hXb c0
      have c1 := Ka hXb c1
      have ltv := zn1.lt
      obtain ⟨wX, hwX⟩ : ∃ wX : World, wX = wc := ⟨_, rfl⟩
      rw [← hwX] at hX hXb HB r1 zn1 c0 c1 ltv ⊢
      clear hwX
      go_upto_region 14 with fail
      go_cut [13, 12] (fun s t wx => t = .int .i64 0 ∧ ∃ g : Nat, s = .pointer (some ⟨g, 0, none⟩) ∧ Blk wX g [(newE W1 ez).1.1, ((newE W1 ez).1.2 : Int)] wx)
      case first =>
       have HB0 := Below.refl wX.heap.size wX
       have ltg := Kd c0
       go_region_held3 (fun w' => w'.cell? ⟨gw, 0, none⟩ = some (.bool eb) ∧ w'.cell? ⟨gw, 1, none⟩ = some (.slice eA en ec)) (first | ((try dsimp only); repeat' (first | with_reducible assumption | apply And.intro | (with_reducible refine Kk ?_) | (with_reducible refine Kn ?_) | (with_reducible refine Kh (by omega) ?_) | (with_reducible refine Kp (by omega) ?_) | (with_reducible refine Ka (W := wX) ?_ ?_) | fail))) (first | (go_at_call 72; (with_reducible refine (HD1.out _ (Kb hXb (Kb HB0 BG)) _ _).mono ?_); rintro e v5 ⟨R1, d1, rfl, m1, hq1⟩; have qv1 : Below wX.heap.size wX v5 := Kb BG hq1; have hs1 := qv1.size; (try refine And.elim (fun ra za => ?_) (Zb hq1)); (try refine And.elim (fun ra za => ?_) (Xr hq1))) | (go_at_call 74; (with_reducible refine (HN1.out _ (Kb hXb (Kb HB0 BG)) _ _ (m1.below BG)).mono ?_); rintro e v6 ⟨R2, d2, R3, d3, rfl, m2, m3, hq2⟩; have qv2 : Below wX.heap.size wX v6 := Kb BG hq2; have hs2 := qv2.size; have wv2 : Below v5.heap.size v5 v6 := Kb BG hq2; have hp2 := wv2.size; (try refine (fun ra za => ?_ : _ → _ → _) (Ke ra wv2) (Zn.below za wv2)); (try refine And.elim (fun ra za => ?_) (Zb hq2)); (try refine And.elim (fun ra za => ?_) (Xr hq2)); (try (refine (fun k0 k1 k2 k3 fa => ?_ : _ → _ → _ → _ → _ → _) (ra 0 _ rfl) (ra 1 _ rfl) (ra 2 _ rfl) (ra 3 _ rfl) (Zn.fr za); simp only [Nat.zero_add] at k0 k1 k2 k3))))
       all_goals
        go_wp2_with fail
        go_meet
       all_goals
        first
        | exact ⟨rfl, _, rfl, Blk.new2 (e := ⟨_, Qb, Qk, QL, R2, d2⟩) (f := ⟨_, false, Ql, QY, R3, d3⟩) qv2 ⟨QI.out.num, m2⟩ ⟨QI.out.den, m3⟩⟩
        | exact ⟨rfl, _, rfl, Blk.set2 (e := ⟨_, Qb, Qk, QL, R2, d2⟩) (f := ⟨_, false, Ql, QY, R3, d3⟩) ra za qv2 (by omega) ⟨QI.out.num, m2⟩ ⟨QI.out.den, m3⟩⟩
      case rest =>
       obtain ⟨rfl, gy, rfl, hY⟩ := hcut
       have hYb := hY.b
       have hX := hX.below hYb
       have r1 := Ke r1 hYb
       have zn1 := zn1.below hYb
       have HB := Kb HB hYb
       obtain ⟨fx, cx, ox, zx⟩ := hX.ex
       obtain ⟨fy, cy, oy, zy⟩ := hY.ex
       obtain ⟨ex0, ex1, rfl⟩ : ∃ a b, fx = [a, b] := two_of (by simpa using congrArg List.length zx)
       obtain ⟨ey0, ey1, rfl⟩ : ∃ a b, fy = [a, b] := two_of (by simpa using congrArg List.length zy)
       have ox0 := ox ex0 (by simp)
       have ox1 := ox ex1 (by simp)
       have oy0 := oy ey0 (by simp)
       have oy1 := oy ey1 (by simp)
       simp only [List.map_cons, List.map_nil, List.cons.injEq, and_true] at zx zy
       have i0 : wc.cell? ⟨gx, 0, none⟩ = some (.bool ex0.b) := cx 0 _ rfl
       have i1 : wc.cell? ⟨gx, 1, none⟩ = some (.slice ex0.A ex0.n ex0.c) := cx 1 _ rfl
       have i2 : wc.cell? ⟨gx, 2, none⟩ = some (.bool ex1.b) := cx 2 _ rfl
       have i3 : wc.cell? ⟨gx, 3, none⟩ = some (.slice ex1.A ex1.n ex1.c) := cx 3 _ rfl
       have j0 : wc.cell? ⟨gy, 0, none⟩ = some (.bool ey0.b) := cy 0 _ rfl
       have j1 : wc.cell? ⟨gy, 1, none⟩ = some (.slice ey0.A ey0.n ey0.c) := cy 1 _ rfl
       have j2 : wc.cell? ⟨gy, 2, none⟩ = some (.bool ey1.b) := cy 2 _ rfl
       have j3 : wc.cell? ⟨gy, 3, none⟩ = some (.slice ey1.A ey1.n ey1.c) := cy 3 _ rfl
       have HR : Hid (aplE fs [⟨a0, A0, x0, k0, b0, B0, y0, l0_⟩, ⟨a1, A1, x1, k1, b1, B1, y1, l1_⟩] = ([ex0.z, ex1.z, ey0.z, ey1.z], 0)) := by
        unfold Hid at HAE ⊢
        rw [HAE, zx.1, zx.2, zy.1, zy.2]
        rfl
       have F := Gf (w := w) (l := [ex0, ex1, ey0, ey1]) HB (by omega) r1 zn1 rfl (Js Kt) (by
        intro e he
        simp only [List.mem_cons, List.not_mem_nil, or_false] at he
        rcases he with rfl | rfl | rfl | rfl
        ·exact ox0
        ·exact ox1
        ·exact oy0
        ·exact oy1)
       obtain ⟨F1, F2, F3, F4⟩ := F
       have n0 : wc.cell? ⟨w.heap.size + 1 + 1, 0, none⟩ = some (.bool false) := r1 0 _ rfl
       have n1 : wc.cell? ⟨w.heap.size + 1 + 1, 1, none⟩ = some (.slice none 0 0) := r1 1 _ rfl
       have n2 : wc.cell? ⟨w.heap.size + 1 + 1, 2, none⟩ = some (.bool false) := r1 2 _ rfl
       have n3 : wc.cell? ⟨w.heap.size + 1 + 1, 3, none⟩ = some (.slice none 0 0) := r1 3 _ rfl
       have n4 : wc.cell? ⟨w.heap.size + 1 + 1, 4, none⟩ = some (.bool false) := r1 4 _ rfl
       have n5 : wc.cell? ⟨w.heap.size + 1 + 1, 5, none⟩ = some (.slice none 0 0) := r1 5 _ rfl
       have n6 : wc.cell? ⟨w.heap.size + 1 + 1, 6, none⟩ = some (.bool false) := r1 6 _ rfl
       have n7 : wc.cell? ⟨w.heap.size + 1 + 1, 7, none⟩ = some (.slice none 0 0) := r1 7 _ rfl
       have fz1 := zn1.fr
       clear HAE zx zy hX hY cx cy ox oy ox0 ox1 oy0 oy1 HD0 HD1 HN0 HN1 PI QI c0 c1 r1
       go_wp2
       simp only [Kc, ZE.cells, List.cons_append, List.nil_append, World.setCells, Nat.zero_add, Nat.reduceAdd] at F1 F2 F3
       have p0 := F2 0 _ rfl
       have p1 := F2 1 _ rfl
       have p2 := F2 2 _ rfl
       have p3 := F2 3 _ rfl
       have p4 := F2 4 _ rfl
       have p5 := F2 5 _ rfl
       have p6 := F2 6 _ rfl
       have p7 := F2 7 _ rfl
       simp only [Nat.zero_add] at p0 p1 p2 p3 p4 p5 p6 p7
       refine bodyPost_ret (v := .tuple #[.agg #[.bool ex0.b, .slice ex0.A ex0.n ex0.c, .bool ex1.b, .slice ex1.A ex1.n ex1.c, .bool ey0.b, .slice ey0.A ey0.n ey0.c, .bool ey1.b, .slice ey1.A ey1.n ey1.c], .int .i64 0]) ?_ rfl ?_
       ·simp [results, Tryz.results43, go_sem, p0, p1, p2, p3, p4, p5, p6, p7]
       ·rw [HR.out]
        exact ⟨[ex0, ex1, ey0, ey1], rfl, rfl, F3, F1⟩
  ·rw [if_neg hc] at hAE
   have HR : Hid (aplE fs [⟨a0, A0, x0, k0, b0, B0, y0, l0_⟩, ⟨a1, A1, x1, k1, b1, B1, y1, l1_⟩] = (List.replicate 4 0, cv)) := hAE
   clear hAE s0 s1 s2 s3 s4 s5 s6 s7 HMg hCV o2
   go_upto_region 6 with fail
   have ht := Kq r1 zn1
   have ho := all_oneCell_toArray (Km Kt)
   obtain ⟨d28, u28, row28⟩ := T28u
   obtain ⟨G1, G2, G3, G4⟩ := Ju (w := w) (l := Kt) (cs := Kt) u28 row28 T28i HB (by omega) r1 zn1 rfl (fun e he => by rw [List.eq_of_mem_replicate he]; exact ZE.zero_ok _)
   have HF := hid (And.intro G3 G4)
   clear G1 G3 G4
   go_wp2_with (first | refine wpList_store_mid (by rfl) _ _ _ (by rfl) (w.heap.size + 1 + 1) 0 (Kc Kt).toArray (by rfl) (by rfl) ht T28i ho ?_ | fail)
   refine bodyPost_ret (v := .tuple #[.agg (Kc Kt).toArray, .int .i64 cv]) ?_ rfl ?_
   ·simp [results, Tryz.results43, Sem.run_bind, asAddr, G2]
   ·rw [HR.out]
    exact ⟨Kt, rfl, rfl, HF.out.2, HF.out.1⟩
end Go.Proofs.YtdkgbkbbbldliaaGreat
