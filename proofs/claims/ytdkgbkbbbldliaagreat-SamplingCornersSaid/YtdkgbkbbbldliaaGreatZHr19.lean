/- Homographies, the reference: walk of Apply. Conditions: none. -/
import Derived.Test.YtdkgbkbbbldliaaGreatZYI
import Derived.Test.YtdkgbkbbbldliaaGreatZXC
import Derived.Test.YtdkgbkbbbldliaaGreatZHm22
import Derived.Test.YtdkgbkbbbldliaaGreatZXD
import Derived.Test.YtdkgbkbbbldliaaGreatZXG
import Derived.Test.YtdkgbkbbbldliaaGreatZYZ
set_option linter.unusedVariables false
set_option linter.unusedSimpArgs false
namespace Go.Proofs.YtdkgbkbbbldliaaGreat
open Go.RowKit Big
theorem HQNew_g {z y : Int} {b b' : Bool} {n n' : Nat} {xs ys : List Nat} {A B : Option Addr} {c d : Nat} {w : World} (hx : Iz z b n xs) (hy : Iz y b' n' ys) (ha : Mg w A c xs) (hb : Mg w B d ys) (fx : fits z) (fy : fits y) :
  Calls Tryz.prog 54 #[.agg #[.bool b, .slice A n c], .agg #[.bool b', .slice B n' d]] w (Yd w (newE z y)) := by
 obtain ⟨rfl, rfl, rfl⟩ := hx
 obtain ⟨rfl, rfl, rfl⟩ := hy
 rw [← Dv z y fx fy]
 exact QNew_any ha hb
set_option maxRecDepth 100000 in
set_option maxHeartbeats 8000000 in
theorem HRApply_g (fs gs : List Rf) (h9 : fs.length = 9) (h2_ : gs.length = 2) {w : World} (hm : ∀ f ∈ fs, f.mg w) (hm' : ∀ f ∈ gs, f.mg w) :
  Calls Tryz.prog 45 #[.agg (Kc (zl fs)).toArray, .agg (Kc (zl gs)).toArray] w (RetPE w (aplE fs gs)) := by
 have hl : (zl fs).length = 18 := by rw [Ky, h9]
 obtain ⟨d32, u32, row32⟩ := T32u
 obtain ⟨d28, u28, row28⟩ := T28u
 have hi := hid (show (Tryz.prog.info? 32).map (·.size) = some (Kc (zl fs)).length by rw [Kf, hl]; exact T32i)
 have hi18 := hid (show (Tryz.prog.info? 94).map (·.size) = some 18 by kernel_rfl)
 have HN := hid fun (w1 : World) (h : Below w.heap.size w w1) => Zp fs h9 (w := w1) (fun f hf => (hm f hf).below h)
 obtain ⟨gx, gy, rfl⟩ := two_of h2_
 have HMg := hid fun (W : World) (h : Below w.heap.size w W) f (hf : f ∈ [gx, gy]) => (hm' f hf).below h
 have HRi := hid fun (W : World) (h : Below w.heap.size w W) => HRright_g gx gy (w := W) ((hm' gx (by simp)).below h) ((hm' gy (by simp)).below h)
 have hi8 := hid (show (Tryz.prog.info? 42).map (·.size) = some (Kc (zl [gx, gy])).length from T28i)
 have hnl := Jf h9
 have hbz := Zo (fs := fs)
 have hAE : Hid (aplE fs [gx, gy] = if nrmB fs then
  (if chkZ 40 [gx, gy] = 0 then
   (if rowZ (nrmZ fs) (ptZ gx.f gy.f) 2 = 0 then (List.replicate 4 0, 24) else (frZ [(newE (rowZ (nrmZ fs) (ptZ gx.f gy.f) 0) (rowZ (nrmZ fs) (ptZ gx.f gy.f) 2)).1, (newE (rowZ (nrmZ fs) (ptZ gx.f gy.f) 1) (rowZ (nrmZ fs) (ptZ gx.f gy.f) 2)).1], 0))
   else (List.replicate 4 0, chkZ 40 [gx, gy]))
 else (List.replicate 4 0, 1)) := rfl
 have hck : Hid (chkZ 40 [gx, gy] = if gx.v && gy.v then (if decide (gx.sz ≤ 40) && decide (gy.sz ≤ 40) then 0 else 4) else 1) := by
  unfold Hid chkZ
  simp only [List.all_cons, List.all_nil, Bool.and_true]
 obtain ⟨vv, hvv⟩ : ∃ v, (gx.v && gy.v) = v := ⟨_, rfl⟩
 rw [hvv] at HRi hck
 have hVV := hid hvv
 clear hm hm' hvv h2_
 generalize nrmB fs = b1 at *
 generalize nrmZ fs = N1 at *
 go_enter Tryz.func45, Tryz.ntmps45
 go_upto_region 1 with fail
 refine X5 (P := fun u => Code.wp _ _ _ _ u) ?_
 intro u HB r0 q0 r1 zn0 zq zn1 hsz
 have r1 : u.rangeAt (w.heap.size + 1 + 1) 0 (Kc Kt) := r1
 clear hsz
 go_wp2_with (first | refine wpList_load_mid (by rfl) _ _ (by rfl) w.heap.size 0 (by rfl) (Kc (zl fs)) _ r0 u32 row32 hi.out ?_ | fail)
 refine (HN.out u HB).mono ?_
 rintro e w1 ⟨l1, hl1, rfl, hz1, h1⟩
 have F1 := Jt (w := w1) hl1 _ hi18.out
 have h18 : (Kc l1).length = 18 := by rw [Kf, hl1]
 have HB1 := Kb HB h1
 have q0 := Ke q0 h1
 have r1 := Ke r1 h1
 have zn1 := zn1.below h1
 have ltq : w.heap.size + 1 + 1 < w1.heap.size := zn1.lt
 clear HB HN r0 zn0 zq h1
 go_upto_region 2 with fail
 refine Kw (P := fun u => Code.wp _ _ _ _ u) ?_
 intro v hv p0 pz hsz
 have q0 := Ke q0 hv
 have r1 := Ke r1 hv
 have zn1 := zn1.below hv
 have HB := Kb HB1 hv
 have hok1 := hid fun (h : b1 = true) => And.intro (hz1 h).1 (fun x hx => ((hz1 h).2 x hx).below hv)
 clear hsz F1 hz1 HB1 hv u32 row32
 cases b1
 ·have HR : Hid (aplE fs [gx, gy] = (List.replicate 4 0, 1)) := by rw [hAE]; rfl
  clear hAE HRi q0
  go_upto_region 3 with fail
  have ht := Kq r1 zn1
  have ho := all_oneCell_toArray (Km Kt)
  obtain ⟨d28, u28, row28⟩ := T28u
  obtain ⟨G1, G2, G3, G4⟩ := Ju (w := w) (l := Kt) (cs := Kt) u28 row28 T28i HB (by omega) r1 zn1 rfl (fun e he => by rw [List.eq_of_mem_replicate he]; exact ZE.zero_ok _)
  have HF := hid (And.intro G3 G4)
  clear G1 G3 G4
  go_wp2_with (first | refine wpList_store_mid (by rfl) _ _ _ (by rfl) (w.heap.size + 1 + 1) 0 (Kc Kt).toArray (by rfl) (by rfl) ht T28i ho ?_ | fail)
  refine bodyPost_ret (v := .tuple #[.agg (Kc Kt).toArray, .int .i64 1]) ?_ rfl ?_
  ·simp [results, Tryz.results45, Sem.run_bind, asAddr, G2]
  ·rw [HR.out]
   exact ⟨Kt, rfl, rfl, HF.out.2, HF.out.1⟩
 ·obtain ⟨m1, o1⟩ := hok1.out rfl
  have bz1 := (hbz rfl).1
  have e1 : ∀ e ∈ l1, Bz 1280 e.z := fun e he => bz1 e.z (m1 ▸ List.mem_map.2 ⟨e, he, rfl⟩)
  rw [if_pos rfl] at hAE
  clear hok1 hbz
  go_wp2_with (first | refine Jg (by rfl) _ _ (by rfl) (w.heap.size + 1) 0 (by rfl) (Kc (zl [gx, gy])) _ q0 u28 row28 hi8.out ?_ | fail)
  refine (HRi.out v HB).mono ?_
  rintro e w2 ⟨rfl, h2⟩
  have r1 := Ke r1 h2
  have zn1 := zn1.below h2
  have HB := Kb HB h2
  have p0 := Ke p0 h2
  have pz := pz.below h2
  have q0 := Ke q0 h2
  have o2 : ∀ e ∈ l1, e.ok w2 := fun e he => (o1 e he).below h2
  clear h2 HRi o1
  cases vv
  ·have HR : Hid (aplE fs [gx, gy] = (List.replicate 4 0, 1)) := by rw [hAE, hck]; rfl
   clear hAE q0
   go_upto_region 3 with fail
   have ht := Kq r1 zn1
   have ho := all_oneCell_toArray (Km Kt)
   obtain ⟨d28, u28, row28⟩ := T28u
   obtain ⟨G1, G2, G3, G4⟩ := Ju (w := w) (l := Kt) (cs := Kt) u28 row28 T28i HB (by omega) r1 zn1 rfl (fun e he => by rw [List.eq_of_mem_replicate he]; exact ZE.zero_ok _)
   have HF := hid (And.intro G3 G4)
   clear G1 G3 G4
   go_wp2_with (first | refine wpList_store_mid (by rfl) _ _ _ (by rfl) (w.heap.size + 1 + 1) 0 (Kc Kt).toArray (by rfl) (by rfl) ht T28i ho ?_ | fail)
   refine bodyPost_ret (v := .tuple #[.agg (Kc Kt).toArray, .int .i64 1]) ?_ rfl ?_
   ·simp [results, Tryz.results45, Sem.run_bind, asAddr, G2]
   ·rw [HR.out]
    exact ⟨Kt, rfl, rfl, HF.out.2, HF.out.1⟩
  ·rw [if_pos rfl] at hck
   have hgx := HMg.out w2 HB gx (by simp)
   have hgy := HMg.out w2 HB gy (by simp)
   have HSx := hid fun (W : World) (h : Below w2.heap.size w2 W) => HRsz gx (hgx.below h)
   have HSy := hid fun (W : World) (h : Below w2.heap.size w2 W) => (show Calls Tryz.prog 28 #[.agg #[.bool gy.na, .slice gy.A gy.xs.length gy.ca, .bool gy.nb, .slice gy.B gy.ys.length gy.cb]] W (RetI W (gy.sz : Int)) from HRsz gy (hgy.below h))
   have hCx := hid (show chkZ 40 [gx, gy] = 0 ↔ gx.sz ≤ 40 ∧ gy.sz ≤ 40 by
    have h := hck
    unfold Hid at h
    rw [h]
    constructor
    ·intro h
     split at h
     ·rename_i h'; simpa using h'
     ·simp at h
    ·intro h; rw [if_pos (by simpa using h)])
   obtain ⟨d26, hU26, row26⟩ := Q26u
   have qx : w2.rangeAt (w.heap.size + 1) 0 (Kc gx.ze) := Qm [] gx.ze (gy.ze ++ []) q0
   have qy : w2.rangeAt (w.heap.size + 1) 4 (Kc gy.ze) := Qm gx.ze gy.ze [] q0
   generalize gx.sz = sx at *
   generalize gy.sz = sy at *
   have hBw := Below.refl w2.heap.size w2
   clear hgx hgy
   by_cases hsx : sx ≤ 40
   ·have hsxi : (sx : Int) ≤ 40 := by omega
    go_wp2_with (first | refine wpList_load_mid (by rfl) _ _ (by rfl) (w.heap.size + 1) 0 (by rfl) (Kc gx.ze) _ qx hU26 row26 Q26i ?_ | fail)
    refine (HSx.out w2 hBw).mono ?_
    rintro e w3 ⟨rfl, h3⟩
    have qy := Ke qy h3
    have c4 : w3.cell? ⟨w.heap.size + 1, 4, none⟩ = some (.bool gy.na) := qy 0 _ rfl
    have c5 : w3.cell? ⟨w.heap.size + 1, 5, none⟩ = some (.slice gy.A gy.xs.length gy.ca) := qy 1 _ rfl
    have c6 : w3.cell? ⟨w.heap.size + 1, 6, none⟩ = some (.bool gy.nb) := qy 2 _ rfl
    have c7 : w3.cell? ⟨w.heap.size + 1, 7, none⟩ = some (.slice gy.B gy.ys.length gy.cb) := qy 3 _ rfl
    by_cases hsy : sy ≤ 40
    ·have hsyi : (sy : Int) ≤ 40 := by omega
     have hc0 := hid (hCx.out.2 ⟨hsx, hsy⟩)
     rw [if_pos hc0.out] at hAE
     go_wp2_with fail
     refine (HSy.out w3 h3).mono ?_
     rintro e w4 ⟨rfl, h4⟩
     have h4 := Kb h3 h4
     have r1 := Ke r1 h4
     have zn1 := zn1.below h4
     have HB := Kb HB h4
     have p0 := Ke p0 h4
     have pz := pz.below h4
     have q0 := Ke q0 h4
     have o2 : ∀ e ∈ l1, e.ok w4 := fun e he => (o2 e he).below h4
     clear qx qy h3 c4 c5 c6 c7 HSx HSy hCx hBw
     have hmu := HMg.out w4 HB
     have hbz := G7 (k := 1280) hc0.out (by omega) hmu
     obtain ⟨hv_, _⟩ := J8 hc0.out
     obtain ⟨ok1, z1⟩ := Wy _ hv_ hmu
     have bX := (hbz gx.f (by simp)).1.2.1
     have bXd := Q9 (hbz gx.f (by simp)).1.2.2
     have bY := (hbz gy.f (by simp)).1.2.1
     have bYd := Q9 (hbz gy.f (by simp)).1.2.2
     have hz : [sg gx.na (val gx.xs), sg gx.nb (val gx.ys), sg gy.na (val gy.xs), sg gy.nb (val gy.ys)] = [gx.f.1, (gx.f.2 : Int), gy.f.1, (gy.f.2 : Int)] := z1
     simp only [List.cons.injEq, and_true] at hz
     obtain ⟨hN0, hD0, hN1, hD1⟩ := hz
     have HH := hid (show Calls Tryz.prog 77 #[.agg (Kc (zl [gx, gy])).toArray] w4 _ from U4 (e0 := ⟨sg gx.na (val gx.xs), gx.na, gx.xs.length, gx.xs, gx.A, gx.ca⟩) (e1 := ⟨sg gx.nb (val gx.ys), gx.nb, gx.ys.length, gx.ys, gx.B, gx.cb⟩) (e2 := ⟨sg gy.na (val gy.xs), gy.na, gy.xs.length, gy.xs, gy.A, gy.ca⟩) (e3 := ⟨sg gy.nb (val gy.ys), gy.nb, gy.ys.length, gy.ys, gy.B, gy.cb⟩) (ok1 _ (by simp [zl, Rf.ze])) (ok1 _ (by simp [zl, Rf.ze])) (ok1 _ (by simp [zl, Rf.ze])) (ok1 _ (by simp [zl, Rf.ze])) (k := 1280) (by omega) (by dsimp only; rw [hN0]; exact bX) (by dsimp only; rw [hD0]; exact bXd) (by dsimp only; rw [hN1]; exact bY) (by dsimp only; rw [hD1]; exact bYd))
     dsimp only at HH
     rw [hN0, hD0, hN1, hD1] at HH
     have bv0 := bX.mul bYd
     have bv1 := bY.mul bXd
     have bv2 := bXd.mul bYd
     rw [show ptZ gx.f gy.f = [gx.f.1 * (gy.f.2 : Int), gy.f.1 * (gx.f.2 : Int), (gx.f.2 : Int) * gy.f.2] from rfl] at hAE
     clear hN0 hD0 hN1 hD1 z1 hbz bX bXd bY bYd ok1 hv_ hmu HMg hck hc0 hVV
     generalize gx.f.1 * (gy.f.2 : Int) = V0 at *
     generalize gy.f.1 * (gx.f.2 : Int) = V1 at *
     generalize (gx.f.2 : Int) * gy.f.2 = V2 at *
     go_wp2_with (first | refine wpList_load_mid (by rfl) _ _ (by rfl) (w.heap.size + 1) 0 (by rfl) (Kc (zl [gx, gy])) _ q0 u28 row28 hi8.out ?_ | fail)
     refine HH.out.mono ?_
     rintro e w5 ⟨l3, rfl, hz3, hok3, h5⟩
     obtain ⟨va, vb, vc, rfl⟩ := three l3 (by simpa using congrArg List.length hz3)
     simp only [List.map_cons, List.map_nil, List.cons.injEq, and_true] at hz3
     obtain ⟨ya, yb, yc⟩ := hz3
     have oa := hok3 va (by simp)
     have ob := hok3 vb (by simp)
     have oc := hok3 vc (by simp)
     obtain ⟨zv0, bb0, nn0, xx0, AA0, cc0⟩ := va
     obtain ⟨zv1, bb1, nn1, xx1, AA1, cc1⟩ := vb
     obtain ⟨zv2, bb2, nn2, xx2, AA2, cc2⟩ := vc
     dsimp only at ya yb yc
     subst ya yb yc
     simp only [Kc, ZE.cells, List.cons_append, List.nil_append]
     go_upto_region 8 with fail
     refine Jc (P := fun u => Code.wp _ _ _ _ u) ?_
     intro v3 hv3 rv rw_ zv zw hsz
     have hq := Kb h5 hv3
     have ltg := pz.lt
     have ls5 := h5.size
     have p0 := Ke p0 hq
     have pz := pz.below hq
     have r1 := Ke r1 hq
     have zn1 := zn1.below hq
     have HB := Kb HB hq
     have o2 : ∀ e ∈ l1, e.ok w5 := fun e he => (o2 e he).below h5
     have hsw := HB.size
     subst m1
     obtain ⟨W3, hW3⟩ : ∃ W, W = [rowZ (l1.map (·.z)) [zv0, zv1, zv2] 0, rowZ (l1.map (·.z)) [zv0, zv1, zv2] 1, rowZ (l1.map (·.z)) [zv0, zv1, zv2] 2] := ⟨_, rfl⟩
     have hW3l : W3.length = 3 := by rw [hW3]; rfl
     have hW3i : Hid (∀ (i : Nat) (h : i < W3.length), W3[i] = rowZ (l1.map (·.z)) [zv0, zv1, zv2] i) := by
      subst hW3
      intro i h
      match i, h with
      | 0, _ => rfl
      | 1, _ => rfl
      | 2, _ => rfl
     have hF : Fil w [(w1.heap.size, Kc l1), (w5.heap.size, Kc [⟨zv0, bb0, nn0, xx0, AA0, cc0⟩, ⟨zv1, bb1, nn1, xx1, AA1, cc1⟩, ⟨zv2, bb2, nn2, xx2, AA2, cc2⟩]), (w.heap.size + 1 + 1, Kc Kt)] (w5.heap.size + 1) (sofar W3 0) v3 := ⟨HB, by
      intro p hp
      simp only [List.mem_cons, List.not_mem_nil, or_false] at hp
      rcases hp with rfl | rfl | rfl
      ·exact ⟨p0, pz, by dsimp only; omega⟩
      ·exact ⟨rv, zv, by dsimp only; omega⟩
      ·exact ⟨r1, zn1, by dsimp only; omega⟩, zw, by omega, zeros3, rw_, fun e he => by rw [List.eq_of_mem_replicate he]; exact ZE.zero_ok _, by rw [Zd, hW3l]; rfl⟩
     have HOl := hid fun (W : World) (h : Below w5.heap.size w5 W) e (he : e ∈ l1) => (o2 e he).below h
     have HGl := hid fun (j : Nat) (h : j < l1.length) => (show (l1.map (·.z)).getD j 0 = l1[j].z from by rw [List.getD_eq_getElem?_getD, List.getElem?_map, List.getElem?_eq_getElem h]; rfl)
     have hBv := hv3
     clear rv rw_ zv zw hsz p0 pz r1 zn1 HB o2 h5 hv3 hq hok3 HH q0
     go_wp2
     go_loopw [10] (fun s10 wr => ∃ i : Nat, i ≤ 3 ∧ s10 = .int .i64 i ∧ Below w5.heap.size w5 wr ∧ Fil w [(w1.heap.size, Kc l1), (w5.heap.size, Kc [⟨zv0, bb0, nn0, xx0, AA0, cc0⟩, ⟨zv1, bb1, nn1, xx1, AA1, cc1⟩, ⟨zv2, bb2, nn2, xx2, AA2, cc2⟩]), (w.heap.size + 1 + 1, Kc Kt)] (w5.heap.size + 1) (sofar W3 i) wr) (fun s10 _ => 3 - (intOf s10).toNat)
     case atStart => exact ⟨0, by omega, rfl, hBv, hF⟩
     case round =>
      obtain ⟨i, hi, rfl, hbl, hS⟩ := hrel
      clear hF hBv
      by_cases h3 : i < 3
      ·have h3i : (i : Int) < 3 := by omega
       have ha : 3 * i < l1.length := by omega
       have hb : 3 * i + 1 < l1.length := by omega
       have hc : 3 * i + 2 < l1.length := by omega
       have hsum : W3[i]'(by omega) = l1[3 * i].z * zv0 + l1[3 * i + 1].z * zv1 + l1[3 * i + 2].z * zv2 := by
        rw [hW3i.out i (by omega)]
        unfold rowZ
        rw [HGl.out _ ha, HGl.out _ hb, HGl.out _ hc]; rfl
       obtain ⟨ka, za, na_⟩ := hS.k (w1.heap.size, Kc l1) (by simp)
       obtain ⟨kv, zv_, nv_⟩ := hS.k (w5.heap.size, Kc [⟨zv0, bb0, nn0, xx0, AA0, cc0⟩, ⟨zv1, bb1, nn1, xx1, AA1, cc1⟩, ⟨zv2, bb2, nn2, xx2, AA2, cc2⟩]) (by simp)
       dsimp only at ka kv
       obtain ⟨a0, a1⟩ := Jn ka ha
       obtain ⟨b0, b1⟩ := Jn ka hb
       obtain ⟨d0, d1⟩ := Jn ka hc
       have g0 : wr.cell? ⟨w5.heap.size, 0, none⟩ = some (.bool bb0) := kv 0 _ rfl
       have g1 : wr.cell? ⟨w5.heap.size, 1, none⟩ = some (.slice AA0 nn0 cc0) := kv 1 _ rfl
       have g2 : wr.cell? ⟨w5.heap.size, 2, none⟩ = some (.bool bb1) := kv 2 _ rfl
       have g3 : wr.cell? ⟨w5.heap.size, 3, none⟩ = some (.slice AA1 nn1 cc1) := kv 3 _ rfl
       have g4 : wr.cell? ⟨w5.heap.size, 4, none⟩ = some (.bool bb2) := kv 4 _ rfl
       have g5 : wr.cell? ⟨w5.heap.size, 5, none⟩ = some (.slice AA2 nn2 cc2) := kv 5 _ rfl
       have xa := HOl.out wr hbl _ (List.getElem_mem ha)
       have xb := HOl.out wr hbl _ (List.getElem_mem hb)
       have xc := HOl.out wr hbl _ (List.getElem_mem hc)
       have ya := e1 _ (List.getElem_mem ha)
       have yb := e1 _ (List.getElem_mem hb)
       have yc := e1 _ (List.getElem_mem hc)
       have oa := oa.below hbl
       have ob := ob.below hbl
       have oc := oc.below hbl
       obtain ⟨td, htz, hto, c0, c1⟩ := hS.cell (j := i) (by rw [Xp _ _ (by omega)]; omega)
       have HN0 := Up W3 i (by omega)
       obtain ⟨jb, hjb⟩ : ∃ j, 3 * i + 1 = j := ⟨_, rfl⟩
       obtain ⟨jc, hjc⟩ : ∃ j, 3 * i + 2 = j := ⟨_, rfl⟩
       simp only [hjb, hjc] at *
       obtain ⟨ja, hja⟩ : ∃ j, 3 * i = j := ⟨_, rfl⟩
       have f1 : IntKind.i64.wrap (3 * (i : Int)) = (ja : Int) := by rw [IntKind.wrap_i64]; omega
       have f2 : IntKind.i64.wrap ((ja : Int) + 1) = (jb : Int) := by rw [IntKind.wrap_i64]; omega
       have f3 : IntKind.i64.wrap ((ja : Int) + 2) = (jc : Int) := by rw [IntKind.wrap_i64]; omega
       have f4 : (ja : Int) < 9 := by omega
       have f5 : (jb : Int) < 9 := by omega
       have f6 : (jc : Int) < 9 := by omega
       simp only [hja] at *
       generalize l1[ja] = ea at *
       generalize l1[jb] = eb_ at *
       generalize l1[jc] = ec_ at *
       rw [hsum] at HN0
       have HN := hid HN0
       have HS := hid hS
       have fz := hS.zm.fr
       have lt0 := Kd a0
       have lt1 := Kd g0
       have lt2 := Kd c0
       clear hsum HN0 hS ka kv za zv_ na_ nv_ hto htz hja hjb hjc HGl HOl e1 ha hb hc
       obtain ⟨az, ab, an, axs, aA, ac⟩ := ea
       obtain ⟨bz, bb, bn, bxs, bA, bc⟩ := eb_
       obtain ⟨cz, cb, cn, cxs, cA, cc⟩ := ec_
       obtain ⟨dz, db, dn, dxs, dA, dc⟩ := td
       dsimp only at *
       obtain ⟨q0b, q0n, q0L, Q0⟩ := iz (az * zv0)
       obtain ⟨q1b, q1n, q1L, Q1⟩ := iz (bz * zv1)
       obtain ⟨q2b, q2n, q2L, Q2⟩ := iz (cz * zv2)
       obtain ⟨t1b, t1n, t1L, T1⟩ := iz (az * zv0 + bz * zv1)
       obtain ⟨t2b, t2n, t2L, T2⟩ := iz (az * zv0 + bz * zv1 + cz * zv2)
       have p0 := ya.mul bv0
       have p1 := yb.mul bv1
       have p2 := yc.mul bv2
       have s1 := (p0.mono (Nat.le_refl _)).add p1
       have s2 := s1.add (p2.mono (by omega))
       have HM0 := hid fun (W : World) (h : Below wr.heap.size wr W) => Jy (w := W) xa.i oa.i Q0.out (xa.m.below h) (oa.m.below h) (ya.ft (by omega)) (bv0.ft (by omega)) (p0.ft (by omega)) rfl
       have HM1 := hid fun (W : World) (h : Below wr.heap.size wr W) => Jy (w := W) xb.i ob.i Q1.out (xb.m.below h) (ob.m.below h) (yb.ft (by omega)) (bv1.ft (by omega)) (p1.ft (by omega)) rfl
       have HM2 := hid fun (W : World) (h : Below wr.heap.size wr W) => Jy (w := W) xc.i oc.i Q2.out (xc.m.below h) (oc.m.below h) (yc.ft (by omega)) (bv2.ft (by omega)) (p2.ft (by omega)) rfl
       have HA1 := hid fun (W : World) (R R' : Option Addr) (c c' : Nat) (m1 : Mg W R c q0L) (m2 : Mg W R' c' q1L) => Da (w := W) Q0.out Q1.out T1.out m1 m2 (p0.ft (by omega)) (p1.ft (by omega)) (s1.ft (by omega)) rfl
       have HA2 := hid fun (W : World) (R R' : Option Addr) (c c' : Nat) (m1 : Mg W R c t1L) (m2 : Mg W R' c' q2L) => Da (w := W) T1.out Q2.out T2.out m1 m2 (s1.ft (by omega)) (p2.ft (by omega)) (s2.ft (by omega)) rfl
       clear xa xb xc ya yb yc oa ob oc p0 p1 p2 s1 s2 bv0 bv1 bv2
       go_wp2_with fail
       have HB := Below.refl wr.heap.size wr
       refine Ords.start (x := 27) (S := fun w' => (w'.cell? ⟨w1.heap.size, ja * 2, none⟩ = some (.bool ab) ∧ w'.cell? ⟨w1.heap.size, ja * 2 + 1, none⟩ = some (.slice aA an ac)) ∧ (w'.cell? ⟨w1.heap.size, jb * 2, none⟩ = some (.bool bb) ∧ w'.cell? ⟨w1.heap.size, jb * 2 + 1, none⟩ = some (.slice bA bn bc)) ∧ (w'.cell? ⟨w1.heap.size, jc * 2, none⟩ = some (.bool cb) ∧ w'.cell? ⟨w1.heap.size, jc * 2 + 1, none⟩ = some (.slice cA cn cc)) ∧ (w'.cell? ⟨w5.heap.size, 0, none⟩ = some (.bool bb0) ∧ w'.cell? ⟨w5.heap.size, 1, none⟩ = some (.slice AA0 nn0 cc0)) ∧ (w'.cell? ⟨w5.heap.size, 2, none⟩ = some (.bool bb1) ∧ w'.cell? ⟨w5.heap.size, 3, none⟩ = some (.slice AA1 nn1 cc1)) ∧ (w'.cell? ⟨w5.heap.size, 4, none⟩ = some (.bool bb2) ∧ w'.cell? ⟨w5.heap.size, 5, none⟩ = some (.slice AA2 nn2 cc2))) (by kernel_rfl) ?_ (fun hHeld => ?_)
       ·exact ⟨⟨a0, a1⟩, ⟨b0, b1⟩, ⟨d0, d1⟩, ⟨g0, g1⟩, ⟨g2, g3⟩, ⟨g4, g5⟩⟩
       refine' TKo 0 ?_
       refine' TKo 1 ?_
       refine' TKo 2 ?_
       refine' TKo 3 ?_
       refine' TKo 4 ?_
       refine' TKo 5 ?_
       refine' TKo 6 ?_
       refine' TKo 8 ?_
       refine' TKo 9 ?_
       refine' TKo 10 ?_
       refine' TKo 11 ?_
       refine' TKo 12 ?_
       refine' TKo 13 ?_
       refine' TKo 14 ?_
       refine' TKo 17 ?_
       refine' TKo 18 ?_
       refine' TKo 19 ?_
       refine' TKo 20 ?_
       refine' TKo 21 ?_
       refine' TKo 22 ?_
       refine' TKo 23 ?_
       refine' Ords.step (i := 7) (by kernel_rfl) (by simp only [List.getElem?_toArray, List.getElem?_cons_succ, List.getElem?_cons_zero]; rfl) (fun K hK => ?_)
       go_simp
       (go_at_call 79; (with_reducible refine (HM0.out _ (Kb HB BG)).mono ?_); rintro e z1 ⟨R1, k1, rfl, n1, hq1⟩; have qz1 : Below wr.heap.size wr z1 := Kb BG hq1)
       (try go_wp2_with fail)
       refine' HKa hK (by (first | ((try dsimp only); repeat' (first | with_reducible assumption | apply And.intro | (with_reducible refine Kk ?_) | (with_reducible refine Kn ?_) | (with_reducible refine Kh (by omega) ?_) | (with_reducible refine Kp (by omega) ?_) | (with_reducible refine Ka (W := wr) ?_ ?_) | fail)))) (fun hHeld => ?_)
       clear hK K
       refine' Ords.step (i := 15) (by kernel_rfl) (by simp only [List.getElem?_toArray, List.getElem?_cons_succ, List.getElem?_cons_zero]; rfl) (fun K hK => ?_)
       go_simp
       (go_at_call 79; (with_reducible refine (HM1.out _ (Kb HB BG)).mono ?_); rintro e z2 ⟨R2, k2, rfl, n2, hq2⟩; have qz2 : Below wr.heap.size wr z2 := Kb qz1 hq2; have n1 := n1.below hq2)
       (try go_wp2_with fail)
       refine' HKa hK (by (first | ((try dsimp only); repeat' (first | with_reducible assumption | apply And.intro | (with_reducible refine Kk ?_) | (with_reducible refine Kn ?_) | (with_reducible refine Kh (by omega) ?_) | (with_reducible refine Kp (by omega) ?_) | (with_reducible refine Ka (W := wr) ?_ ?_) | fail)))) (fun hHeld => ?_)
       clear hK K
       refine' Ords.step (i := 16) (by kernel_rfl) (by simp only [List.getElem?_toArray, List.getElem?_cons_succ, List.getElem?_cons_zero]; rfl) (fun K hK => ?_)
       go_simp
       (go_at_call 78; (with_reducible refine (HA1.out _ _ _ _ _ n1 n2).mono ?_); rintro e z3 ⟨R3, k3, rfl, n3, hq3⟩; have qz3 : Below wr.heap.size wr z3 := Kb qz2 hq3)
       (try go_wp2_with fail)
       refine' HKa hK (by (first | ((try dsimp only); repeat' (first | with_reducible assumption | apply And.intro | (with_reducible refine Kk ?_) | (with_reducible refine Kn ?_) | (with_reducible refine Kh (by omega) ?_) | (with_reducible refine Kp (by omega) ?_) | (with_reducible refine Ka (W := wr) ?_ ?_) | fail)))) (fun hHeld => ?_)
       clear hK K
       refine' Ords.step (i := 24) (by kernel_rfl) (by simp only [List.getElem?_toArray, List.getElem?_cons_succ, List.getElem?_cons_zero]; rfl) (fun K hK => ?_)
       go_simp
       (go_at_call 79; (with_reducible refine (HM2.out _ (Kb HB BG)).mono ?_); rintro e z4 ⟨R4, k4, rfl, n4, hq4⟩; have qz4 : Below wr.heap.size wr z4 := Kb qz3 hq4; have n3 := n3.below hq4)
       (try go_wp2_with fail)
       refine' HKa hK (by (first | ((try dsimp only); repeat' (first | with_reducible assumption | apply And.intro | (with_reducible refine Kk ?_) | (with_reducible refine Kn ?_) | (with_reducible refine Kh (by omega) ?_) | (with_reducible refine Kp (by omega) ?_) | (with_reducible refine Ka (W := wr) ?_ ?_) | fail)))) (fun hHeld => ?_)
       clear hK K
       refine' Ords.step (i := 25) (by kernel_rfl) (by simp only [List.getElem?_toArray, List.getElem?_cons_succ, List.getElem?_cons_zero]; rfl) (fun K hK => ?_)
       go_simp
       (go_at_call 78; (with_reducible refine (HA2.out _ _ _ _ _ n3 n4).mono ?_); rintro e z5 ⟨R5, k5, rfl, n5, hq5⟩; have qz5 : Below wr.heap.size wr z5 := Kb qz4 hq5; have c0 := Ka qz5 c0; have c1 := Ka qz5 c1; have fz := (HS.out.below qz5).zm.fr)
       (try go_wp2_with fail)
       refine' HKa hK (by (first | ((try dsimp only); repeat' (first | with_reducible assumption | apply And.intro | (with_reducible refine Kk ?_) | (with_reducible refine Kn ?_) | (with_reducible refine Kh (by omega) ?_) | (with_reducible refine Kp (by omega) ?_) | (with_reducible refine Ka (W := wr) ?_ ?_) | fail)))) (fun hHeld => ?_)
       clear hK K
       refine' TKo 26 ?_
       refine' Ords.last (by kernel_rfl) (by simp only [List.getElem?_toArray, List.getElem?_cons_succ, List.getElem?_cons_zero]; rfl) (by kernel_rfl) (fun K hK => ?_)
       go_simp
       (try go_wp2_with fail)
       refine hK.out _ _ ?_
       clear hK K
       (try simp only [Act.put, Lp0, Lp1, Lp2])
       have hF5 := (HS.out.below qz5).set (j := i) (by rw [Xp _ _ (by omega)]; omega) T2.out n5
       rw [HN.out] at hF5
       have HF5 := hid hF5
       have hb5 := hF5.b
       clear hF5
       go_wp2
       go_roundw
       case rel => exact ⟨i + 1, by omega, by go_num, ((Kb hbl qz5).setCell (by simp) _).setCell (by simp) _, HF5.out⟩
       case measure => simp [intOf]; omega
      ·obtain rfl : i = 3 := by omega
       rw [show sofar W3 3 = W3 from by rw [← hW3l]; exact Wn W3] at hS
       have hl9 : (l1.map (·.z)).length = 9 := by rw [List.length_map]; exact hl1
       have hb3 : ∀ x ∈ W3, Bz 3842 x := by
        have := mvZ_bz (k := 1280) (l := 1280 + 1280) (m := l1.map (·.z)) (v := [zv0, zv1, zv2]) hl9 rfl (by intro x hx; obtain ⟨e, he, rfl⟩ := List.mem_map.1 hx; exact e1 e he) (by
         intro x hx
         simp only [List.mem_cons, List.not_mem_nil, or_false] at hx
         rcases hx with rfl | rfl | rfl
         ·exact bv0
         ·exact bv1
         ·exact bv2)
        rwa [rowZ_mv hl9 rfl, ← hW3] at this
       clear hW3i HGl HOl e1 bv0 bv1 bv2 oa ob oc
       generalize rowZ (l1.map (·.z)) [zv0, zv1, zv2] 0 = W0 at *
       generalize rowZ (l1.map (·.z)) [zv0, zv1, zv2] 1 = W1 at *
       generalize rowZ (l1.map (·.z)) [zv0, zv1, zv2] 2 = W2 at *
       subst hW3
       obtain ⟨lm, k2, k3, k4⟩ := hS.ex
       obtain ⟨ea, eb_, ec_, rfl⟩ := three lm (by simpa using congrArg List.length k4)
       simp only [List.map_cons, List.map_nil, List.cons.injEq, and_true] at k4
       obtain ⟨ya, yb, yc⟩ := k4
       have oa := k3 ea (by simp)
       have ob := k3 eb_ (by simp)
       have oc := k3 ec_ (by simp)
       have c0 : wr.cell? ⟨w5.heap.size + 1, 0, none⟩ = some (.bool ea.b) := k2 0 _ rfl
       have c1 : wr.cell? ⟨w5.heap.size + 1, 1, none⟩ = some (.slice ea.A ea.n ea.c) := k2 1 _ rfl
       have c2 : wr.cell? ⟨w5.heap.size + 1, 2, none⟩ = some (.bool eb_.b) := k2 2 _ rfl
       have c3 : wr.cell? ⟨w5.heap.size + 1, 3, none⟩ = some (.slice eb_.A eb_.n eb_.c) := k2 3 _ rfl
       have c4 : wr.cell? ⟨w5.heap.size + 1, 4, none⟩ = some (.bool ec_.b) := k2 4 _ rfl
       have c5 : wr.cell? ⟨w5.heap.size + 1, 5, none⟩ = some (.slice ec_.A ec_.n ec_.c) := k2 5 _ rfl
       obtain ⟨r1, zn1, _⟩ := hS.k (w.heap.size + 1 + 1, Kc Kt) (by simp)
       dsimp only at r1 zn1
       have HB := hS.b
       have hw0 : ec_.n = 0 ↔ W2 = 0 := by rw [oc.i.zero, yc]
       have b0 := hb3 W0 (by simp)
       have b1 := hb3 W1 (by simp)
       have b2 := hb3 W2 (by simp)
       clear hS k2 k3 hbl hb3
       obtain ⟨az, ab, an, axs, aA, ac⟩ := ea
       obtain ⟨bz, bb, bn, bxs, bA, bc⟩ := eb_
       obtain ⟨cz, cb, cn, cxs, cA, cc⟩ := ec_
       dsimp only at *
       subst ya yb yc
       by_cases hz : cz = 0
       ·have HZ := hid fun (W : World) => Xz (w := W) (b := cb) (n := cn) (c := cc) (A := cA) true (by simp [hw0, hz])
        have HR : Hid (aplE fs [gx, gy] = (List.replicate 4 0, 24)) := by
         have h := hAE
         unfold Hid at h ⊢
         rw [h, if_pos hz]
        clear hAE hw0 hz b0 b1 b2
        go_wp2_with fail
        refine (HZ.out wr).mono ?_
        rintro e w6 ⟨rfl, h6⟩
        have r1 := Ke r1 h6
        have zn1 := zn1.below h6
        have HB := Kb HB h6
        clear c0 c1 c2 c3 c4 c5
        go_upto_region 13 with fail
        have ht := Kq r1 zn1
        have ho := all_oneCell_toArray (Km Kt)
        obtain ⟨d28, u28, row28⟩ := T28u
        obtain ⟨G1, G2, G3, G4⟩ := Ju (w := w) (l := Kt) (cs := Kt) u28 row28 T28i HB (by omega) r1 zn1 rfl (fun e he => by rw [List.eq_of_mem_replicate he]; exact ZE.zero_ok _)
        have HF := hid (And.intro G3 G4)
        clear G1 G3 G4
        go_wp2_with (first | refine wpList_store_mid (by rfl) _ _ _ (by rfl) (w.heap.size + 1 + 1) 0 (Kc Kt).toArray (by rfl) (by rfl) ht T28i ho ?_ | fail)
        refine bodyPost_ret (v := .tuple #[.agg (Kc Kt).toArray, .int .i64 24]) ?_ rfl ?_
        ·simp [results, Tryz.results45, Sem.run_bind, asAddr, G2]
        ·rw [HR.out]
         exact ⟨Kt, rfl, rfl, HF.out.2, HF.out.1⟩
       ·have HZ := hid fun (W : World) => Xz (w := W) (b := cb) (n := cn) (c := cc) (A := cA) false (by simp [hw0, hz])
        rw [if_neg hz] at hAE
        obtain ⟨nx0, _⟩ := U0 b0 b2 hz (by omega)
        obtain ⟨ny0, _⟩ := U0 b1 b2 hz (by omega)
        have HNx := hid fun (W : World) (h : Below wr.heap.size wr W) => HQNew_g (w := W) oa.i oc.i (oa.m.below h) (oc.m.below h) (b0.ft (by omega)) (b2.ft (by omega))
        have HNy := hid fun (W : World) (h : Below wr.heap.size wr W) => HQNew_g (w := W) ob.i oc.i (ob.m.below h) (oc.m.below h) (b1.ft (by omega)) (b2.ft (by omega))
        obtain ⟨PX, hPX⟩ : ∃ p, (newE az cz) = p := ⟨_, rfl⟩
        obtain ⟨PY, hPY⟩ : ∃ p, (newE bz cz) = p := ⟨_, rfl⟩
        rw [hPX] at HNx hAE nx0
        rw [hPY] at HNy hAE ny0
        obtain ⟨PX, e0⟩ := PX
        obtain ⟨PY, e1⟩ := PY
        dsimp only at nx0 ny0
        subst nx0 ny0
        obtain ⟨b1, k1, xs1, l1_, ys1, I1⟩ := fz PX
        obtain ⟨b2, k2, xs2, l2, ys2, I2⟩ := fz PY
        have hBw := Below.refl wr.heap.size wr
        clear hPX hPY hw0 hz oa ob oc
        go_wp2_with fail
        refine (HZ.out wr).mono ?_
        rintro e w6 ⟨rfl, h6⟩
        have r1 := Ke r1 h6
        have zn1 := zn1.below h6
        have HB := Kb HB h6
        have c0 := Ka h6 c0
        have c1 := Ka h6 c1
        have c2 := Ka h6 c2
        have c3 := Ka h6 c3
        have c4 := Ka h6 c4
        have c5 := Ka h6 c5
        go_wp2_with fail
        refine (HNx.out w6 h6).mono ?_
        rintro e x1 h_
        obtain ⟨A1, ca1, B1, cb1, rfl, ma1, mb1, hq_⟩ := h_.g I1.out
        go_upto_region 15 with fail
        refine Kw (P := fun u => Code.wp _ _ _ _ u) ?_
        intro y1 hv_ s1 sz_ hsz
        have qy1 := Kb hq_ hv_
        have r1 := Ke r1 qy1
        have c2 := Ka qy1 c2
        have c3 := Ka qy1 c3
        have c4 := Ka qy1 c4
        have c5 := Ka qy1 c5
        have ma1 := ma1.below hv_
        have mb1 := mb1.below hv_
        have zn1 := zn1.below qy1
        have HB := Kb HB qy1
        clear sz_ hsz hv_ hq_
        have h7 := Kb h6 qy1
        go_wp2_with fail
        refine (HNy.out y1 h7).mono ?_
        rintro e x2 h_
        obtain ⟨A2, ca2, B2, cb2, rfl, ma2, mb2, hq_⟩ := h_.g I2.out
        go_upto_region 16 with fail
        refine Kw (P := fun u => Code.wp _ _ _ _ u) ?_
        intro y2 hv_ s2 sz_ hsz
        have qy2 := Kb hq_ hv_
        have r1 := Ke r1 qy2
        have s1 := Ke s1 qy2
        have ma1 := ma1.below qy2
        have mb1 := mb1.below qy2
        have ma2 := ma2.below hv_
        have mb2 := mb2.below hv_
        have zn1 := zn1.below qy2
        have HB := Kb HB qy2
        clear sz_ hsz hv_ hq_
        have HR : Hid (aplE fs [gx, gy] = ([PX.1, (PX.2 : Int), PY.1, (PY.2 : Int)], 0)) := by
         have h := hAE
         unfold Hid at h ⊢
         rw [h]
         rfl
        have F := Gf (w := w) (l := [⟨PX.1, b1, k1, xs1, A1, ca1⟩, ⟨PX.2, false, l1_, ys1, B1, cb1⟩, ⟨PY.1, b2, k2, xs2, A2, ca2⟩, ⟨PY.2, false, l2, ys2, B2, cb2⟩]) HB (by omega) r1 zn1 rfl (Js Kt) (by
         intro e he
         simp only [List.mem_cons, List.not_mem_nil, or_false] at he
         rcases he with rfl | rfl | rfl | rfl
         ·exact ⟨I1.out.num, ma1⟩
         ·exact ⟨I1.out.den, mb1⟩
         ·exact ⟨I2.out.num, ma2⟩
         ·exact ⟨I2.out.den, mb2⟩)
        obtain ⟨F1, F2, F3, F4⟩ := F
        have i0 : y2.cell? ⟨x1.heap.size, 0, none⟩ = some (.bool b1) := s1 0 _ rfl
        have i1 : y2.cell? ⟨x1.heap.size, 1, none⟩ = some (.slice A1 k1 ca1) := s1 1 _ rfl
        have i2 : y2.cell? ⟨x1.heap.size, 2, none⟩ = some (.bool false) := s1 2 _ rfl
        have i3 : y2.cell? ⟨x1.heap.size, 3, none⟩ = some (.slice B1 l1_ cb1) := s1 3 _ rfl
        have j0 : y2.cell? ⟨x2.heap.size, 0, none⟩ = some (.bool b2) := s2 0 _ rfl
        have j1 : y2.cell? ⟨x2.heap.size, 1, none⟩ = some (.slice A2 k2 ca2) := s2 1 _ rfl
        have j2 : y2.cell? ⟨x2.heap.size, 2, none⟩ = some (.bool false) := s2 2 _ rfl
        have j3 : y2.cell? ⟨x2.heap.size, 3, none⟩ = some (.slice B2 l2 cb2) := s2 3 _ rfl
        have n0 : y2.cell? ⟨w.heap.size + 1 + 1, 0, none⟩ = some (.bool false) := r1 0 _ rfl
        have n1 : y2.cell? ⟨w.heap.size + 1 + 1, 1, none⟩ = some (.slice none 0 0) := r1 1 _ rfl
        have n2 : y2.cell? ⟨w.heap.size + 1 + 1, 2, none⟩ = some (.bool false) := r1 2 _ rfl
        have n3 : y2.cell? ⟨w.heap.size + 1 + 1, 3, none⟩ = some (.slice none 0 0) := r1 3 _ rfl
        have n4 : y2.cell? ⟨w.heap.size + 1 + 1, 4, none⟩ = some (.bool false) := r1 4 _ rfl
        have n5 : y2.cell? ⟨w.heap.size + 1 + 1, 5, none⟩ = some (.slice none 0 0) := r1 5 _ rfl
        have n6 : y2.cell? ⟨w.heap.size + 1 + 1, 6, none⟩ = some (.bool false) := r1 6 _ rfl
        have n7 : y2.cell? ⟨w.heap.size + 1 + 1, 7, none⟩ = some (.slice none 0 0) := r1 7 _ rfl
        have fz1 := zn1.fr
        clear hAE HNx HNy HZ I1 I2 ma1 mb1 ma2 mb2 s1 s2 r1
        go_wp2
        simp only [Kc, ZE.cells, List.cons_append, List.nil_append, World.setCells, Nat.zero_add, Nat.reduceAdd] at F1 F2 F3
        have p0 := F2 0 _ rfl
        have p1 := F2 1 _ rfl
        have p2 := F2 2 _ rfl
        have p3 := F2 3 _ rfl
        have p4 := F2 4 _ rfl
        have p5 := F2 5 _ rfl
        have p6 := F2 6 _ rfl
        have p7 := F2 7 _ rfl
        simp only [Nat.zero_add] at p0 p1 p2 p3 p4 p5 p6 p7
        refine bodyPost_ret (v := .tuple #[.agg #[.bool b1, .slice A1 k1 ca1, .bool false, .slice B1 l1_ cb1, .bool b2, .slice A2 k2 ca2, .bool false, .slice B2 l2 cb2], .int .i64 0]) ?_ rfl ?_
        ·simp [results, Tryz.results45, go_sem, p0, p1, p2, p3, p4, p5, p6, p7]
        ·rw [HR.out]
         exact ⟨[⟨PX.1, b1, k1, xs1, A1, ca1⟩, ⟨PX.2, false, l1_, ys1, B1, cb1⟩, ⟨PY.1, b2, k2, xs2, A2, ca2⟩, ⟨PY.2, false, l2, ys2, B2, cb2⟩], rfl, rfl, F3, F1⟩
    ·have hsyi : (40 : Int) < sy := by omega
     have HR : Hid (aplE fs [gx, gy] = (List.replicate 4 0, 4)) := by
      have h1 := hAE.out
      have h2 := hck.out
      show aplE fs [gx, gy] = _
      rw [h1, h2]; simp [hsx, hsy]
     go_wp2_with fail
     refine (HSy.out w3 h3).mono ?_
     rintro e w4 ⟨rfl, h4⟩
     have h4 := Kb h3 h4
     have r1 := Ke r1 h4
     have zn1 := zn1.below h4
     have HB := Kb HB h4
     clear hAE hck q0 qx qy h3
     go_upto_region 5 with fail
     have ht := Kq r1 zn1
     have ho := all_oneCell_toArray (Km Kt)
     obtain ⟨d28, u28, row28⟩ := T28u
     obtain ⟨G1, G2, G3, G4⟩ := Ju (w := w) (l := Kt) (cs := Kt) u28 row28 T28i HB (by omega) r1 zn1 rfl (fun e he => by rw [List.eq_of_mem_replicate he]; exact ZE.zero_ok _)
     have HF := hid (And.intro G3 G4)
     clear G1 G3 G4
     go_wp2_with (first | refine wpList_store_mid (by rfl) _ _ _ (by rfl) (w.heap.size + 1 + 1) 0 (Kc Kt).toArray (by rfl) (by rfl) ht T28i ho ?_ | fail)
     refine bodyPost_ret (v := .tuple #[.agg (Kc Kt).toArray, .int .i64 4]) ?_ rfl ?_
     ·simp [results, Tryz.results45, Sem.run_bind, asAddr, G2]
     ·rw [HR.out]
      exact ⟨Kt, rfl, rfl, HF.out.2, HF.out.1⟩
   ·have hsxi : (40 : Int) < sx := by omega
    have HR : Hid (aplE fs [gx, gy] = (List.replicate 4 0, 4)) := by
     have h1 := hAE.out
     have h2 := hck.out
     show aplE fs [gx, gy] = _
     rw [h1, h2]; simp [hsx]
    go_wp2_with (first | refine wpList_load_mid (by rfl) _ _ (by rfl) (w.heap.size + 1) 0 (by rfl) (Kc gx.ze) _ qx hU26 row26 Q26i ?_ | fail)
    refine (HSx.out w2 hBw).mono ?_
    rintro e w3 ⟨rfl, h3⟩
    have r1 := Ke r1 h3
    have zn1 := zn1.below h3
    have HB := Kb HB h3
    clear hAE hck q0 qx qy
    go_upto_region 5 with fail
    have ht := Kq r1 zn1
    have ho := all_oneCell_toArray (Km Kt)
    obtain ⟨d28, u28, row28⟩ := T28u
    obtain ⟨G1, G2, G3, G4⟩ := Ju (w := w) (l := Kt) (cs := Kt) u28 row28 T28i HB (by omega) r1 zn1 rfl (fun e he => by rw [List.eq_of_mem_replicate he]; exact ZE.zero_ok _)
    have HF := hid (And.intro G3 G4)
    clear G1 G3 G4
    go_wp2_with (first | refine wpList_store_mid (by rfl) _ _ _ (by rfl) (w.heap.size + 1 + 1) 0 (Kc Kt).toArray (by rfl) (by rfl) ht T28i ho ?_ | fail)
    refine bodyPost_ret (v := .tuple #[.agg (Kc Kt).toArray, .int .i64 4]) ?_ rfl ?_
    ·simp [results, Tryz.results45, Sem.run_bind, asAddr, G2]
    ·rw [HR.out]
     exact ⟨Kt, rfl, rfl, HF.out.2, HF.out.1⟩
end Go.Proofs.YtdkgbkbbbldliaaGreat
