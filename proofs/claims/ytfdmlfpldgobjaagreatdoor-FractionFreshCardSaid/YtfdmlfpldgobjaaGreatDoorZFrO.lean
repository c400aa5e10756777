/- Package fraction: the walk of between. Conditions: none. -/
import Derived.Test.YtfdmlfpldgobjaaGreatDoorZYM
set_option linter.unusedVariables false
set_option linter.unusedSimpArgs false
namespace Go.Proofs.YtfdmlfpldgobjaaGreatDoor
open Go.RowKit Big
/-- the state of the loop of between: both bounds in their boxes, the result's box -/
theorem setI4F {W : World} {g : Nat} {b0 b2 : Bool} {A1 B1 : Option Addr} {n1 c1 m1 d1 : Nat} {u0 u1 u2 u3 : Value} (k0 : W.cell? ⟨g, 0, none⟩ = some (.bool b0)) (k1 : W.cell? ⟨g, 1, none⟩ = some (.slice A1 n1 c1)) (k2 : W.cell? ⟨g, 2, none⟩ = some (.bool b2)) (k3 : W.cell? ⟨g, 3, none⟩ = some (.slice B1 m1 d1)) {V : World} (hV : V = (((W.setCell ⟨g, 0, none⟩ u0).setCell ⟨g, 1, none⟩ u1).setCell ⟨g, 2, none⟩ u2).setCell ⟨g, 3, none⟩ u3) :
  V.cell? ⟨g, 0, none⟩ = some u0 ∧ V.cell? ⟨g, 1, none⟩ = some u1 ∧ V.cell? ⟨g, 2, none⟩ = some u2 ∧ V.cell? ⟨g, 3, none⟩ = some u3 ∧ (∀ b o v, b ≠ g → W.cell? ⟨b, o, none⟩ = some v → V.cell? ⟨b, o, none⟩ = some v) ∧ (∀ A c xs, Mg W A c xs → Mg V A c xs) ∧ (∀ b, Zn W b → Zn V b) ∧ (∀ B a, B ≤ g → Below B a W → Below B a V) ∧ (∀ B v ts, g < B → OwnT W B v ts → OwnT V B v ts) := by
 subst hV
 have a1 : (W.setCell ⟨g, 0, none⟩ u0).cell? ⟨g, 1, none⟩ = _ := (cell_set_ne (by omega)).trans k1
 have a2 : ((W.setCell ⟨g, 0, none⟩ u0).setCell ⟨g, 1, none⟩ u1).cell? ⟨g, 2, none⟩ = _ := (cell_set_ne (by omega)).trans ((cell_set_ne (by omega)).trans k2)
 have a3 : (((W.setCell ⟨g, 0, none⟩ u0).setCell ⟨g, 1, none⟩ u1).setCell ⟨g, 2, none⟩ u2).cell? ⟨g, 3, none⟩ = _ := (cell_set_ne (by omega)).trans ((cell_set_ne (by omega)).trans ((cell_set_ne (by omega)).trans k3))
 refine ⟨?_, ?_, ?_, at_set a3, fun b o v hb h => keep_set (Ne.symm hb) (keep_set (Ne.symm hb) (keep_set (Ne.symm hb) (keep_set (Ne.symm hb) h))), fun A c xs h => ?_, fun b h => h.set.set.set.set, fun B a hB h => below_set (below_set (below_set (below_set h hB _ _) hB _ _) hB _ _) hB _ _, fun B v ts hB h => (((h.set hB).set hB).set hB).set hB⟩
 ·exact keep_off (by omega) (keep_off (by omega) (keep_off (by omega) (at_set k0)))
 ·exact keep_off (by omega) (keep_off (by omega) (at_set a1))
 ·exact keep_off (by omega) (at_set a2)
 ·exact (((h.set_ g 0 _ u0 k0 (by simp)).set_ g 1 _ u1 a1 (by simp)).set_ g 2 _ u2 a2 (by simp)).set_ g 3 _ u3 a3 (by simp)
structure BSt (wr : World) (n d m k gr g2 g3 : Nat) : Prop where
 ex : ∃ (bn : Bool) (kn : Nat) (Ln : List Nat) (An : Option Addr) (cn : Nat) (kd : Nat) (Ld : List Nat) (Ad : Option Addr) (cd : Nat) (bm : Bool) (km : Nat) (Lm : List Nat) (Am : Option Addr) (cm : Nat) (kk : Nat) (Lk : List Nat) (Ak : Option Addr) (ck : Nat),
  Hid (Iz (n : Nat) bn kn Ln) ∧ Hid (Iz (d : Nat) false kd Ld) ∧ Hid (Iz (m : Nat) bm km Lm) ∧ Hid (Iz (k : Nat) false kk Lk) ∧ Mg wr An cn Ln ∧ Mg wr Ad cd Ld ∧ Mg wr Am cm Lm ∧ Mg wr Ak ck Lk ∧
  wr.cell? ⟨g2, 0, none⟩ = some (.bool bn) ∧ wr.cell? ⟨g2, 1, none⟩ = some (.slice An kn cn) ∧ wr.cell? ⟨g2, 2, none⟩ = some (.bool false) ∧ wr.cell? ⟨g2, 3, none⟩ = some (.slice Ad kd cd) ∧
  wr.cell? ⟨g3, 0, none⟩ = some (.bool bm) ∧ wr.cell? ⟨g3, 1, none⟩ = some (.slice Am km cm) ∧ wr.cell? ⟨g3, 2, none⟩ = some (.bool false) ∧ wr.cell? ⟨g3, 3, none⟩ = some (.slice Ak kk ck)
 res : ∃ x0 x2 A1 n1 c1 B1 m1 d1, wr.cell? ⟨gr, 0, none⟩ = some (.bool x0) ∧ wr.cell? ⟨gr, 1, none⟩ = some (.slice A1 n1 c1) ∧ wr.cell? ⟨gr, 2, none⟩ = some (.bool x2) ∧ wr.cell? ⟨gr, 3, none⟩ = some (.slice B1 m1 d1)
 z1 : Zn wr gr
 z2 : Zn wr g2
 z3 : Zn wr g3
theorem BSt.below {wr w' : World} {n d m k gr g2 g3 : Nat} (h : BSt wr n d m k gr g2 g3) (hb : Below wr.heap.size wr w') : BSt w' n d m k gr g2 g3 := by
 obtain ⟨⟨bn, kn, Ln, An, cn, kd, Ld, Ad, cd, bm, km, Lm, Am, cm, kk, Lk, Ak, ck, i1, i2, i3, i4, m1, m2, m3, m4, q0, q1, q2, q3, r0, r1, r2, r3⟩, ⟨x0, x2, A1, n1, c1, B1, mm1, d1, s0, s1, s2, s3⟩, z1, z2, z3⟩ := h
 exact ⟨⟨bn, kn, Ln, An, cn, kd, Ld, Ad, cd, bm, km, Lm, Am, cm, kk, Lk, Ak, ck, i1, i2, i3, i4, m1.below hb, m2.below hb, m3.below hb, m4.below hb, keep_cell hb q0, keep_cell hb q1, keep_cell hb q2, keep_cell hb q3, keep_cell hb r0, keep_cell hb r1, keep_cell hb r2, keep_cell hb r3⟩, ⟨x0, x2, A1, n1, c1, B1, mm1, d1, keep_cell hb s0, keep_cell hb s1, keep_cell hb s2, keep_cell hb s3⟩, z1.below hb, z2.below hb, z3.below hb⟩
def lenOf : Value → Nat
 | .slice _ n _ => n
 | _ => 0
theorem Iz.klen {n : Nat} {b : Bool} {k : Nat} {L : List Nat} (h : Iz (n : Int) b k L) : L = limbs n ∧ k = (limbs n).length ∧ (n = 0 → k = 0) ∧ (n ≠ 0 → 0 < k) := by
 obtain ⟨_, h2, h3⟩ := h
 rw [Int.natAbs_natCast] at h2
 refine ⟨h2, by rw [h3, h2], fun h0 => ?_, fun h0 => ?_⟩
 ·rw [h3, h2, h0, limbs_zero]; rfl
 ·rw [h3, h2, limbs_pos h0]; simp
theorem Frunfold_gn {X : Nat × Nat} {S0 n d m k l : Nat} {ts : List Te} (hI : Hid (BInv X S0 (ts.map Te.t) n d m k)) (he : simpl n d m k = (l, 1)) {b : Bool} {kz : Nat} {L : List Nat} {A : Option Addr} {c : Nat} {w : World} (hl : Iz (l : Nat) b kz L) (ma : Mg w A c L) {base : Nat} {T : Option Addr} {ct : Nat}
  (ho : OwnT w base (.slice T ts.length ct) ts) (hm : TMg w ts) (hct : ts.length ≤ ct) (hcm : ct ≤ 9223372036854775807) {p : Int × Nat} {err : Int} (hq : newE (X.1 : Nat) (X.2 : Nat) = (p, err)) {bq : Bool} {kq lq : Nat} {Xq Yq : List Nat} (I : Hid (Fz p bq kq Xq lq Yq)) :
  Calls Tryz.prog 62 #[.slice T ts.length ct, .agg #[.bool b, .slice A kz c]] w (GFn w.heap.size w bq kq Xq lq Yq err) := by
 obtain ⟨h1, h2⟩ := hI.out.ends he
 have hf : ∀ j, foldU (ts.drop j) l = foldT ((ts.map Te.t).drop j) (l, 1) := fun j => by unfold foldU foldT; rw [List.map_drop]
 have h := Frunfold_n ts T ct l w hct hcm (ho.at_ hm) hl ma (fun j hj => by rw [hf j]; exact h2 j (by simpa using hj)) (fun j hj => hI.out.ft _ (List.mem_map.2 ⟨_, List.getElem_mem hj, rfl⟩))
 have h3 : foldU ts l = X := by have := hf 0; simp only [List.drop_zero] at this; rw [this]; exact h1
 rw [h3, hq] at h
 exact h.mono fun e w' h => RetFEn.g h I.out
theorem Iz.nonneg {n : Nat} {b : Bool} {k : Nat} {L : List Nat} (h : Iz (n : Int) b k L) : b = false := by rw [h.hb]; simp
set_option maxRecDepth 100000 in
set_option maxHeartbeats 16000000 in
theorem Frbetween_n {n d m k : Nat} {bn bm : Bool} {kn kd km kk : Nat} {Ln Ld Lm Lk : List Nat} {An Ad Am Ak : Option Addr} {cn cd cm ck : Nat} {w : World} (iN : Iz (n : Nat) bn kn Ln) (iD : Iz (d : Nat) false kd Ld) (iM : Iz (m : Nat) bm km Lm) (iK : Iz (k : Nat) false kk Lk)
  (mn : Mg w An cn Ln) (md : Mg w Ad cd Ld) (mm : Mg w Am cm Lm) (mk : Mg w Ak ck Lk) (X : Nat × Nat) (S0 : Nat) (hI : BInv X S0 [] n d m k) (hS : S0 ≤ 100000) :
  Calls Tryz.prog 37 #[.agg #[.bool bn, .slice An kn cn, .bool false, .slice Ad kd cd], .agg #[.bool bm, .slice Am km cm, .bool false, .slice Ak kk ck]] w (RetFEn w (newE (X.1 : Nat) (X.2 : Nat))) := by
 have HI := hid hI
 have iN := hid iN
 have iD := hid iD
 have iM := hid iM
 have iK := hid iK
 obtain ⟨b1, k1, L1, I1⟩ := iz 1
 have H1 := hid fun (w1 : World) => FromInt_g (w := w1) I1.out (by omega) (by omega)
 clear hI
 go_enter Tryz.func37, Tryz.ntmps37
 go_wp2
 refine enterFFF (P := fun u => Code.wp _ _ _ _ u) ?_
 intro u HB q0 q1 q2 q3 r0 r1 r2 r3 s0 s1 s2 s3 z1 z2 z3 hsz
 clear hsz
 have f_z1 := z1.fr
 have f_z2 := z2.fr
 have f_z3 := z3.fr
 have lt_q0 := cell_lt q0
 have lt_r0 := cell_lt r0
 have lt_s0 := cell_lt s0
 have hsz_ : w.heap.size + 1 + 1 + 1 ≤ u.heap.size := z3.lt
 have hSt : Hid (BSt u n d m k (w.heap.size + 1 + 1) w.heap.size (w.heap.size + 1)) :=
  ⟨⟨_, _, _, _, _, _, _, _, _, _, _, _, _, _, _, _, _, _, iN, iD, iM, iK, mn.below HB, md.below HB, mm.below HB, mk.below HB, q0, q1, q2, q3, r0, r1, r2, r3⟩, ⟨_, _, _, _, _, _, _, _, s0, s1, s2, s3⟩, z3, z1, z2⟩
 clear iN iD iM iK mn md mm mk q0 q1 q2 q3 r0 r1 r2 r3 s0 s1 s2 s3 z1 z2 z3 f_z1 f_z2 f_z3 lt_q0 lt_r0 lt_s0
 go_loopw [6] (fun s6 wr => ∃ (ts : List Te) (n d m k : Nat), OwnT wr (w.heap.size + 1 + 1 + 1) s6 ts ∧ w.heap.size + 1 + 1 + 1 ≤ wr.heap.size ∧ Below w.heap.size w wr ∧ Hid (TMg wr ts) ∧ Hid (BInv X S0 (ts.map Te.t) n d m k) ∧ Hid (BSt wr n d m k (w.heap.size + 1 + 1) w.heap.size (w.heap.size + 1))) (fun s6 _ => S0 + 2 - lenOf s6)
 case atStart => exact ⟨[], n, d, m, k, OwnT.nil _ _, hsz_, HB, TMg.nil _, HI, hSt⟩
 case round =>
  clear HB HI hSt
  obtain ⟨ts, n, d, m, k, hown, hbase, hbl, hmg, hI, hst⟩ := hrel
  obtain ⟨T6, c6, rfl, hc6, hc6m⟩ := hown.form
  replace hmg := hmg.out
  obtain ⟨bn, kn, Ln, An, cn, kd, Ld, Ad, cd, bm, km, Lm, Am, cm, kk, Lk, Ak, ck, iN, iD, iM, iK, mn, md, mm, mk, q0, q1, q2, q3, r0, r1, r2, r3⟩ := hst.out.ex
  obtain ⟨x0, x2, A1, nn1, c1, B1, mm1, dd1, s0, s1, s2, s3⟩ := hst.out.res
  have zr := hst.out.z1
  have z2 := hst.out.z2
  have z3 := hst.out.z3
  have f_zr := zr.fr
  have f_z2 := z2.fr
  have f_z3 := z3.fr
  clear hst
  have hwz := hbl.size
  have hown0 := hid hown
  have hlen := hI.out.len
  simp only [List.length_map] at hlen
  obtain ⟨fn, fd, fm, fk⟩ := hI.out.f
  have hd0 := hI.out.d0
  have hk0 := hI.out.k0
  obtain ⟨ba, ka, La, Ia⟩ := iz ((n / d : Nat) : Int)
  obtain ⟨bb, kb, Lb, Ib⟩ := iz ((n % d : Nat) : Int)
  obtain ⟨bc, kc, Lc, Ic⟩ := iz ((m / k : Nat) : Int)
  obtain ⟨bd, kdd, Ldd, Id⟩ := iz ((m % k : Nat) : Int)
  obtain rfl : bb = false := Ib.out.nonneg
  obtain rfl : bd = false := Id.out.nonneg
  obtain rfl : ba = false := Ia.out.nonneg
  have hdm1 := dm_floor (n : Int) (d := d) (by omega)
  have hdm2 := dm_floor (m : Int) (d := k) (by omega)
  have HD1 := hid fun (w1 : World) (m1 : Mg w1 An cn Ln) (m2 : Mg w1 Ad cd Ld) => DivMod_g (w := w1) iN.out iD.out Ia.out Ib.out m1 m2 fn fd (by omega) (by rw [hdm1.1]; exact (Int.natCast_ediv _ _).symm) (by rw [hdm1.2]; exact (Int.natCast_emod _ _).symm)
  have HD2 := hid fun (w1 : World) (m1 : Mg w1 Am cm Lm) (m2 : Mg w1 Ak ck Lk) => DivMod_g (w := w1) iM.out iK.out Ic.out Id.out m1 m2 fm fk (by omega) (by rw [hdm2.1]; exact (Int.natCast_ediv _ _).symm) (by rw [hdm2.2]; exact (Int.natCast_emod _ _).symm)
  have fa : fits ((n / d : Nat) : Int) := fits_mono (Nat.div_le_self _ _) fn
  have fc : fits ((m / k : Nat) : Int) := fits_mono (Nat.div_le_self _ _) fm
  have HB := hbl
  clear hdm1 hdm2
  have lt_q := cell_lt q0
  have lt_r := cell_lt r0
  have lt_s := cell_lt s0
  go_wp2_with fail
  refine (HD1.out _ mn md).mono ?_
  rintro e w1 ⟨Ra, ca, Rb, cb, rfl, ma, mb, h1⟩
  have hv_ : Below wr.heap.size wr w1 := Below.trans (b := _) (by repeat (first | assumption | exact Bv _ _ | refine Ba ?_ (by simp; try omega) _ | refine Bd ?_ | refine Bn ?_ _)) (h1.mono (by simp; try omega))
  replace mn := mn.below hv_
  replace md := md.below hv_
  replace mm := mm.below hv_
  replace mk := mk.below hv_
  replace hmg := hmg.below hv_
  replace hown := hown.below hv_
  replace q0 := keep_cell hv_ q0
  replace q1 := keep_cell hv_ q1
  replace q2 := keep_cell hv_ q2
  replace q3 := keep_cell hv_ q3
  replace r0 := keep_cell hv_ r0
  replace r1 := keep_cell hv_ r1
  replace r2 := keep_cell hv_ r2
  replace r3 := keep_cell hv_ r3
  replace s0 := keep_cell hv_ s0
  replace s1 := keep_cell hv_ s1
  replace s2 := keep_cell hv_ s2
  replace s3 := keep_cell hv_ s3
  have lt_q0 := cell_lt q0
  have lt_q1 := cell_lt q1
  have lt_q2 := cell_lt q2
  have lt_q3 := cell_lt q3
  have lt_r0 := cell_lt r0
  have lt_r1 := cell_lt r1
  have lt_r2 := cell_lt r2
  have lt_r3 := cell_lt r3
  have lt_s0 := cell_lt s0
  have lt_s1 := cell_lt s1
  have lt_s2 := cell_lt s2
  have lt_s3 := cell_lt s3
  replace zr := zr.below hv_
  replace z2 := z2.below hv_
  replace z3 := z3.below hv_
  replace f_zr := zr.fr
  replace f_z2 := z2.fr
  replace f_z3 := z3.fr
  replace HB := HB.trans (hv_.mono HB.size)
  clear hv_
  go_upto_region 3 with fail
  have l0 := keep_alloc (b := .cells #[.bool false, .slice Rb kb cb] 24) (at_alloc0 (W := w1) (a := .bool false) (b := .slice Ra ka ca) (t := 24) rfl)
  have l1 := keep_alloc (b := .cells #[.bool false, .slice Rb kb cb] 24) (at_alloc1 (W := w1) (a := .bool false) (b := .slice Ra ka ca) (t := 24) rfl)
  have o0 := at_alloc0 (W := w1.alloc (.cells #[.bool false, .slice Ra ka ca] 24)) (a := .bool false) (b := .slice Rb kb cb) (t := 24) rfl
  have o1 := at_alloc1 (W := w1.alloc (.cells #[.bool false, .slice Ra ka ca] 24)) (a := .bool false) (b := .slice Rb kb cb) (t := 24) rfl
  have hv_ : Below w1.heap.size w1 ((w1.alloc (.cells #[.bool false, .slice Ra ka ca] 24)).alloc (.cells #[.bool false, .slice Rb kb cb] 24)) := ((Below.refl _ _).alloc (Nat.le_refl _) _).alloc (by simp) _
  simp only [World.size_alloc] at o0 o1
  generalize (w1.alloc (.cells #[.bool false, .slice Ra ka ca] 24)).alloc (.cells #[.bool false, .slice Rb kb cb] 24) = v1 at *
  replace ma := ma.below hv_
  replace mb := mb.below hv_
  replace mn := mn.below hv_
  replace md := md.below hv_
  replace mm := mm.below hv_
  replace mk := mk.below hv_
  replace hmg := hmg.below hv_
  replace hown := hown.below hv_
  replace zr := zr.below hv_
  replace z2 := z2.below hv_
  replace z3 := z3.below hv_
  replace q0 := keep_cell hv_ q0
  replace q1 := keep_cell hv_ q1
  replace q2 := keep_cell hv_ q2
  replace q3 := keep_cell hv_ q3
  replace r0 := keep_cell hv_ r0
  replace r1 := keep_cell hv_ r1
  replace r2 := keep_cell hv_ r2
  replace r3 := keep_cell hv_ r3
  replace s0 := keep_cell hv_ s0
  replace s1 := keep_cell hv_ s1
  replace s2 := keep_cell hv_ s2
  replace s3 := keep_cell hv_ s3
  replace HB := HB.trans (hv_.mono HB.size)
  clear hv_
  have f_zr := zr.fr
  have f_z2 := z2.fr
  have f_z3 := z3.fr
  have lt_l0 := cell_lt l0
  have lt_o0 := cell_lt o0
  have lt_q0 := cell_lt q0
  have lt_r0 := cell_lt r0
  have lt_s0 := cell_lt s0
  go_wp2_with fail
  refine (HD2.out _ mm mk).mono ?_
  rintro e w2 ⟨Rc, cc, Rd, cd', rfl, mc, md', h2⟩
  have hv_ : Below v1.heap.size v1 w2 := Below.trans (b := _) (by repeat (first | assumption | exact Bv _ _ | refine Ba ?_ (by simp; try omega) _ | refine Bd ?_ | refine Bn ?_ _)) (h2.mono (by simp; try omega))
  replace ma := ma.below hv_
  replace mb := mb.below hv_
  replace mn := mn.below hv_
  replace md := md.below hv_
  replace mm := mm.below hv_
  replace mk := mk.below hv_
  replace hmg := hmg.below hv_
  replace hown := hown.below hv_
  replace l0 := keep_cell hv_ l0
  replace l1 := keep_cell hv_ l1
  replace o0 := keep_cell hv_ o0
  replace o1 := keep_cell hv_ o1
  replace q0 := keep_cell hv_ q0
  replace q1 := keep_cell hv_ q1
  replace q2 := keep_cell hv_ q2
  replace q3 := keep_cell hv_ q3
  replace r0 := keep_cell hv_ r0
  replace r1 := keep_cell hv_ r1
  replace r2 := keep_cell hv_ r2
  replace r3 := keep_cell hv_ r3
  replace s0 := keep_cell hv_ s0
  replace s1 := keep_cell hv_ s1
  replace s2 := keep_cell hv_ s2
  replace s3 := keep_cell hv_ s3
  have lt_l0 := cell_lt l0
  have lt_l1 := cell_lt l1
  have lt_o0 := cell_lt o0
  have lt_o1 := cell_lt o1
  have lt_q0 := cell_lt q0
  have lt_q1 := cell_lt q1
  have lt_q2 := cell_lt q2
  have lt_q3 := cell_lt q3
  have lt_r0 := cell_lt r0
  have lt_r1 := cell_lt r1
  have lt_r2 := cell_lt r2
  have lt_r3 := cell_lt r3
  have lt_s0 := cell_lt s0
  have lt_s1 := cell_lt s1
  have lt_s2 := cell_lt s2
  have lt_s3 := cell_lt s3
  replace zr := zr.below hv_
  replace z2 := z2.below hv_
  replace z3 := z3.below hv_
  replace f_zr := zr.fr
  replace f_z2 := z2.fr
  replace f_z3 := z3.fr
  replace HB := HB.trans (hv_.mono HB.size)
  clear hv_
  go_upto_region 6 with fail
  have e0 := keep_alloc (b := .cells #[.bool false, .slice Rd kdd cd'] 24) (at_alloc0 (W := w2) (a := .bool bc) (b := .slice Rc kc cc) (t := 24) rfl)
  have e1 := keep_alloc (b := .cells #[.bool false, .slice Rd kdd cd'] 24) (at_alloc1 (W := w2) (a := .bool bc) (b := .slice Rc kc cc) (t := 24) rfl)
  have i0 := at_alloc0 (W := w2.alloc (.cells #[.bool bc, .slice Rc kc cc] 24)) (a := .bool false) (b := .slice Rd kdd cd') (t := 24) rfl
  have i1 := at_alloc1 (W := w2.alloc (.cells #[.bool bc, .slice Rc kc cc] 24)) (a := .bool false) (b := .slice Rd kdd cd') (t := 24) rfl
  have hv_ : Below w2.heap.size w2 ((w2.alloc (.cells #[.bool bc, .slice Rc kc cc] 24)).alloc (.cells #[.bool false, .slice Rd kdd cd'] 24)) := ((Below.refl _ _).alloc (Nat.le_refl _) _).alloc (by simp) _
  simp only [World.size_alloc] at i0 i1
  generalize (w2.alloc (.cells #[.bool bc, .slice Rc kc cc] 24)).alloc (.cells #[.bool false, .slice Rd kdd cd'] 24) = v2 at *
  replace ma := ma.below hv_
  replace mb := mb.below hv_
  replace mc := mc.below hv_
  replace md' := md'.below hv_
  replace mn := mn.below hv_
  replace md := md.below hv_
  replace mm := mm.below hv_
  replace mk := mk.below hv_
  replace hmg := hmg.below hv_
  replace hown := hown.below hv_
  replace zr := zr.below hv_
  replace z2 := z2.below hv_
  replace z3 := z3.below hv_
  replace l0 := keep_cell hv_ l0
  replace l1 := keep_cell hv_ l1
  replace o0 := keep_cell hv_ o0
  replace o1 := keep_cell hv_ o1
  replace q0 := keep_cell hv_ q0
  replace q1 := keep_cell hv_ q1
  replace q2 := keep_cell hv_ q2
  replace q3 := keep_cell hv_ q3
  replace r0 := keep_cell hv_ r0
  replace r1 := keep_cell hv_ r1
  replace r2 := keep_cell hv_ r2
  replace r3 := keep_cell hv_ r3
  replace s0 := keep_cell hv_ s0
  replace s1 := keep_cell hv_ s1
  replace s2 := keep_cell hv_ s2
  replace s3 := keep_cell hv_ s3
  replace HB := HB.trans (hv_.mono HB.size)
  clear hv_
  have f_zr := zr.fr
  have f_z2 := z2.fr
  have f_z3 := z3.fr
  have lt_e0 := cell_lt e0
  have lt_i0 := cell_lt i0
  have lt_l0 := cell_lt l0
  have lt_o0 := cell_lt o0
  have lt_q0 := cell_lt q0
  have lt_r0 := cell_lt r0
  have lt_s0 := cell_lt s0
  have hkb := Ib.out.klen.2.2
  obtain ⟨⟨p, err⟩, hq⟩ : ∃ q, newE (X.1 : Nat) (X.2 : Nat) = q := ⟨_, rfl⟩
  obtain ⟨bq, kq, Xq, lq, Yq, IQ⟩ := fz p
  have HQ := hid hq
  by_cases hr : n % d = 0
  ·have HU := hid fun (w1 : World) (hw : w.heap.size ≤ w1.heap.size) (m : Mg w1 Ra ca La) (ho : OwnT w1 (w.heap.size + 1 + 1 + 1) (.slice T6 ts.length c6) ts) (ht : TMg w1 ts) => (Frunfold_gn hI (simpl_int hr) Ia.out m ho ht hc6 hc6m hq IQ).mono fun _ _ => GFn.up hw
   obtain rfl := hkb.1 hr
   clear hkb hr hq hI Ia Ib Ic Id iN iD iM iK HD1 HD2 hlen fn fd fm fk fa fc
   go_wp2_with fail
   refine (HU.out _ HB.size ma hown hmg).mono ?_
   rintro e w5 ⟨R1, e1, R2, e2, rfl, m1, m2, h5⟩
   have hv_ : Below v2.heap.size v2 w5 := Below.trans (b := _) (by repeat (first | assumption | exact Bv _ _ | refine Ba ?_ (by simp; try omega) _ | refine Bd ?_ | refine Bn ?_ _)) (h5.mono (by simp; try omega))
   replace s0 := keep_cell hv_ s0
   replace s1 := keep_cell hv_ s1
   replace s2 := keep_cell hv_ s2
   replace s3 := keep_cell hv_ s3
   have lt_s0 := cell_lt s0
   have lt_s1 := cell_lt s1
   have lt_s2 := cell_lt s2
   have lt_s3 := cell_lt s3
   replace zr := zr.below hv_
   replace f_zr := zr.fr
   replace HB := HB.trans (hv_.mono HB.size)
   clear hv_
   go_wp2
   refine bodyPost_ret (v := .tuple #[.agg #[.bool bq, .slice R1 kq e1, .bool false, .slice R2 lq e2], .int .i64 err]) ?_ rfl ?_
   ·simp [results, Tryz.results37, go_sem, s0, s1, s2, s3]
   ·obtain ⟨j1_, j2_, j3_⟩ := fin_frn m1 m2 HB (by omega) s0 s1 s2 s3 (.bool bq) (.slice R1 kq e1) (.bool false) (.slice R2 lq e2)
    rw [HQ.out]
    exact GFn.r ⟨R1, e1, R2, e2, rfl, j1_, j2_, j3_⟩ IQ.out
  ·have hkb0 : 0 < kb := hkb.2 hr
   have hkb1 : ((kb : Int) = 0) = False := by simp; omega
   by_cases hlt : n / d < m / k
   ·obtain ⟨be, ke, Le, Ie⟩ := iz ((n / d + 1 : Nat) : Int)
    have fe : fits ((n / d + 1 : Nat) : Int) := fits_mono hlt fc
    have HC := hid fun (w1 : World) (m1 : Mg w1 Ra ca La) (m2 : Mg w1 Rc cc Lc) => Cmp_g (w := w1) Ia.out Ic.out m1 m2 fa fc (-1) (by unfold zord; rw [if_pos (by omega)])
    have HA := hid fun (w1 : World) (Q : Option Addr) (e : Nat) (m1 : Mg w1 Ra ca La) (m2 : Mg w1 Q e L1) => Add_g (w := w1) Ia.out I1.out Ie.out (fitE_yes fe) m1 m2 fa (valid_int 1 (by omega) (by omega)) (by push_cast; rfl)
    have HU := hid fun (w1 : World) (hw : w.heap.size ≤ w1.heap.size) (R : Option Addr) (e : Nat) (m' : Mg w1 R e Le) (ho : OwnT w1 (w.heap.size + 1 + 1 + 1) (.slice T6 ts.length c6) ts) (ht : TMg w1 ts) => (Frunfold_gn hI (simpl_next (by omega) (by omega) hr hlt) Ie.out m' ho ht hc6 hc6m hq IQ).mono fun _ _ => GFn.up hw
    clear hkb hr hlt hq hI Ia Ib Ic Id Ie iN iD iM iK HD1 HD2 hlen fn fd fm fk fa fc fe hd0 hk0
    go_upto_region 10 with fail
    go_wp2_with fail
    refine (HC.out _ ma mc).mono ?_
    rintro e w5 ⟨rfl, h5⟩
    have hv_ : Below v2.heap.size v2 w5 := Below.trans (b := _) (by repeat (first | assumption | exact Bv _ _ | refine Ba ?_ (by simp; try omega) _ | refine Bd ?_ | refine Bn ?_ _)) (h5.mono (by simp; try omega))
    replace ma := ma.below hv_
    replace hmg := hmg.below hv_
    replace hown := hown.below hv_
    replace l0 := keep_cell hv_ l0
    replace l1 := keep_cell hv_ l1
    replace s0 := keep_cell hv_ s0
    replace s1 := keep_cell hv_ s1
    replace s2 := keep_cell hv_ s2
    replace s3 := keep_cell hv_ s3
    have lt_l0 := cell_lt l0
    have lt_l1 := cell_lt l1
    have lt_s0 := cell_lt s0
    have lt_s1 := cell_lt s1
    have lt_s2 := cell_lt s2
    have lt_s3 := cell_lt s3
    replace zr := zr.below hv_
    replace f_zr := zr.fr
    replace HB := HB.trans (hv_.mono HB.size)
    clear hv_
    go_wp2_with fail
    go_cut [12, 13] (fun s1 s2 wx => s2 = .int .i64 (0) ∧ ∃ (g : Nat) (R : Option Addr) (c : Nat), s1 = .pointer (some ⟨g, 0, none⟩) ∧ Below w5.heap.size w5 wx ∧ Mg wx R c Le ∧ wx.cell? ⟨g, 0, none⟩ = some (.bool be) ∧ wx.cell? ⟨g, 1, none⟩ = some (.slice R ke c))
    case first =>
     go_region_held3 (fun w' => w'.cell? ⟨w1.heap.size, 0, none⟩ = some (.bool false) ∧ w'.cell? ⟨w1.heap.size, 1, none⟩ = some (.slice Ra ka ca)) (first | ((try dsimp only); repeat' (first | with_reducible assumption | apply And.intro | (with_reducible refine keep_alloc ?_) | (with_reducible refine keep_drew ?_) | (with_reducible refine keep_set (by first | omega | (simp only [World.size_alloc, World.size_setCell, World.size_drew]; done) | (simp only [World.size_alloc, World.size_setCell, World.size_drew]; omega)) ?_) | (with_reducible refine keep_cell (W := w5) ?_ ?_) | fail))) (first | (go_at_call 38; (with_reducible refine (H1.out _).mono ?_); rintro e y1 ⟨Rn, cn, rfl, mn, hq_⟩; have qy1 : Below w5.heap.size w5 y1 := bel_step BG hq_; obtain ⟨hc10, hf10⟩ := bcell hq_; have hz10 := hq_.size; (try simp only [World.size_alloc, World.size_drew] at hz10); have hs10 := qy1.size; (try have hx1 : w5.heap.size < y1.heap.size := by omega)) | (go_at_call 42; (with_reducible refine (HA.out _ _ _ (ma.below BG) (mn.below BG)).mono ?_); rintro e y2 ⟨R2, c2, rfl, m2, hq_⟩; have qy2 : Below w5.heap.size w5 y2 := bel_step BG hq_; obtain ⟨hc11, hf11⟩ := bcell hq_; have hz11 := hq_.size; (try simp only [World.size_alloc, World.size_drew] at hz11); have hs11 := qy2.size; (try have hy1 : w5.heap.size < y2.heap.size := by omega); (try have hy3 : y1.heap.size < y2.heap.size := by omega)))
     all_goals
      go_wp2_with fail
      go_meet
     all_goals
      go_light
      refine ⟨rfl, _, R2, c2, rfl, BG, ?_, ?_, ?_⟩
     any_goals ((repeat' (first | with_reducible assumption | (with_reducible refine Mg.alloc ?_) | (with_reducible refine Mg.setB ?_ ?_) | (with_reducible refine Mg.setS ?_ ?_) | (with_reducible refine at_alloc0 (by first | omega | (simp only [World.size_alloc, World.size_setCell, World.size_drew]; done) | (simp only [World.size_alloc, World.size_setCell, World.size_drew]; omega))) | (with_reducible refine at_alloc1 (by first | omega | (simp only [World.size_alloc, World.size_setCell, World.size_drew]; done) | (simp only [World.size_alloc, World.size_setCell, World.size_drew]; omega))) | (with_reducible refine keep_alloc ?_) | (with_reducible refine keep_off (by omega) ?_) | (with_reducible refine keep_set (by first | omega | (simp only [World.size_alloc, World.size_setCell, World.size_drew]; done) | (simp only [World.size_alloc, World.size_setCell, World.size_drew]; omega)) ?_) | (with_reducible refine at_setB ?_) | (with_reducible refine at_setS ?_) | (with_reducible refine keep_drew ?_) | (with_reducible refine (hc11 _ _ (by first | omega | (simp only [World.size_alloc, World.size_setCell, World.size_drew]; done) | (simp only [World.size_alloc, World.size_setCell, World.size_drew]; omega))).trans ?_) | (with_reducible refine (hc10 _ _ (by first | omega | (simp only [World.size_alloc, World.size_setCell, World.size_drew]; done) | (simp only [World.size_alloc, World.size_setCell, World.size_drew]; omega))).trans ?_) | fail)); done)
    case rest =>
     obtain ⟨rfl, g9, R9, c9, rfl, hx9, m9, y0_, y1_⟩ := hcut
     have hv_ : Below w5.heap.size w5 wc := Below.trans (b := _) (by repeat (first | assumption | exact Bv _ _ | refine Ba ?_ (by simp; try omega) _ | refine Bd ?_ | refine Bn ?_ _)) (hx9.mono (by simp; try omega))
     replace hmg := hmg.below hv_
     replace hown := hown.below hv_
     replace s0 := keep_cell hv_ s0
     replace s1 := keep_cell hv_ s1
     replace s2 := keep_cell hv_ s2
     replace s3 := keep_cell hv_ s3
     have lt_s0 := cell_lt s0
     have lt_s1 := cell_lt s1
     have lt_s2 := cell_lt s2
     have lt_s3 := cell_lt s3
     replace zr := zr.below hv_
     replace f_zr := zr.fr
     replace HB := HB.trans (hv_.mono HB.size)
     clear hv_
     have lt_y := cell_lt y0_
     go_wp2_with fail
     refine (HU.out _ HB.size _ _ m9 hown hmg).mono ?_
     rintro e w7 ⟨R1, e1, R2, e2, rfl, m1, m2, h7⟩
     have hv_ : Below wc.heap.size wc w7 := Below.trans (b := _) (by repeat (first | assumption | exact Bv _ _ | refine Ba ?_ (by simp; try omega) _ | refine Bd ?_ | refine Bn ?_ _)) (h7.mono (by simp; try omega))
     replace s0 := keep_cell hv_ s0
     replace s1 := keep_cell hv_ s1
     replace s2 := keep_cell hv_ s2
     replace s3 := keep_cell hv_ s3
     have lt_s0 := cell_lt s0
     have lt_s1 := cell_lt s1
     have lt_s2 := cell_lt s2
     have lt_s3 := cell_lt s3
     replace zr := zr.below hv_
     replace f_zr := zr.fr
     replace HB := HB.trans (hv_.mono HB.size)
     clear hv_
     go_wp2
     refine bodyPost_ret (v := .tuple #[.agg #[.bool bq, .slice R1 kq e1, .bool false, .slice R2 lq e2], .int .i64 err]) ?_ rfl ?_
     ·simp [results, Tryz.results37, go_sem, s0, s1, s2, s3]
     ·obtain ⟨j1_, j2_, j3_⟩ := fin_frn m1 m2 HB (by omega) s0 s1 s2 s3 (.bool bq) (.slice R1 kq e1) (.bool false) (.slice R2 lq e2)
      rw [HQ.out]
      exact GFn.r ⟨R1, e1, R2, e2, rfl, j1_, j2_, j3_⟩ IQ.out
   ·have HC := hid fun (w1 : World) (m1 : Mg w1 Ra ca La) (m2 : Mg w1 Rc cc Lc) => Cmp_g (w := w1) Ia.out Ic.out m1 m2 fa fc _ rfl
    have hzo : 0 ≤ zord ((n / d : Nat) : Int) ((m / k : Nat) : Int) := by unfold zord; rw [if_neg (by omega)]; split <;> omega
    have HI2 := hid (hI.out.step hr hlt)
    obtain ⟨eLa, eka, _⟩ := Ia.out.klen
    have hca := hid eLa
    have hcb := hid eka
    generalize zord ((n / d : Nat) : Int) ((m / k : Nat) : Int) = zo at *
    have hbn := hI.out.n0
    obtain rfl : bn = false := iN.out.nonneg
    obtain rfl : bm = false := iM.out.nonneg
    obtain rfl : bc = false := Ic.out.nonneg
    clear hkb hr hlt hq hI Ia Ic HD1 HD2 fn fd fm fk fa fc hd0 hk0 IQ HQ eLa eka H1
    go_upto_region 10 with fail
    go_wp2_with fail
    refine (HC.out _ ma mc).mono ?_
    rintro e w5 ⟨rfl, h5⟩
    have hv_ : Below v2.heap.size v2 w5 := Below.trans (b := _) (by repeat (first | assumption | exact Bv _ _ | refine Ba ?_ (by simp; try omega) _ | refine Bd ?_ | refine Bn ?_ _)) (h5.mono (by simp; try omega))
    replace ma := ma.below hv_
    replace mb := mb.below hv_
    replace md' := md'.below hv_
    replace mn := mn.below hv_
    replace md := md.below hv_
    replace mm := mm.below hv_
    replace mk := mk.below hv_
    replace hmg := hmg.below hv_
    replace hown := hown.below hv_
    replace l0 := keep_cell hv_ l0
    replace l1 := keep_cell hv_ l1
    replace o0 := keep_cell hv_ o0
    replace o1 := keep_cell hv_ o1
    replace i0 := keep_cell hv_ i0
    replace i1 := keep_cell hv_ i1
    replace q0 := keep_cell hv_ q0
    replace q1 := keep_cell hv_ q1
    replace q2 := keep_cell hv_ q2
    replace q3 := keep_cell hv_ q3
    replace r0 := keep_cell hv_ r0
    replace r1 := keep_cell hv_ r1
    replace r2 := keep_cell hv_ r2
    replace r3 := keep_cell hv_ r3
    replace s0 := keep_cell hv_ s0
    replace s1 := keep_cell hv_ s1
    replace s2 := keep_cell hv_ s2
    replace s3 := keep_cell hv_ s3
    have lt_l0 := cell_lt l0
    have lt_l1 := cell_lt l1
    have lt_o0 := cell_lt o0
    have lt_o1 := cell_lt o1
    have lt_i0 := cell_lt i0
    have lt_i1 := cell_lt i1
    have lt_q0 := cell_lt q0
    have lt_q1 := cell_lt q1
    have lt_q2 := cell_lt q2
    have lt_q3 := cell_lt q3
    have lt_r0 := cell_lt r0
    have lt_r1 := cell_lt r1
    have lt_r2 := cell_lt r2
    have lt_r3 := cell_lt r3
    have lt_s0 := cell_lt s0
    have lt_s1 := cell_lt s1
    have lt_s2 := cell_lt s2
    have lt_s3 := cell_lt s3
    replace zr := zr.below hv_
    replace z2 := z2.below hv_
    replace z3 := z3.below hv_
    replace f_zr := zr.fr
    replace f_z2 := z2.fr
    replace f_z3 := z3.fr
    replace HB := HB.trans (hv_.mono HB.size)
    clear hv_
    have hrow : ∀ x, Value.ownBlock (.slice T6 ts.length c6) = some x → w.heap.size + 1 + 1 + 1 ≤ x ∧ x < wr.heap.size := fun x hx => ⟨(hown.own.lt x hx).1, (hown0.out.own.lt x hx).2⟩
    have hownA := hown.below ((Below.refl _ _).alloc (Nat.le_refl _) (.cells #[.bool false, .slice Ra ka ca] 24))
    go_upto_region 16 with (at_builtin; refine wpList_appT rfl (.tmp 68) (.tmp 70) rfl (w.heap.size + 1 + 1 + 1) _ ts ⟨n / d, Ra, ca⟩ w5.heap.size rfl hownA rfl (at_alloc0 rfl) ((at_alloc1 rfl).trans (by rw [hcb.out])) (by omega) (by simp; omega) ?_; intro v5 w6 hown6 hgr)
    have hne : ∀ b, b < w.heap.size + 1 + 1 + 1 ∨ wr.heap.size ≤ b → some b ≠ Value.ownBlock (.slice T6 ts.length c6) := fun b hb e => by have := hrow b e.symm; omega
    have hA := Below.alloc (Below.refl w5.heap.size w5) (Nat.le_refl _) (.cells #[.bool false, .slice Ra ka ca] 24)
    have hwA := h1.size
    replace hmg := (hmg.below hA).grown hownA hgr
    have hsz6 := hgr.size
    simp only [World.size_alloc] at hsz6
    replace HB := Below.grown (HB.trans (hA.mono HB.size)) hgr (by simp; omega) (fun x e => by have := hrow x e; omega)
    replace ma := (ma.below hA).grownT hownA hgr
    replace mb := (mb.below hA).grownT hownA hgr
    replace md := (md.below hA).grownT hownA hgr
    replace md' := (md'.below hA).grownT hownA hgr
    replace mk := (mk.below hA).grownT hownA hgr
    replace q0 := cell_grownT hgr (hne _ (by omega)) (keep_alloc q0)
    replace q1 := cell_grownT hgr (hne _ (by omega)) (keep_alloc q1)
    replace q2 := cell_grownT hgr (hne _ (by omega)) (keep_alloc q2)
    replace q3 := cell_grownT hgr (hne _ (by omega)) (keep_alloc q3)
    replace r0 := cell_grownT hgr (hne _ (by omega)) (keep_alloc r0)
    replace r1 := cell_grownT hgr (hne _ (by omega)) (keep_alloc r1)
    replace r2 := cell_grownT hgr (hne _ (by omega)) (keep_alloc r2)
    replace r3 := cell_grownT hgr (hne _ (by omega)) (keep_alloc r3)
    replace s0 := cell_grownT hgr (hne _ (by omega)) (keep_alloc s0)
    replace s1 := cell_grownT hgr (hne _ (by omega)) (keep_alloc s1)
    replace s2 := cell_grownT hgr (hne _ (by omega)) (keep_alloc s2)
    replace s3 := cell_grownT hgr (hne _ (by omega)) (keep_alloc s3)
    replace o0 := cell_grownT hgr (hne _ (by omega)) (keep_alloc o0)
    replace o1 := cell_grownT hgr (hne _ (by omega)) (keep_alloc o1)
    replace i0 := cell_grownT hgr (hne _ (by omega)) (keep_alloc i0)
    replace i1 := cell_grownT hgr (hne _ (by omega)) (keep_alloc i1)
    replace zr := Zn.grownT hgr (hne _ (by omega)) zr.alloc
    replace z2 := Zn.grownT hgr (hne _ (by omega)) z2.alloc
    replace z3 := Zn.grownT hgr (hne _ (by omega)) z3.alloc
    have f_zr := zr.fr
    have f_z2 := z2.fr
    have f_z3 := z3.fr
    have lt_o0 := cell_lt o0
    have lt_i0 := cell_lt i0
    have lt_q0 := cell_lt q0
    have lt_r0 := cell_lt r0
    have lt_s0 := cell_lt s0
    clear hownA hA hgr hown hown0 hne hrow l0 l1 mn mm e0 e1
    obtain ⟨T5, c5, rfl, hc5, hc5m⟩ := hown6.form
    have hog : w.heap.size ≠ w1.heap.size + 1 := by omega
    have HI3 : Hid (BInv X S0 ((ts ++ [Te.mk (n / d) Ra ca]).map Te.t) k (m % k) d (n % d)) := by rw [List.map_append]; exact HI2
    have HM3 : TMg w6 (ts ++ [Te.mk (n / d) Ra ca]) := hmg.snoc (by rw [← hca.out]; exact ma)
    clear HI2 hca hcb ma hmg
    generalize hts : ts ++ [Te.mk (n / d) Ra ca] = ts2 at *
    have hl2 : ts2.length = ts.length + 1 := by rw [← hts]; simp
    have hg3 : w.heap.size + 1 ≠ w.heap.size := by omega
    have hg4 : w.heap.size + 1 + 1 ≠ w.heap.size := by omega
    have hg5 : w.heap.size + 1 + 1 ≠ w.heap.size + 1 := by omega
    obtain ⟨V1, hV1⟩ : ∃ V, V = (((w6.setCell ⟨w.heap.size, 0, none⟩ (.bool false)).setCell ⟨w.heap.size, 1, none⟩ (.slice Ak kk ck)).setCell ⟨w.heap.size, 2, none⟩ (.bool false)).setCell ⟨w.heap.size, 3, none⟩ (.slice Rd kdd cd') := ⟨_, rfl⟩
    obtain ⟨p0, p1, p2, p3, hC, hM, hZ, hBl, hO⟩ := setI4F q0 q1 q2 q3 hV1
    obtain ⟨V2, hV2⟩ : ∃ V, V = (((V1.setCell ⟨w.heap.size + 1, 0, none⟩ (.bool false)).setCell ⟨w.heap.size + 1, 1, none⟩ (.slice Ad kd cd)).setCell ⟨w.heap.size + 1, 2, none⟩ (.bool false)).setCell ⟨w.heap.size + 1, 3, none⟩ (.slice Rb kb cb) := ⟨_, rfl⟩
    obtain ⟨p4, p5, p6, p7, hC2, hM2, hZ2, hBl2, hO2⟩ := setI4F (hC _ _ _ hg3 r0) (hC _ _ _ hg3 r1) (hC _ _ _ hg3 r2) (hC _ _ _ hg3 r3) hV2
    have hs2 : V2.heap.size = w6.heap.size := by rw [hV2, hV1]; simp
    have ST : BSt V2 k (m % k) d (n % d) (w.heap.size + 1 + 1) w.heap.size (w.heap.size + 1) :=
     ⟨⟨_, _, _, _, _, _, _, _, _, _, _, _, _, _, _, _, _, _, iK, Id, iD, Ib, hM2 _ _ _ (hM _ _ _ mk), hM2 _ _ _ (hM _ _ _ md'), hM2 _ _ _ (hM _ _ _ md), hM2 _ _ _ (hM _ _ _ mb), hC2 _ _ _ hg3.symm p0, hC2 _ _ _ hg3.symm p1, hC2 _ _ _ hg3.symm p2, hC2 _ _ _ hg3.symm p3, p4, p5, p6, p7⟩, ⟨_, _, _, _, _, _, _, _, hC2 _ _ _ hg5 (hC _ _ _ hg4 s0), hC2 _ _ _ hg5 (hC _ _ _ hg4 s1), hC2 _ _ _ hg5 (hC _ _ _ hg4 s2), hC2 _ _ _ hg5 (hC _ _ _ hg4 s3)⟩, hZ2 _ (hZ _ zr), hZ2 _ (hZ _ z2), hZ2 _ (hZ _ z3)⟩
    have hdr : Below V2.heap.size V2 V2.drew := (Below.refl _ _).drew
    have FIN : Hid (OwnT V2.drew (w.heap.size + 1 + 1 + 1) (.slice T5 ts2.length c5) ts2 ∧ w.heap.size + 1 + 1 + 1 ≤ V2.drew.heap.size ∧ Below w.heap.size w V2.drew ∧ Hid (TMg V2.drew ts2) ∧ Hid (BSt V2.drew k (m % k) d (n % d) (w.heap.size + 1 + 1) w.heap.size (w.heap.size + 1))) :=
     ⟨(hO2 _ _ _ (by omega) (hO _ _ _ (by omega) hown6)).below hdr, by simp only [World.size_drew]; omega, (hBl2 _ _ (by omega) (hBl _ _ (Nat.le_refl _) HB)).drew, ((HM3.mono hM).mono hM2).below hdr, ST.below hdr⟩
    rw [hV2, hV1] at FIN
    clear ST hdr hs2 hC hM hZ hBl hO hC2 hM2 hZ2 hBl2 hO2 p0 p1 p2 p3 p4 p5 p6 p7 hV2 V2 hV1 V1 HM3 hown6 hg3 hg4 hg5 mb md' mk md
    go_region_with (fail)
    all_goals
     go_wp2_with fail
     go_roundw
     case rel => exact ⟨ts2, k, m % k, d, n % d, (by first | exact FIN.out.1 | (rw [← hl2]; exact FIN.out.1)), FIN.out.2.1, FIN.out.2.2.1, FIN.out.2.2.2.1, HI3, FIN.out.2.2.2.2⟩
     case measure => simp only [lenOf]; omega
end Go.Proofs.YtfdmlfpldgobjaaGreatDoor
