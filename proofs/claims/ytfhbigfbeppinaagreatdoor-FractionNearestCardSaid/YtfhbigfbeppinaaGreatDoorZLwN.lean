/- The law FractionNearest: its walk. Conditions: none. -/
import Derived.Test.YtfhbigfbeppinaaGreatDoorZYS
import Derived.Test.YtfhbigfbeppinaaGreatDoorZNtT
set_option linter.unusedVariables false
set_option linter.unusedSimpArgs false
namespace Go.Proofs.YtfhbigfbeppinaaGreatDoor
open Go.RowKit Big

/-- an integer in its box -/
structure Ib (w : World) (g : Nat) (b : Bool) (A : Option Addr) (k c : Nat) (xs : List Nat) : Prop where
  c0 : w.cell? ⟨g, 0, none⟩ = some (.bool b)
  c1 : w.cell? ⟨g, 1, none⟩ = some (.slice A k c)
  m : Mg w A c xs
theorem Ib.below {w w' : World} {g : Nat} {b : Bool} {A : Option Addr} {k c : Nat} {xs : List Nat} (h : Ib w g b A k c xs) (hb : Below w.heap.size w w') : Ib w' g b A k c xs := ⟨keep_cell hb h.c0, keep_cell hb h.c1, h.m.below hb⟩
theorem nf_int (n : Int) : Nf (n, 1) := ⟨by simp, by simp⟩
theorem new_int {n : Int} {k : Nat} (h : n.natAbs < 2 ^ k) (hk : k ≤ 16384) : newE n 1 = ((n, 1), 0) := by
  have := newE_nf (nf_int n) (fits_bits h hk) (fits_bits (k := 1) (by simp) (by omega))
  simpa using this
theorem sz_int {n : Int} {k : Nat} (h : n.natAbs < 2 ^ k) (hk : 0 < k) : Sz k (n, 1) := ⟨h, Nat.one_lt_two_pow (by omega)⟩
theorem flr_abs {x : Int × Nat} {k : Nat} (hd : 0 < x.2) (h : Sz k x) : (flrF x).natAbs < 2 ^ k := Nat.lt_of_le_of_lt (emod_abs (n := x.1) hd).2.2 h.n
theorem rnd_bits {x : Int × Nat} {k : Nat} (hd : 0 < x.2) (h : Sz k x) : (rndF x).natAbs < 2 ^ (k + 2) := by
  have h1 := (emod_abs (n := 2 * x.1 + x.2) (d := 2 * x.2) (by omega)).2.2
  have e : ((2 * x.2 : Nat) : Int) = 2 * (x.2 : Int) := by push_cast; rfl
  rw [e] at h1
  have h2 := h.n
  have h3 := h.d
  rw [Nat.pow_add]
  unfold rndF
  generalize 2 ^ k = P at *
  omega
set_option maxRecDepth 100000 in
set_option maxHeartbeats 8000000 in
theorem FractionNearest_law {na nb : Bool} {xs ys : List Nat} {A B : Option Addr} {ca cb : Nat} {w : World} (ma : Mg w A ca xs) (mb : Mg w B cb ys) (htab : PowTab w) (hlen : LenAt w) :
    Calls Tryz.prog 13 #[.agg #[.bool na, .slice A xs.length ca, .bool nb, .slice B ys.length cb]] w (RetB w true) := by
  have HE := hid fun (w1 : World) (h : Below w.heap.size w w1) => Lex_ok w1 (htab.below h) (hlen.below h)
  obtain ⟨t1, ht1⟩ : ∃ t, (decide (xs.length ≤ 3) && decide (ys.length ≤ 3)) = t := ⟨_, rfl⟩
  have HT1 := hid fun (w1 : World) (h : Below w.heap.size w w1) => Ltiny_g (na := na) (nb := nb) (A := A) (B := B) (ca := ca) (cb := cb) (w := w1) t1 ht1
  have HV1 := hid fun (w1 : World) (h : Below w.heap.size w w1) => FrValid_any (na := na) (nb := nb) (w := w1) (ma.below h) (mb.below h)
  cases t1
  · clear HV1 ht1
    clear ma mb
    generalize xs.length = ka at *
    generalize ys.length = la at *
    go_enter Tryz.func13, Tryz.ntmps13
    go_wp2_with fail
    refine enterF (P := fun u => Calls _ _ _ u _) ?_
    intro u HB q0 q1 q2 q3 z1 hsz
    clear hsz
    have f_z1 := z1.fr
    have lt_q0 := cell_lt q0
    refine (HT1.out _ HB).mono ?_
    rintro e w1 ⟨rfl, ht_⟩
    have hv_ : Below u.heap.size u w1 := Below.trans (b := _) (by repeat (first | assumption | exact Below.refl _ _ | refine Below.alloc ?_ (by simp; try omega) _ | refine Below.drew ?_ | refine below_drewN ?_ _)) (ht_.mono (by simp; try omega))
    replace q0 := keep_cell hv_ q0
    replace q1 := keep_cell hv_ q1
    replace q2 := keep_cell hv_ q2
    replace q3 := keep_cell hv_ q3
    have lt_q0 := cell_lt q0
    have lt_q1 := cell_lt q1
    have lt_q2 := cell_lt q2
    have lt_q3 := cell_lt q3
    replace HB := HB.trans (hv_.mono HB.size)
    clear hv_
    go_wp2_with fail
    refine (HE.out _ HB).mono ?_
    rintro e we ⟨rfl, hwe⟩
    go_wp2
    go_ret
    exact ⟨rfl, bel_step HB hwe⟩
  cases v1 : fvB na xs nb ys
  · rw [v1] at HV1
    clear ht1 v1
    clear ma mb
    generalize xs.length = ka at *
    generalize ys.length = la at *
    go_enter Tryz.func13, Tryz.ntmps13
    go_wp2_with fail
    refine enterF (P := fun u => Calls _ _ _ u _) ?_
    intro u HB q0 q1 q2 q3 z1 hsz
    clear hsz
    have f_z1 := z1.fr
    have lt_q0 := cell_lt q0
    refine (HT1.out _ HB).mono ?_
    rintro e w1 ⟨rfl, ht_⟩
    have hv_ : Below u.heap.size u w1 := Below.trans (b := _) (by repeat (first | assumption | exact Below.refl _ _ | refine Below.alloc ?_ (by simp; try omega) _ | refine Below.drew ?_ | refine below_drewN ?_ _)) (ht_.mono (by simp; try omega))
    replace q0 := keep_cell hv_ q0
    replace q1 := keep_cell hv_ q1
    replace q2 := keep_cell hv_ q2
    replace q3 := keep_cell hv_ q3
    have lt_q0 := cell_lt q0
    have lt_q1 := cell_lt q1
    have lt_q2 := cell_lt q2
    have lt_q3 := cell_lt q3
    replace HB := HB.trans (hv_.mono HB.size)
    clear hv_
    go_wp2_with fail
    refine (HV1.out _ HB).mono ?_
    rintro e w2 ⟨rfl, ht_⟩
    have hv_ : Below w1.heap.size w1 w2 := Below.trans (b := _) (by repeat (first | assumption | exact Below.refl _ _ | refine Below.alloc ?_ (by simp; try omega) _ | refine Below.drew ?_ | refine below_drewN ?_ _)) (ht_.mono (by simp; try omega))
    replace HB := HB.trans (hv_.mono HB.size)
    clear hv_
    go_wp2_with fail
    refine (HE.out _ HB).mono ?_
    rintro e we ⟨rfl, hwe⟩
    go_wp2
    go_ret
    exact ⟨rfl, bel_step HB hwe⟩
  rw [v1] at HV1
  obtain ⟨rfl, p1, p2, p3, p4, p5, p6⟩ := fvB_ok ma.ok mb.ok v1
  have IF : Hid (Fz (sg na (val xs), val ys) na xs.length xs ys.length ys) := ⟨p1, by rw [natAbs_sg]; exact p2, rfl, p3, rfl⟩
  obtain ⟨f, hf⟩ : ∃ f, (sg na (val xs), val ys) = f := ⟨_, rfl⟩
  rw [hf] at IF p4
  have NF := p4
  simp only [Bool.and_eq_true, decide_eq_true_eq] at ht1
  have sf : Sz 96 f := Sz.of_limbs (m := 3) (by rw [IF.out.n.len]; exact ht1.1) (by rw [IF.out.d.len]; exact ht1.2)
  clear hf v1 p1 p2 p3 p4 p5 p6
  have vf := sf.vf (by omega) NF
  have hn := flr_abs NF.1 sf
  have hm := rnd_bits NF.1 sf
  have sn := sz_int hn (by omega)
  have sm := sz_int hm (by omega)
  have s1 : Sz 1 ((1 : Int), 1) := ⟨by decide, by decide⟩
  have s2 : Sz 2 ((1 : Int), 2) := ⟨by decide, by decide⟩
  have n2 : Nf ((1 : Int), 2) := ⟨by decide, by decide⟩
  have snx := fadd_sz sn s1
  have sfr := fsub_sz sm s2
  have sto := fadd_sz sm s2
  obtain ⟨f1, f2, f3, f4⟩ := near_facts NF
  obtain ⟨b1, k1, X1, l1, Y1, I1⟩ := fz ((1 : Int), 1)
  obtain ⟨b2, k2, X2, l2, Y2, I2⟩ := fz ((1 : Int), 2)
  obtain ⟨blo, klo, Xlo, llo, Ylo, Ilo⟩ := fz (flrF f, 1)
  obtain ⟨bne_, kne_, Xne_, lne_, Yne_, Ine_⟩ := fz (rndF f, 1)
  obtain ⟨bnx, knx, Xnx, lnx, Ynx, Inx⟩ := fz (fadd (flrF f, 1) (1, 1))
  obtain ⟨bfr, kfr, Xfr, lfr, Yfr, Ifr⟩ := fz (fsub (rndF f, 1) (1, 2))
  obtain ⟨bto, kto, Xto, lto, Yto, Ito⟩ := fz (fadd (rndF f, 1) (1, 2))
  obtain ⟨bi, ki, Xi, Ii⟩ := iz (flrF f)
  obtain ⟨bj, kj, Xj, Ij⟩ := iz (rndF f)
  have H1 := hid fun (w1 : World) => Lof_g (w := w1) (x := 1) (y := 1) (by omega) (by omega) (by omega) (by omega) n_1_1 I1.out
  have H2 := hid fun (w1 : World) => Lof_g (w := w1) (x := 1) (y := 2) (by omega) (by omega) (by omega) (by omega) n_1_2 I2.out
  have HF := hid fun (w1 : World) (h : Below w.heap.size w w1) => FrFloor_f (w := w1) IF.out vf rfl Ii.out (ma.below h) (mb.below h)
  have HR := hid fun (w1 : World) (h : Below w.heap.size w w1) => FrRound_f (w := w1) IF.out vf rfl Ij.out (ma.below h) (mb.below h)
  have HN1 := hid fun (w1 : World) (R Q : Option Addr) (c d : Nat) (m1 : Mg w1 R c Xi) (m2 : Mg w1 Q d X1) => FrNew_z (w1 := w1) Ii.out I1.out.num (fits_bits hn (by omega)) (valid_int 1 (by omega) (by omega)) (new_int hn (by omega)) Ilo.out m1 m2
  have HN2 := hid fun (w1 : World) (R Q : Option Addr) (c d : Nat) (m1 : Mg w1 R c Xj) (m2 : Mg w1 Q d X1) => FrNew_z (w1 := w1) Ij.out I1.out.num (fits_bits hm (by omega)) (valid_int 1 (by omega) (by omega)) (new_int hm (by omega)) Ine_.out m1 m2
  have vlo := sn.vf (by omega) (nf_int _)
  have vne := sm.vf (by omega) (nf_int _)
  have v_1 := s1.vf (by omega) (nf_int _)
  have v_2 := s2.vf (by omega) n2
  have HH13 := hid fun (w1 : World) (R Q R' Q' : Option Addr) (c d c' d' : Nat) (m1 : Mg w1 R c Xlo) (m2 : Mg w1 Q d Ylo) (m3 : Mg w1 R' c' X1) (m4 : Mg w1 Q' d' Y1) => FrAdd_f (w := w1) Ilo.out I1.out vlo v_1 (addE_sz sn s1 (by omega)) Inx.out m1 m2 m3 m4
  have HH14 := hid fun (w1 : World) (R Q R' Q' : Option Addr) (c d c' d' : Nat) (m1 : Mg w1 R c Xne_) (m2 : Mg w1 Q d Yne_) (m3 : Mg w1 R' c' X2) (m4 : Mg w1 Q' d' Y2) => FrSub_f (w := w1) Ine_.out I2.out vne v_2 (subE_sz sm s2 (by omega)) Ifr.out m1 m2 m3 m4
  have HH15 := hid fun (w1 : World) (R Q R' Q' : Option Addr) (c d c' d' : Nat) (m1 : Mg w1 R c Xne_) (m2 : Mg w1 Q d Yne_) (m3 : Mg w1 R' c' X2) (m4 : Mg w1 Q' d' Y2) => FrAdd_f (w := w1) Ine_.out I2.out vne v_2 (addE_sz sm s2 (by omega)) Ito.out m1 m2 m3 m4
  obtain ⟨z1, hz1⟩ : ∃ z, cmpF (flrF f, 1) f = z := ⟨_, rfl⟩
  obtain ⟨z2, hz2⟩ : ∃ z, cmpF f (fadd (flrF f, 1) (1, 1)) = z := ⟨_, rfl⟩
  obtain ⟨z3, hz3⟩ : ∃ z, cmpF (fsub (rndF f, 1) (1, 2)) f = z := ⟨_, rfl⟩
  obtain ⟨z4, hz4⟩ : ∃ z, cmpF f (fadd (rndF f, 1) (1, 2)) = z := ⟨_, rfl⟩
  rw [hz1] at f1
  rw [hz2] at f2
  rw [hz3] at f3
  rw [hz4] at f4
  have HH16 := hid fun (w1 : World) (R Q R' Q' : Option Addr) (c d c' d' : Nat) (m1 : Mg w1 R c Xlo) (m2 : Mg w1 Q d Ylo) (m3 : Mg w1 R' c' xs) (m4 : Mg w1 Q' d' ys) => FrCmp_f (w := w1) Ilo.out IF.out vlo vf _ hz1 m1 m2 m3 m4
  have HH17 := hid fun (w1 : World) (R Q R' Q' : Option Addr) (c d c' d' : Nat) (m1 : Mg w1 R c xs) (m2 : Mg w1 Q d ys) (m3 : Mg w1 R' c' Xnx) (m4 : Mg w1 Q' d' Ynx) => FrCmp_f (w := w1) IF.out Inx.out vf (snx.vf (by omega) (fadd_nf (nf_int _) (nf_int _))) _ hz2 m1 m2 m3 m4
  have HH18 := hid fun (w1 : World) (R Q R' Q' : Option Addr) (c d c' d' : Nat) (m1 : Mg w1 R c Xfr) (m2 : Mg w1 Q d Yfr) (m3 : Mg w1 R' c' xs) (m4 : Mg w1 Q' d' ys) => FrCmp_f (w := w1) Ifr.out IF.out (sfr.vf (by omega) (fsub_nf (nf_int _) n2)) vf _ hz3 m1 m2 m3 m4
  have HH19 := hid fun (w1 : World) (R Q R' Q' : Option Addr) (c d c' d' : Nat) (m1 : Mg w1 R c xs) (m2 : Mg w1 Q d ys) (m3 : Mg w1 R' c' Xto) (m4 : Mg w1 Q' d' Yto) => FrCmp_f (w := w1) IF.out Ito.out vf (sto.vf (by omega) (fadd_nf (nf_int _) n2)) _ hz4 m1 m2 m3 m4
  have MM := hid fun (w1 : World) (h : Below w.heap.size w w1) => And.intro (ma.below h) (mb.below h)
  clear ht1 IF NF sf vf hn hm sn sm s1 s2 n2 snx sfr sto I1 I2 Ilo Ine_ Inx Ifr Ito Ii Ij vlo vne v_1 v_2 hz1 hz2 hz3 hz4
  have HFF := hid (And.intro (And.intro f1 f2) (And.intro f3 f4))
  clear f1 f2 f3 f4
  clear ma mb
  generalize xs.length = ka at *
  generalize ys.length = la at *
  go_enter Tryz.func13, Tryz.ntmps13
  go_wp2_with fail
  refine enterF (P := fun u => Calls _ _ _ u _) ?_
  intro u HB q0 q1 q2 q3 z1 hsz
  clear hsz
  have f_z1 := z1.fr
  have lt_q0 := cell_lt q0
  refine (HT1.out _ HB).mono ?_
  rintro e w1 ⟨rfl, ht_⟩
  have hv_ : Below u.heap.size u w1 := Below.trans (b := _) (by repeat (first | assumption | exact Below.refl _ _ | refine Below.alloc ?_ (by simp; try omega) _ | refine Below.drew ?_ | refine below_drewN ?_ _)) (ht_.mono (by simp; try omega))
  replace q0 := keep_cell hv_ q0
  replace q1 := keep_cell hv_ q1
  replace q2 := keep_cell hv_ q2
  replace q3 := keep_cell hv_ q3
  have lt_q0 := cell_lt q0
  have lt_q1 := cell_lt q1
  have lt_q2 := cell_lt q2
  have lt_q3 := cell_lt q3
  replace HB := HB.trans (hv_.mono HB.size)
  clear hv_
  go_wp2_with fail
  refine (HV1.out _ HB).mono ?_
  rintro e w2 ⟨rfl, ht_⟩
  have hv_ : Below w1.heap.size w1 w2 := Below.trans (b := _) (by repeat (first | assumption | exact Below.refl _ _ | refine Below.alloc ?_ (by simp; try omega) _ | refine Below.drew ?_ | refine below_drewN ?_ _)) (ht_.mono (by simp; try omega))
  replace q0 := keep_cell hv_ q0
  replace q1 := keep_cell hv_ q1
  replace q2 := keep_cell hv_ q2
  replace q3 := keep_cell hv_ q3
  have lt_q0 := cell_lt q0
  have lt_q1 := cell_lt q1
  have lt_q2 := cell_lt q2
  have lt_q3 := cell_lt q3
  replace HB := HB.trans (hv_.mono HB.size)
  clear hv_
  obtain ⟨n1_, n2_⟩ := MM.out _ HB
  have fa : Fb w2 w.heap.size na A ka ca xs B la cb ys := ⟨q0, q1, q2, q3, n1_, n2_⟩
  clear q0 q1 q2 q3 n1_ n2_ HT1 HV1 MM lt_q0 lt_q1 lt_q2 lt_q3
  go_wp2_with fail
  refine (H1.out _).mono ?_
  rintro e w3 ⟨R3, c3, Q3, d3, rfl, m_, n_, h_⟩
  have hv_ : Below w2.heap.size w2 w3 := Below.trans (b := _) (by repeat (first | assumption | exact Below.refl _ _ | refine Below.alloc ?_ (by simp; try omega) _ | refine Below.drew ?_ | refine below_drewN ?_ _)) (h_.mono (by simp; try omega))
  replace fa := fa.below hv_
  replace HB := HB.trans (hv_.mono HB.size)
  clear hv_
  go_upto_region 4 with fail
  have o1 : Fb (w3.alloc (.cells #[.bool b1, .slice R3 k1 c3, .bool false, .slice Q3 l1 d3] 26)) w3.heap.size b1 R3 k1 c3 X1 Q3 l1 d3 Y1 := ⟨at_allocF0 rfl, at_allocF1 rfl, at_allocF2 rfl, at_allocF3 rfl, m_.alloc, n_.alloc⟩
  have hv_ : Below w3.heap.size w3 (w3.alloc (.cells #[.bool b1, .slice R3 k1 c3, .bool false, .slice Q3 l1 d3] 26)) := (Below.refl _ _).alloc (Nat.le_refl _) _
  generalize w3.alloc (.cells #[.bool b1, .slice R3 k1 c3, .bool false, .slice Q3 l1 d3] 26) = u3 at *
  replace fa := fa.below hv_
  replace HB := HB.trans (hv_.mono HB.size)
  clear hv_ m_ n_
  go_wp2_with fail
  refine (H2.out _).mono ?_
  rintro e w4 ⟨R4, c4, Q4, d4, rfl, m_, n_, h_⟩
  have hv_ : Below u3.heap.size u3 w4 := Below.trans (b := _) (by repeat (first | assumption | exact Below.refl _ _ | refine Below.alloc ?_ (by simp; try omega) _ | refine Below.drew ?_ | refine below_drewN ?_ _)) (h_.mono (by simp; try omega))
  replace fa := fa.below hv_
  replace o1 := o1.below hv_
  replace HB := HB.trans (hv_.mono HB.size)
  clear hv_
  go_upto_region 5 with fail
  have o2 : Fb (w4.alloc (.cells #[.bool b2, .slice R4 k2 c4, .bool false, .slice Q4 l2 d4] 26)) w4.heap.size b2 R4 k2 c4 X2 Q4 l2 d4 Y2 := ⟨at_allocF0 rfl, at_allocF1 rfl, at_allocF2 rfl, at_allocF3 rfl, m_.alloc, n_.alloc⟩
  have hv_ : Below w4.heap.size w4 (w4.alloc (.cells #[.bool b2, .slice R4 k2 c4, .bool false, .slice Q4 l2 d4] 26)) := (Below.refl _ _).alloc (Nat.le_refl _) _
  generalize w4.alloc (.cells #[.bool b2, .slice R4 k2 c4, .bool false, .slice Q4 l2 d4] 26) = u4 at *
  replace fa := fa.below hv_
  replace o1 := o1.below hv_
  replace HB := HB.trans (hv_.mono HB.size)
  clear hv_ m_ n_
  have q0 := fa.c0
  have q1 := fa.c1
  have q2 := fa.c2
  have q3 := fa.c3
  have lt_q := cell_lt q0
  go_wp2_with fail
  refine (HF.out _ HB).mono ?_
  rintro e w5 ⟨R5, c5, rfl, m_, h_⟩
  have hv_ : Below u4.heap.size u4 w5 := Below.trans (b := _) (by repeat (first | assumption | exact Below.refl _ _ | refine Below.alloc ?_ (by simp; try omega) _ | refine Below.drew ?_ | refine below_drewN ?_ _)) (h_.mono (by simp; try omega))
  replace fa := fa.below hv_
  replace o1 := o1.below hv_
  replace o2 := o2.below hv_
  replace HB := HB.trans (hv_.mono HB.size)
  clear hv_
  clear q0 q1 q2 q3 lt_q
  go_upto_region 6 with fail
  have oi : Ib (w5.alloc (.cells #[.bool bi, .slice R5 ki c5] 24)) w5.heap.size bi R5 ki c5 Xi := ⟨at_alloc0 rfl, at_alloc1 rfl, m_.alloc⟩
  have hv_ : Below w5.heap.size w5 (w5.alloc (.cells #[.bool bi, .slice R5 ki c5] 24)) := (Below.refl _ _).alloc (Nat.le_refl _) _
  generalize w5.alloc (.cells #[.bool bi, .slice R5 ki c5] 24) = u5 at *
  replace fa := fa.below hv_
  replace o1 := o1.below hv_
  replace o2 := o2.below hv_
  replace HB := HB.trans (hv_.mono HB.size)
  clear hv_ m_
  have q0 := fa.c0
  have q1 := fa.c1
  have q2 := fa.c2
  have q3 := fa.c3
  have lt_q := cell_lt q0
  go_wp2_with fail
  refine (HR.out _ HB).mono ?_
  rintro e w6 ⟨R6, c6, rfl, m_, h_⟩
  have hv_ : Below u5.heap.size u5 w6 := Below.trans (b := _) (by repeat (first | assumption | exact Below.refl _ _ | refine Below.alloc ?_ (by simp; try omega) _ | refine Below.drew ?_ | refine below_drewN ?_ _)) (h_.mono (by simp; try omega))
  replace fa := fa.below hv_
  replace o1 := o1.below hv_
  replace o2 := o2.below hv_
  replace oi := oi.below hv_
  replace HB := HB.trans (hv_.mono HB.size)
  clear hv_
  clear q0 q1 q2 q3 lt_q
  go_upto_region 7 with fail
  have oj : Ib (w6.alloc (.cells #[.bool bj, .slice R6 kj c6] 24)) w6.heap.size bj R6 kj c6 Xj := ⟨at_alloc0 rfl, at_alloc1 rfl, m_.alloc⟩
  have hv_ : Below w6.heap.size w6 (w6.alloc (.cells #[.bool bj, .slice R6 kj c6] 24)) := (Below.refl _ _).alloc (Nat.le_refl _) _
  generalize w6.alloc (.cells #[.bool bj, .slice R6 kj c6] 24) = u6 at *
  replace fa := fa.below hv_
  replace o1 := o1.below hv_
  replace o2 := o2.below hv_
  replace oi := oi.below hv_
  replace HB := HB.trans (hv_.mono HB.size)
  clear hv_ m_
  have q0 := o1.c0
  have q1 := o1.c1
  have q2 := o1.c2
  have q3 := o1.c3
  have i0 := oi.c0
  have i1 := oi.c1
  have lt_q := cell_lt q0
  have lt_i := cell_lt i0
  go_wp2_with fail
  refine (HN1.out _ _ _ _ _ oi.m o1.m).mono ?_
  rintro e w7 ⟨R7, c7, Q7, d7, rfl, m_, n_, h_⟩
  have hv_ : Below u6.heap.size u6 w7 := Below.trans (b := _) (by repeat (first | assumption | exact Below.refl _ _ | refine Below.alloc ?_ (by simp; try omega) _ | refine Below.drew ?_ | refine below_drewN ?_ _)) (h_.mono (by simp; try omega))
  replace fa := fa.below hv_
  replace o1 := o1.below hv_
  replace o2 := o2.below hv_
  replace oj := oj.below hv_
  replace HB := HB.trans (hv_.mono HB.size)
  clear hv_
  clear q0 q1 q2 q3 lt_q i0 i1 lt_i oi
  go_upto_region 10 with fail
  have o9 : Fb (w7.alloc (.cells #[.bool blo, .slice R7 klo c7, .bool false, .slice Q7 llo d7] 26)) w7.heap.size blo R7 klo c7 Xlo Q7 llo d7 Ylo := ⟨at_allocF0 rfl, at_allocF1 rfl, at_allocF2 rfl, at_allocF3 rfl, m_.alloc, n_.alloc⟩
  have hv_ : Below w7.heap.size w7 (w7.alloc (.cells #[.bool blo, .slice R7 klo c7, .bool false, .slice Q7 llo d7] 26)) := (Below.refl _ _).alloc (Nat.le_refl _) _
  generalize w7.alloc (.cells #[.bool blo, .slice R7 klo c7, .bool false, .slice Q7 llo d7] 26) = u7 at *
  replace fa := fa.below hv_
  replace o1 := o1.below hv_
  replace o2 := o2.below hv_
  replace oj := oj.below hv_
  replace HB := HB.trans (hv_.mono HB.size)
  clear hv_ m_ n_
  have q0 := o1.c0
  have q1 := o1.c1
  have q2 := o1.c2
  have q3 := o1.c3
  have i0 := oj.c0
  have i1 := oj.c1
  have lt_q := cell_lt q0
  have lt_i := cell_lt i0
  go_wp2_with fail
  refine (HN2.out _ _ _ _ _ oj.m o1.m).mono ?_
  rintro e w8 ⟨R8, c8, Q8, d8, rfl, m_, n_, h_⟩
  have hv_ : Below u7.heap.size u7 w8 := Below.trans (b := _) (by repeat (first | assumption | exact Below.refl _ _ | refine Below.alloc ?_ (by simp; try omega) _ | refine Below.drew ?_ | refine below_drewN ?_ _)) (h_.mono (by simp; try omega))
  replace fa := fa.below hv_
  replace o1 := o1.below hv_
  replace o2 := o2.below hv_
  replace o9 := o9.below hv_
  replace HB := HB.trans (hv_.mono HB.size)
  clear hv_
  clear q0 q1 q2 q3 lt_q i0 i1 lt_i oj
  go_upto_region 11 with fail
  have o11 : Fb (w8.alloc (.cells #[.bool bne_, .slice R8 kne_ c8, .bool false, .slice Q8 lne_ d8] 26)) w8.heap.size bne_ R8 kne_ c8 Xne_ Q8 lne_ d8 Yne_ := ⟨at_allocF0 rfl, at_allocF1 rfl, at_allocF2 rfl, at_allocF3 rfl, m_.alloc, n_.alloc⟩
  have hv_ : Below w8.heap.size w8 (w8.alloc (.cells #[.bool bne_, .slice R8 kne_ c8, .bool false, .slice Q8 lne_ d8] 26)) := (Below.refl _ _).alloc (Nat.le_refl _) _
  generalize w8.alloc (.cells #[.bool bne_, .slice R8 kne_ c8, .bool false, .slice Q8 lne_ d8] 26) = u8 at *
  replace fa := fa.below hv_
  replace o1 := o1.below hv_
  replace o2 := o2.below hv_
  replace o9 := o9.below hv_
  replace HB := HB.trans (hv_.mono HB.size)
  clear hv_ m_ n_
  have e0 := o9.c0
  have e1 := o9.c1
  have e2 := o9.c2
  have e3 := o9.c3
  have f0 := o1.c0
  have f1 := o1.c1
  have f2 := o1.c2
  have f3 := o1.c3
  have lt_e0 := cell_lt e0
  have lt_f0 := cell_lt f0
  go_wp2_with fail
  refine (HH13.out _ _ _ _ _ _ _ _ _ o9.m o9.n o1.m o1.n).mono ?_
  rintro e v13 ⟨R13_, c13_, Q13_, d13_, rfl, m_, n_, h_⟩
  clear e0 e1 e2 e3 f0 f1 f2 f3 lt_e0 lt_f0
  have hv_ : Below u8.heap.size u8 v13 := Below.trans (b := _) (by repeat (first | assumption | exact Below.refl _ _ | refine Below.alloc ?_ (by simp; try omega) _ | refine Below.drew ?_ | refine below_drewN ?_ _)) (h_.mono (by simp; try omega))
  replace fa := fa.below hv_
  replace o2 := o2.below hv_
  replace o9 := o9.below hv_
  replace o11 := o11.below hv_
  replace HB := HB.trans (hv_.mono HB.size)
  clear hv_
  go_upto_region 14 with fail
  have o13 : Fb (v13.alloc (.cells #[.bool bnx, .slice R13_ knx c13_, .bool false, .slice Q13_ lnx d13_] 26)) v13.heap.size bnx R13_ knx c13_ Xnx Q13_ lnx d13_ Ynx := ⟨at_allocF0 rfl, at_allocF1 rfl, at_allocF2 rfl, at_allocF3 rfl, m_.alloc, n_.alloc⟩
  have hv_ : Below v13.heap.size v13 (v13.alloc (.cells #[.bool bnx, .slice R13_ knx c13_, .bool false, .slice Q13_ lnx d13_] 26)) := (Below.refl _ _).alloc (Nat.le_refl _) _
  generalize v13.alloc (.cells #[.bool bnx, .slice R13_ knx c13_, .bool false, .slice Q13_ lnx d13_] 26) = u13 at *
  replace fa := fa.below hv_
  replace o2 := o2.below hv_
  replace o9 := o9.below hv_
  replace o11 := o11.below hv_
  replace HB := HB.trans (hv_.mono HB.size)
  clear hv_ m_ n_
  have e0 := o11.c0
  have e1 := o11.c1
  have e2 := o11.c2
  have e3 := o11.c3
  have f0 := o2.c0
  have f1 := o2.c1
  have f2 := o2.c2
  have f3 := o2.c3
  have lt_e0 := cell_lt e0
  have lt_f0 := cell_lt f0
  go_wp2_with fail
  refine (HH14.out _ _ _ _ _ _ _ _ _ o11.m o11.n o2.m o2.n).mono ?_
  rintro e v14 ⟨R14_, c14_, Q14_, d14_, rfl, m_, n_, h_⟩
  clear e0 e1 e2 e3 f0 f1 f2 f3 lt_e0 lt_f0
  have hv_ : Below u13.heap.size u13 v14 := Below.trans (b := _) (by repeat (first | assumption | exact Below.refl _ _ | refine Below.alloc ?_ (by simp; try omega) _ | refine Below.drew ?_ | refine below_drewN ?_ _)) (h_.mono (by simp; try omega))
  replace fa := fa.below hv_
  replace o2 := o2.below hv_
  replace o9 := o9.below hv_
  replace o11 := o11.below hv_
  replace o13 := o13.below hv_
  replace HB := HB.trans (hv_.mono HB.size)
  clear hv_
  go_upto_region 15 with fail
  have o14 : Fb (v14.alloc (.cells #[.bool bfr, .slice R14_ kfr c14_, .bool false, .slice Q14_ lfr d14_] 26)) v14.heap.size bfr R14_ kfr c14_ Xfr Q14_ lfr d14_ Yfr := ⟨at_allocF0 rfl, at_allocF1 rfl, at_allocF2 rfl, at_allocF3 rfl, m_.alloc, n_.alloc⟩
  have hv_ : Below v14.heap.size v14 (v14.alloc (.cells #[.bool bfr, .slice R14_ kfr c14_, .bool false, .slice Q14_ lfr d14_] 26)) := (Below.refl _ _).alloc (Nat.le_refl _) _
  generalize v14.alloc (.cells #[.bool bfr, .slice R14_ kfr c14_, .bool false, .slice Q14_ lfr d14_] 26) = u14 at *
  replace fa := fa.below hv_
  replace o2 := o2.below hv_
  replace o9 := o9.below hv_
  replace o11 := o11.below hv_
  replace o13 := o13.below hv_
  replace HB := HB.trans (hv_.mono HB.size)
  clear hv_ m_ n_
  have e0 := o11.c0
  have e1 := o11.c1
  have e2 := o11.c2
  have e3 := o11.c3
  have f0 := o2.c0
  have f1 := o2.c1
  have f2 := o2.c2
  have f3 := o2.c3
  have lt_e0 := cell_lt e0
  have lt_f0 := cell_lt f0
  go_wp2_with fail
  refine (HH15.out _ _ _ _ _ _ _ _ _ o11.m o11.n o2.m o2.n).mono ?_
  rintro e v15 ⟨R15_, c15_, Q15_, d15_, rfl, m_, n_, h_⟩
  clear e0 e1 e2 e3 f0 f1 f2 f3 lt_e0 lt_f0
  have hv_ : Below u14.heap.size u14 v15 := Below.trans (b := _) (by repeat (first | assumption | exact Below.refl _ _ | refine Below.alloc ?_ (by simp; try omega) _ | refine Below.drew ?_ | refine below_drewN ?_ _)) (h_.mono (by simp; try omega))
  replace fa := fa.below hv_
  replace o9 := o9.below hv_
  replace o13 := o13.below hv_
  replace o14 := o14.below hv_
  replace HB := HB.trans (hv_.mono HB.size)
  clear hv_
  go_upto_region 16 with fail
  have o15 : Fb (v15.alloc (.cells #[.bool bto, .slice R15_ kto c15_, .bool false, .slice Q15_ lto d15_] 26)) v15.heap.size bto R15_ kto c15_ Xto Q15_ lto d15_ Yto := ⟨at_allocF0 rfl, at_allocF1 rfl, at_allocF2 rfl, at_allocF3 rfl, m_.alloc, n_.alloc⟩
  have hv_ : Below v15.heap.size v15 (v15.alloc (.cells #[.bool bto, .slice R15_ kto c15_, .bool false, .slice Q15_ lto d15_] 26)) := (Below.refl _ _).alloc (Nat.le_refl _) _
  generalize v15.alloc (.cells #[.bool bto, .slice R15_ kto c15_, .bool false, .slice Q15_ lto d15_] 26) = u15 at *
  replace fa := fa.below hv_
  replace o9 := o9.below hv_
  replace o13 := o13.below hv_
  replace o14 := o14.below hv_
  replace HB := HB.trans (hv_.mono HB.size)
  clear hv_ m_ n_
  have e0 := o9.c0
  have e1 := o9.c1
  have e2 := o9.c2
  have e3 := o9.c3
  have f0 := fa.c0
  have f1 := fa.c1
  have f2 := fa.c2
  have f3 := fa.c3
  have lt_e0 := cell_lt e0
  have lt_f0 := cell_lt f0
  go_wp2_with fail
  refine (HH16.out _ _ _ _ _ _ _ _ _ o9.m o9.n fa.m fa.n).mono ?_
  rintro e v16 ⟨rfl, h_⟩
  clear e0 e1 e2 e3 f0 f1 f2 f3 lt_e0 lt_f0
  have hv_ : Below u15.heap.size u15 v16 := Below.trans (b := _) (by repeat (first | assumption | exact Below.refl _ _ | refine Below.alloc ?_ (by simp; try omega) _ | refine Below.drew ?_ | refine below_drewN ?_ _)) (h_.mono (by simp; try omega))
  replace fa := fa.below hv_
  replace o13 := o13.below hv_
  replace o14 := o14.below hv_
  replace o15 := o15.below hv_
  replace HB := HB.trans (hv_.mono HB.size)
  clear hv_
  have e0 := fa.c0
  have e1 := fa.c1
  have e2 := fa.c2
  have e3 := fa.c3
  have f0 := o13.c0
  have f1 := o13.c1
  have f2 := o13.c2
  have f3 := o13.c3
  have lt_e0 := cell_lt e0
  have lt_f0 := cell_lt f0
  go_wp2_with fail
  refine (HH17.out _ _ _ _ _ _ _ _ _ fa.m fa.n o13.m o13.n).mono ?_
  rintro e v17 ⟨rfl, h_⟩
  clear e0 e1 e2 e3 f0 f1 f2 f3 lt_e0 lt_f0
  have hv_ : Below v16.heap.size v16 v17 := Below.trans (b := _) (by repeat (first | assumption | exact Below.refl _ _ | refine Below.alloc ?_ (by simp; try omega) _ | refine Below.drew ?_ | refine below_drewN ?_ _)) (h_.mono (by simp; try omega))
  replace fa := fa.below hv_
  replace o14 := o14.below hv_
  replace o15 := o15.below hv_
  replace HB := HB.trans (hv_.mono HB.size)
  clear hv_
  have e0 := o14.c0
  have e1 := o14.c1
  have e2 := o14.c2
  have e3 := o14.c3
  have f0 := fa.c0
  have f1 := fa.c1
  have f2 := fa.c2
  have f3 := fa.c3
  have lt_e0 := cell_lt e0
  have lt_f0 := cell_lt f0
  go_wp2_with fail
  refine (HH18.out _ _ _ _ _ _ _ _ _ o14.m o14.n fa.m fa.n).mono ?_
  rintro e v18 ⟨rfl, h_⟩
  clear e0 e1 e2 e3 f0 f1 f2 f3 lt_e0 lt_f0
  have hv_ : Below v17.heap.size v17 v18 := Below.trans (b := _) (by repeat (first | assumption | exact Below.refl _ _ | refine Below.alloc ?_ (by simp; try omega) _ | refine Below.drew ?_ | refine below_drewN ?_ _)) (h_.mono (by simp; try omega))
  replace fa := fa.below hv_
  replace o15 := o15.below hv_
  replace HB := HB.trans (hv_.mono HB.size)
  clear hv_
  have e0 := fa.c0
  have e1 := fa.c1
  have e2 := fa.c2
  have e3 := fa.c3
  have f0 := o15.c0
  have f1 := o15.c1
  have f2 := o15.c2
  have f3 := o15.c3
  have lt_e0 := cell_lt e0
  have lt_f0 := cell_lt f0
  go_wp2_with fail
  refine (HH19.out _ _ _ _ _ _ _ _ _ fa.m fa.n o15.m o15.n).mono ?_
  rintro e v19 ⟨rfl, h_⟩
  clear e0 e1 e2 e3 f0 f1 f2 f3 lt_e0 lt_f0
  have hv_ : Below v18.heap.size v18 v19 := Below.trans (b := _) (by repeat (first | assumption | exact Below.refl _ _ | refine Below.alloc ?_ (by simp; try omega) _ | refine Below.drew ?_ | refine below_drewN ?_ _)) (h_.mono (by simp; try omega))
  replace fa := fa.below hv_
  replace HB := HB.trans (hv_.mono HB.size)
  clear hv_
  obtain ⟨⟨f1, f2⟩, f3, f4⟩ := HFF.out
  go_wp2_with fail
  refine (HE.out _ HB).mono ?_
  rintro e we ⟨rfl, hwe⟩
  go_wp2
  go_ret
  exact ⟨rfl, bel_step HB hwe⟩
end Go.Proofs.YtfhbigfbeppinaaGreatDoor
