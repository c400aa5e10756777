/- The law FractionFresh: its walk. Conditions: none. -/
import Derived.Test.YtfdmlfpldgobjaaGreatDoorZYS
import Derived.Test.YtfdmlfpldgobjaaGreatDoorZNtS
import Derived.Test.YtfdmlfpldgobjaaGreatDoorZLwJ
import Derived.Test.YtfdmlfpldgobjaaGreatDoorZFrP
import Derived.Deep.MidRow
import Derived.Maps.AppendAt
set_option linter.unusedVariables false
set_option linter.unusedSimpArgs false
namespace Go.Proofs.YtfdmlfpldgobjaaGreatDoor
open Go.RowKit Big
theorem info26 : (Tryz.prog.info? 26).map (fun i => (i.zero, i.size, i.bytes)) = some (some (.agg #[.bool false, .slice none 0 0, .bool false, .slice none 0 0]), 4, 64) := by kernel_rfl
/-- append of a row of fractions to an empty slice: a new block -/
theorem wpList_app0F {w : World} {ops : Array Oper} {rest : List Oper} {o : Oper} {a : Act} {Q : Exit → Act → World → Prop} (hgd : o.guard = none) (s x : Operand)
  (ho : o.op = .call { callee := .builtin .append, args := #[s, x], argTypes := #[31, 31] })
  (b : Addr) (hs : a.eval s = .slice (some b) 0 0) (g m c : Nat) (hx : a.eval x = .slice (some ⟨g, 0, none⟩) m c) (news : List Value) (hl : news.length = m * 4) (hr : w.rangeAt g 0 news) (h0 : 0 < m) (hm : m ≤ 1000)
  (h : ∀ cap cur, cur.toList.take (m * 4) = news → m ≤ cap → cap ≤ 9223372036854775807 → wpList Tryz.prog ops Q rest (a.put o.dst (.slice (some ⟨w.heap.size, 0, none⟩) m cap)) (w.drew.alloc (.cells cur 26))) : wpList Tryz.prog ops Q (o :: rest) a w := by
 refine wpList_plain hgd fun _ hK => ?_
 obtain ⟨i, hi, hzz⟩ := Option.map_eq_some_iff.1 info26
 simp only [Prod.mk.injEq] at hzz
 obtain ⟨hz, hs2, hb⟩ := hzz
 have hul : Tryz.prog.underlying 31 = some (.slice 26) := Tryz.underlying31
 have hrun := run_append_grow (P := Tryz.prog) w 31 o.type 26 i _ hul hi hz b 0 0 [] (by simp) (by simp) ⟨g, 0, none⟩ m c news (by rw [hs2]; exact hl) (fun j u hu => by rw [Addr.add_mid]; exact hr j u hu) (by omega) (by omega) (growslice_fits (by omega) (by rw [hb]; omega))
 unfold Oper.wp execOp
 simp only [ho, resolve, invoke, builtin, Sem.run_bind, Sem.run_pure, Result.andThen_ok, List.map_toArray, List.map_cons, List.map_nil, hs, hx, hrun]
 refine hK _ _ ?_
 rw [Nat.zero_add]
 refine h _ _ ?_ (grownCap_ge w m 0 _) (by have := grownCap_le_maxLen w m 0 26 (by unfold maxLen; omega); unfold maxLen at this; exact this)
 simp only [List.nil_append, Array.toList_append, List.append_assoc, ← hl]
 simp
theorem rng_newb {w : World} {cs : Array Value} {t : TypeId} : (w.alloc (.cells cs t)).rangeAt w.heap.size 0 cs.toList := fun j u hu => by
 rw [Nat.zero_add, cell_of_row _ _ _ _ _ _ (heap_alloc_new w _)]
 simpa using hu
/-- a fraction in its box, its limbs in memory not older than B -/
structure Fn (B : Nat) (w : World) (g : Nat) (b : Bool) (R : Option Addr) (k c : Nat) (xs : List Nat) (Q : Option Addr) (l d : Nat) (ys : List Nat) : Prop where
 c0 : w.cell? ⟨g, 0, none⟩ = some (.bool b)
 c1 : w.cell? ⟨g, 1, none⟩ = some (.slice R k c)
 c2 : w.cell? ⟨g, 2, none⟩ = some (.bool false)
 c3 : w.cell? ⟨g, 3, none⟩ = some (.slice Q l d)
 m : MgN B w R c xs
 n : MgN B w Q d ys
theorem Fn.below {B : Nat} {w w' : World} {g : Nat} {b : Bool} {R : Option Addr} {k c : Nat} {xs : List Nat} {Q : Option Addr} {l d : Nat} {ys : List Nat} (h : Fn B w g b R k c xs Q l d ys) (hb : Below w.heap.size w w') : Fn B w' g b R k c xs Q l d ys :=
 ⟨keep_cell hb h.c0, keep_cell hb h.c1, keep_cell hb h.c2, keep_cell hb h.c3, h.m.below hb, h.n.below hb⟩
theorem Fn.wr {B : Nat} {w : World} {g : Nat} {b : Bool} {R : Option Addr} {k c : Nat} {xs : List Nat} {Q : Option Addr} {l d : Nat} {ys : List Nat} {p : Int × Nat} (h : Fn B w g b R k c xs Q l d ys) (I : Fz p b k xs l ys) : Wr2 B w.heap.size w R k Q l := by
 have h1 := h.m.wr
 have h2 := h.n.wr
 have h3 := h.m.m.cap
 have h4 := h.m.m.max
 have h5 := h.n.m.cap
 have h6 := h.n.m.max
 rw [← I.hk] at h1 h3
 rw [← I.hl] at h2 h5
 exact ⟨⟨by omega, by omega⟩, h1, h2⟩
/-- w is what a became -/
def Snc (a w : World) : Prop := Below a.heap.size a w
theorem Snc.below {a w w' : World} (h : Snc a w) (hb : Below w.heap.size w w') : Snc a w' := bel_step h hb
theorem Snc.size {a w : World} (h : Snc a w) : a.heap.size ≤ w.heap.size := Below.size h
theorem RetZEp.gn {w w' : World} {z err : Int} {b : Bool} {n : Nat} {L : List Nat} {e : Ending} (h : RetZEp (Nw w.heap.size) w z err e w') (I : Iz z b n L) : GZEn w.heap.size w b n L err e w' := by
 obtain ⟨rfl, rfl, rfl⟩ := I
 obtain ⟨A, c, h1, h2, h3, h4⟩ := h; exact ⟨A, c, h1, ⟨h2, h4⟩, h3⟩
set_option maxRecDepth 100000 in
set_option maxHeartbeats 16000000 in
theorem FractionFresh_law {na nb nc nd : Bool} {xs ys us vs : List Nat} {A B C D : Option Addr} {ca cb cc cd : Nat} {w : World} (ma : Mg w A ca xs) (mb : Mg w B cb ys) (mc : Mg w C cc us) (md : Mg w D cd vs) (htab : PowTab w) (hlen : LenAt w) :
  Calls Tryz.prog 3 #[.agg #[.bool na, .slice A xs.length ca, .bool nb, .slice B ys.length cb], .agg #[.bool nc, .slice C us.length cc, .bool nd, .slice D vs.length cd]] w (RetB w true) := by
 have HE := hid fun (w1 : World) (h : Below w.heap.size w w1) => Lex_ok w1 (htab.below h) (hlen.below h)
 obtain ⟨t1, ht1⟩ : ∃ t, (decide (xs.length ≤ 3) && decide (ys.length ≤ 3)) = t := ⟨_, rfl⟩
 obtain ⟨t2, ht2⟩ : ∃ t, (decide (us.length ≤ 3) && decide (vs.length ≤ 3)) = t := ⟨_, rfl⟩
 have HT1 := hid fun (w1 : World) (h : Below w.heap.size w w1) => Ltiny_g (na := na) (nb := nb) (A := A) (B := B) (ca := ca) (cb := cb) (w := w1) t1 ht1
 have HT2 := hid fun (w1 : World) (h : Below w.heap.size w w1) => Ltiny_g (na := nc) (nb := nd) (A := C) (B := D) (ca := cc) (cb := cd) (w := w1) t2 ht2
 have HV1 := hid fun (w1 : World) (h : Below w.heap.size w w1) => Qvalid_any (na := na) (nb := nb) (w := w1) (ma.below h) (mb.below h)
 have HV2 := hid fun (w1 : World) (h : Below w.heap.size w w1) => Qvalid_any (na := nc) (nb := nd) (w := w1) (mc.below h) (md.below h)
 cases t1
 ·clear HT2 HV1 HV2 ht1 ht2 ma mb mc md
  generalize xs.length = ka at *
  generalize ys.length = la at *
  generalize us.length = kb at *
  generalize vs.length = lb at *
  go_enter Tryz.func3, Tryz.ntmps3
  go_wp2_with fail
  refine enterFF (P := fun u => Calls _ _ _ u _) ?_
  intro u HB q0 q1 q2 q3 r0 r1 r2 r3 z1 z2 hsz
  clear hsz
  have f_z1 := z1.fr
  have f_z2 := z2.fr
  have lt_q0 := cell_lt q0
  have lt_r0 := cell_lt r0
  refine (HT1.out _ HB).mono ?_
  rintro e w1 ⟨rfl, ht_⟩
  have hv_ : Below u.heap.size u w1 := Below.trans (b := _) (by repeat (first | assumption | exact Bv _ _ | refine Ba ?_ (by simp; try omega) _ | refine Bd ?_ | refine Bn ?_ _)) (ht_.mono (by simp; try omega))
  replace HB := HB.trans (hv_.mono HB.size)
  clear hv_
  go_wp2_with fail
  refine (HE.out _ HB).mono ?_
  rintro e we ⟨rfl, hwe⟩
  go_wp2
  go_ret
  exact ⟨rfl, bel_step HB hwe⟩
 cases t2
 ·clear HV1 HV2 ht1 ht2 ma mb mc md
  generalize xs.length = ka at *
  generalize ys.length = la at *
  generalize us.length = kb at *
  generalize vs.length = lb at *
  go_enter Tryz.func3, Tryz.ntmps3
  go_wp2_with fail
  refine enterFF (P := fun u => Calls _ _ _ u _) ?_
  intro u HB q0 q1 q2 q3 r0 r1 r2 r3 z1 z2 hsz
  clear hsz
  have f_z1 := z1.fr
  have f_z2 := z2.fr
  have lt_q0 := cell_lt q0
  have lt_r0 := cell_lt r0
  refine (HT1.out _ HB).mono ?_
  rintro e w1 ⟨rfl, ht_⟩
  have hv_ : Below u.heap.size u w1 := Below.trans (b := _) (by repeat (first | assumption | exact Bv _ _ | refine Ba ?_ (by simp; try omega) _ | refine Bd ?_ | refine Bn ?_ _)) (ht_.mono (by simp; try omega))
  replace r0 := keep_cell hv_ r0
  replace r1 := keep_cell hv_ r1
  replace r2 := keep_cell hv_ r2
  replace r3 := keep_cell hv_ r3
  have lt_r0 := cell_lt r0
  have lt_r1 := cell_lt r1
  have lt_r2 := cell_lt r2
  have lt_r3 := cell_lt r3
  replace HB := HB.trans (hv_.mono HB.size)
  clear hv_
  go_wp2_with fail
  refine (HT2.out _ HB).mono ?_
  rintro e w2 ⟨rfl, ht_⟩
  have hv_ : Below w1.heap.size w1 w2 := Below.trans (b := _) (by repeat (first | assumption | exact Bv _ _ | refine Ba ?_ (by simp; try omega) _ | refine Bd ?_ | refine Bn ?_ _)) (ht_.mono (by simp; try omega))
  replace HB := HB.trans (hv_.mono HB.size)
  clear hv_
  go_wp2_with fail
  refine (HE.out _ HB).mono ?_
  rintro e we ⟨rfl, hwe⟩
  go_wp2
  go_ret
  exact ⟨rfl, bel_step HB hwe⟩
 cases v1 : fvB na xs nb ys
 ·rw [v1] at HV1
  clear HV2 ht1 ht2 v1 ma mb mc md
  generalize xs.length = ka at *
  generalize ys.length = la at *
  generalize us.length = kb at *
  generalize vs.length = lb at *
  go_enter Tryz.func3, Tryz.ntmps3
  go_wp2_with fail
  refine enterFF (P := fun u => Calls _ _ _ u _) ?_
  intro u HB q0 q1 q2 q3 r0 r1 r2 r3 z1 z2 hsz
  clear hsz
  have f_z1 := z1.fr
  have f_z2 := z2.fr
  have lt_q0 := cell_lt q0
  have lt_r0 := cell_lt r0
  refine (HT1.out _ HB).mono ?_
  rintro e w1 ⟨rfl, ht_⟩
  have hv_ : Below u.heap.size u w1 := Below.trans (b := _) (by repeat (first | assumption | exact Bv _ _ | refine Ba ?_ (by simp; try omega) _ | refine Bd ?_ | refine Bn ?_ _)) (ht_.mono (by simp; try omega))
  replace q0 := keep_cell hv_ q0
  replace q1 := keep_cell hv_ q1
  replace q2 := keep_cell hv_ q2
  replace q3 := keep_cell hv_ q3
  replace r0 := keep_cell hv_ r0
  replace r1 := keep_cell hv_ r1
  replace r2 := keep_cell hv_ r2
  replace r3 := keep_cell hv_ r3
  have lt_q0 := cell_lt q0
  have lt_q1 := cell_lt q1
  have lt_q2 := cell_lt q2
  have lt_q3 := cell_lt q3
  have lt_r0 := cell_lt r0
  have lt_r1 := cell_lt r1
  have lt_r2 := cell_lt r2
  have lt_r3 := cell_lt r3
  replace HB := HB.trans (hv_.mono HB.size)
  clear hv_
  go_wp2_with fail
  refine (HT2.out _ HB).mono ?_
  rintro e w2 ⟨rfl, ht_⟩
  have hv_ : Below w1.heap.size w1 w2 := Below.trans (b := _) (by repeat (first | assumption | exact Bv _ _ | refine Ba ?_ (by simp; try omega) _ | refine Bd ?_ | refine Bn ?_ _)) (ht_.mono (by simp; try omega))
  replace q0 := keep_cell hv_ q0
  replace q1 := keep_cell hv_ q1
  replace q2 := keep_cell hv_ q2
  replace q3 := keep_cell hv_ q3
  have lt_q0 := cell_lt q0
  have lt_q1 := cell_lt q1
  have lt_q2 := cell_lt q2
  have lt_q3 := cell_lt q3
  replace HB := HB.trans (hv_.mono HB.size)
  clear hv_
  go_wp2_with fail
  refine (HV1.out _ HB).mono ?_
  rintro e w3 ⟨rfl, ht_⟩
  have hv_ : Below w2.heap.size w2 w3 := Below.trans (b := _) (by repeat (first | assumption | exact Bv _ _ | refine Ba ?_ (by simp; try omega) _ | refine Bd ?_ | refine Bn ?_ _)) (ht_.mono (by simp; try omega))
  replace HB := HB.trans (hv_.mono HB.size)
  clear hv_
  go_wp2_with fail
  refine (HE.out _ HB).mono ?_
  rintro e we ⟨rfl, hwe⟩
  go_wp2
  go_ret
  exact ⟨rfl, bel_step HB hwe⟩
 rw [v1] at HV1
 cases v2 : fvB nc us nd vs
 ·rw [v2] at HV2
  clear ht1 ht2 v1 v2 ma mb mc md
  generalize xs.length = ka at *
  generalize ys.length = la at *
  generalize us.length = kb at *
  generalize vs.length = lb at *
  go_enter Tryz.func3, Tryz.ntmps3
  go_wp2_with fail
  refine enterFF (P := fun u => Calls _ _ _ u _) ?_
  intro u HB q0 q1 q2 q3 r0 r1 r2 r3 z1 z2 hsz
  clear hsz
  have f_z1 := z1.fr
  have f_z2 := z2.fr
  have lt_q0 := cell_lt q0
  have lt_r0 := cell_lt r0
  refine (HT1.out _ HB).mono ?_
  rintro e w1 ⟨rfl, ht_⟩
  have hv_ : Below u.heap.size u w1 := Below.trans (b := _) (by repeat (first | assumption | exact Bv _ _ | refine Ba ?_ (by simp; try omega) _ | refine Bd ?_ | refine Bn ?_ _)) (ht_.mono (by simp; try omega))
  replace q0 := keep_cell hv_ q0
  replace q1 := keep_cell hv_ q1
  replace q2 := keep_cell hv_ q2
  replace q3 := keep_cell hv_ q3
  replace r0 := keep_cell hv_ r0
  replace r1 := keep_cell hv_ r1
  replace r2 := keep_cell hv_ r2
  replace r3 := keep_cell hv_ r3
  have lt_q0 := cell_lt q0
  have lt_q1 := cell_lt q1
  have lt_q2 := cell_lt q2
  have lt_q3 := cell_lt q3
  have lt_r0 := cell_lt r0
  have lt_r1 := cell_lt r1
  have lt_r2 := cell_lt r2
  have lt_r3 := cell_lt r3
  replace HB := HB.trans (hv_.mono HB.size)
  clear hv_
  go_wp2_with fail
  refine (HT2.out _ HB).mono ?_
  rintro e w2 ⟨rfl, ht_⟩
  have hv_ : Below w1.heap.size w1 w2 := Below.trans (b := _) (by repeat (first | assumption | exact Bv _ _ | refine Ba ?_ (by simp; try omega) _ | refine Bd ?_ | refine Bn ?_ _)) (ht_.mono (by simp; try omega))
  replace q0 := keep_cell hv_ q0
  replace q1 := keep_cell hv_ q1
  replace q2 := keep_cell hv_ q2
  replace q3 := keep_cell hv_ q3
  replace r0 := keep_cell hv_ r0
  replace r1 := keep_cell hv_ r1
  replace r2 := keep_cell hv_ r2
  replace r3 := keep_cell hv_ r3
  have lt_q0 := cell_lt q0
  have lt_q1 := cell_lt q1
  have lt_q2 := cell_lt q2
  have lt_q3 := cell_lt q3
  have lt_r0 := cell_lt r0
  have lt_r1 := cell_lt r1
  have lt_r2 := cell_lt r2
  have lt_r3 := cell_lt r3
  replace HB := HB.trans (hv_.mono HB.size)
  clear hv_
  go_wp2_with fail
  refine (HV1.out _ HB).mono ?_
  rintro e w3 ⟨rfl, ht_⟩
  have hv_ : Below w2.heap.size w2 w3 := Below.trans (b := _) (by repeat (first | assumption | exact Bv _ _ | refine Ba ?_ (by simp; try omega) _ | refine Bd ?_ | refine Bn ?_ _)) (ht_.mono (by simp; try omega))
  replace r0 := keep_cell hv_ r0
  replace r1 := keep_cell hv_ r1
  replace r2 := keep_cell hv_ r2
  replace r3 := keep_cell hv_ r3
  have lt_r0 := cell_lt r0
  have lt_r1 := cell_lt r1
  have lt_r2 := cell_lt r2
  have lt_r3 := cell_lt r3
  replace HB := HB.trans (hv_.mono HB.size)
  clear hv_
  go_wp2_with fail
  refine (HV2.out _ HB).mono ?_
  rintro e w4 ⟨rfl, ht_⟩
  have hv_ : Below w3.heap.size w3 w4 := Below.trans (b := _) (by repeat (first | assumption | exact Bv _ _ | refine Ba ?_ (by simp; try omega) _ | refine Bd ?_ | refine Bn ?_ _)) (ht_.mono (by simp; try omega))
  replace HB := HB.trans (hv_.mono HB.size)
  clear hv_
  go_wp2_with fail
  refine (HE.out _ HB).mono ?_
  rintro e we ⟨rfl, hwe⟩
  go_wp2
  go_ret
  exact ⟨rfl, bel_step HB hwe⟩
 rw [v2] at HV2
 simp only [Bool.and_eq_true, decide_eq_true_eq] at ht1 ht2
 obtain ⟨rfl, p1, p2, p3, p4, p5, p6⟩ := fvB_ok ma.ok mb.ok v1
 have IF : Hid (Fz (sg na (val xs), val ys) na xs.length xs ys.length ys) := ⟨p1, by rw [natAbs_sg]; exact p2, rfl, p3, rfl⟩
 clear p1 p2 p3 p4 p5 p6 v1
 obtain ⟨rfl, p1, p2, p3, p4, p5, p6⟩ := fvB_ok mc.ok md.ok v2
 have IG : Hid (Fz (sg nc (val us), val vs) nc us.length us vs.length vs) := ⟨p1, by rw [natAbs_sg]; exact p2, rfl, p3, rfl⟩
 clear p1 p2 p3 p4 p5 p6 v2
 generalize (sg na (val xs), val ys) = f at *
 generalize (sg nc (val us), val vs) = g at *
 obtain ⟨⟨pz, ez⟩, hz⟩ : ∃ q, newE 0 1 = q := ⟨_, rfl⟩
 obtain ⟨⟨po, eo⟩, ho⟩ : ∃ q, newE 1 1 = q := ⟨_, rfl⟩
 obtain ⟨bz, kz, Xz, lz, Yz, Iz⟩ := fz pz
 obtain ⟨bo, ko, Xo, lo, Yo, Io⟩ := fz po
 have HZ0 := hid fun (w1 : World) => Lof_g (w := w1) (x := 0) (y := 1) (by omega) (by omega) (by omega) (by omega) hz Iz.out
 have HO0 := hid fun (w1 : World) => Lof_g (w := w1) (x := 1) (y := 1) (by omega) (by omega) (by omega) (by omega) ho Io.out
 have HC1 := hid fun (w1 : World) (h : Below w.heap.size w w1) => QCopy_g (w := w1) (b := na) (ma.below h) (mb.below h) rfl rfl (by omega) (by omega)
 have HC2 := hid fun (w1 : World) (h : Below w.heap.size w w1) => QCopy_g (w := w1) (b := nc) (mc.below h) (md.below h) rfl rfl (by omega) (by omega)
 obtain ⟨⟨p6, e6⟩, hq6⟩ : ∃ q, newR na xs false ys = q := ⟨_, rfl⟩
 obtain ⟨b6, k6, X6, l6, Y6, I6⟩ := fz p6
 have HH6 := hid fun (w1 : World) (R Q : Option Addr) (c d : Nat) (m1 : Mg w1 R c xs) (m2 : Mg w1 Q d ys) => by
  have h := FrNew_n (na := na) (nb := false) m1 m2
  rw [hq6] at h
  exact h.mono fun e w' h => RetFEn.g h I6.out
 obtain ⟨⟨p7, e7⟩, hq7⟩ : ∃ q, opR addE na xs false ys bz Xz false Yz = q := ⟨_, rfl⟩
 obtain ⟨b7, k7, X7, l7, Y7, I7⟩ := fz p7
 have HH7 := hid fun (w1 : World) (R Q R' Q' : Option Addr) (c d c' d' : Nat) (m1 : Mg w1 R c xs) (m2 : Mg w1 Q d ys) (m3 : Mg w1 R' c' Xz) (m4 : Mg w1 Q' d' Yz) => by
  have h := FrAdd_n (na := na) (nb := false) (nc := bz) (nd := false) m1 m2 m3 m4
  rw [hq7, ← Iz.out.hk, ← Iz.out.hl] at h
  exact h.mono fun e w' h => RetFEn.g h I7.out
 obtain ⟨⟨p8, e8⟩, hq8⟩ : ∃ q, opR subE na xs false ys bz Xz false Yz = q := ⟨_, rfl⟩
 obtain ⟨b8, k8, X8, l8, Y8, I8⟩ := fz p8
 have HH8 := hid fun (w1 : World) (R Q R' Q' : Option Addr) (c d c' d' : Nat) (m1 : Mg w1 R c xs) (m2 : Mg w1 Q d ys) (m3 : Mg w1 R' c' Xz) (m4 : Mg w1 Q' d' Yz) => by
  have h := FrSub_n (na := na) (nb := false) (nc := bz) (nd := false) m1 m2 m3 m4
  rw [hq8, ← Iz.out.hk, ← Iz.out.hl] at h
  exact h.mono fun e w' h => RetFEn.g h I8.out
 obtain ⟨⟨p9, e9⟩, hq9⟩ : ∃ q, opR mulE na xs false ys bo Xo false Yo = q := ⟨_, rfl⟩
 obtain ⟨b9, k9, X9, l9, Y9, I9⟩ := fz p9
 have HH9 := hid fun (w1 : World) (R Q R' Q' : Option Addr) (c d c' d' : Nat) (m1 : Mg w1 R c xs) (m2 : Mg w1 Q d ys) (m3 : Mg w1 R' c' Xo) (m4 : Mg w1 Q' d' Yo) => by
  have h := FrMul_n (na := na) (nb := false) (nc := bo) (nd := false) m1 m2 m3 m4
  rw [hq9, ← Io.out.hk, ← Io.out.hl] at h
  exact h.mono fun e w' h => RetFEn.g h I9.out
 obtain ⟨⟨p10, e10⟩, hq10⟩ : ∃ q, opR divE nc us false vs bo Xo false Yo = q := ⟨_, rfl⟩
 obtain ⟨b10, k10, X10, l10, Y10, I10⟩ := fz p10
 have HH10 := hid fun (w1 : World) (R Q R' Q' : Option Addr) (c d c' d' : Nat) (m1 : Mg w1 R c us) (m2 : Mg w1 Q d vs) (m3 : Mg w1 R' c' Xo) (m4 : Mg w1 Q' d' Yo) => by
  have h := FrDiv_n (na := nc) (nb := false) (nc := bo) (nd := false) m1 m2 m3 m4
  rw [hq10, ← Io.out.hk, ← Io.out.hl] at h
  exact h.mono fun e w' h => RetFEn.g h I10.out
 obtain ⟨⟨p11, e11⟩, hq11⟩ : ∃ q, opR simE na xs false ys na xs false ys = q := ⟨_, rfl⟩
 obtain ⟨b11, k11, X11, l11, Y11, I11⟩ := fz p11
 have HH11 := hid fun (w1 : World) (R Q R' Q' : Option Addr) (c d c' d' : Nat) (m1 : Mg w1 R c xs) (m2 : Mg w1 Q d ys) (m3 : Mg w1 R' c' xs) (m4 : Mg w1 Q' d' ys) => by
  have h := FrSimplest_n (na := na) (nb := false) (nc := na) (nd := false) m1 m2 m3 m4
  rw [hq11, ← IF.out.hk, ← IF.out.hl] at h
  exact h.mono fun e w' h => RetFEn.g h I11.out
 obtain ⟨⟨p13, e13⟩, hq13⟩ : ∃ q, intR flrF na xs false ys = q := ⟨_, rfl⟩
 obtain ⟨b13, k13, X13, I13⟩ := iz p13
 have HH13 := hid fun (w1 : World) (R Q : Option Addr) (c d : Nat) (m1 : Mg w1 R c xs) (m2 : Mg w1 Q d ys) => by
  have h := FrFloor_n (na := na) (nb := false) m1 m2
  rw [hq13] at h
  exact h.mono fun e w' h => RetZEp.gn h I13.out
 obtain ⟨⟨p14, e14⟩, hq14⟩ : ∃ q, intR rndF nc us false vs = q := ⟨_, rfl⟩
 obtain ⟨b14, k14, X14, I14⟩ := iz p14
 have HH14 := hid fun (w1 : World) (R Q : Option Addr) (c d : Nat) (m1 : Mg w1 R c us) (m2 : Mg w1 Q d vs) => by
  have h := FrRound_n (na := nc) (nb := false) m1 m2
  rw [hq14] at h
  exact h.mono fun e w' h => RetZEp.gn h I14.out
 have HS1 := hid fun (w1 : World) (R Q R' Q' : Option Addr) (c d c' d' : Nat) (m1 : Mg w1 R c xs) (m2 : Mg w1 Q d ys) (m3 : Mg w1 R' c' xs) (m4 : Mg w1 Q' d' ys) => QSame_g (w := w1) IF.out IF.out m1 m2 m3 m4 true (by simp)
 have HS2 := hid fun (w1 : World) (R Q R' Q' : Option Addr) (c d c' d' : Nat) (m1 : Mg w1 R c us) (m2 : Mg w1 Q d vs) (m3 : Mg w1 R' c' us) (m4 : Mg w1 Q' d' vs) => QSame_g (w := w1) IG.out IG.out m1 m2 m3 m4 true (by simp)
 have MM := hid fun (w1 : World) (h : Below w.heap.size w w1) => And.intro (And.intro (ma.below h) (mb.below h)) (And.intro (mc.below h) (md.below h))
 clear hz ho hq6 hq7 hq8 hq9 hq10 hq11 hq13 hq14 IF IG ht1 ht2 ma mb mc md
 generalize xs.length = ka at *
 generalize ys.length = la at *
 generalize us.length = kb at *
 generalize vs.length = lb at *
 go_enter Tryz.func3, Tryz.ntmps3
 go_wp2_with fail
 refine enterFF (P := fun u => Calls _ _ _ u _) ?_
 intro u HB q0 q1 q2 q3 r0 r1 r2 r3 z1 z2 hsz
 clear hsz
 have f_z1 := z1.fr
 have f_z2 := z2.fr
 have lt_q0 := cell_lt q0
 have lt_r0 := cell_lt r0
 refine (HT1.out _ HB).mono ?_
 rintro e w1 ⟨rfl, ht_⟩
 have hv_ : Below u.heap.size u w1 := Below.trans (b := _) (by repeat (first | assumption | exact Bv _ _ | refine Ba ?_ (by simp; try omega) _ | refine Bd ?_ | refine Bn ?_ _)) (ht_.mono (by simp; try omega))
 replace q0 := keep_cell hv_ q0
 replace q1 := keep_cell hv_ q1
 replace q2 := keep_cell hv_ q2
 replace q3 := keep_cell hv_ q3
 replace r0 := keep_cell hv_ r0
 replace r1 := keep_cell hv_ r1
 replace r2 := keep_cell hv_ r2
 replace r3 := keep_cell hv_ r3
 have lt_q0 := cell_lt q0
 have lt_q1 := cell_lt q1
 have lt_q2 := cell_lt q2
 have lt_q3 := cell_lt q3
 have lt_r0 := cell_lt r0
 have lt_r1 := cell_lt r1
 have lt_r2 := cell_lt r2
 have lt_r3 := cell_lt r3
 replace HB := HB.trans (hv_.mono HB.size)
 clear hv_
 go_wp2_with fail
 refine (HT2.out _ HB).mono ?_
 rintro e w2 ⟨rfl, ht_⟩
 have hv_ : Below w1.heap.size w1 w2 := Below.trans (b := _) (by repeat (first | assumption | exact Bv _ _ | refine Ba ?_ (by simp; try omega) _ | refine Bd ?_ | refine Bn ?_ _)) (ht_.mono (by simp; try omega))
 replace q0 := keep_cell hv_ q0
 replace q1 := keep_cell hv_ q1
 replace q2 := keep_cell hv_ q2
 replace q3 := keep_cell hv_ q3
 replace r0 := keep_cell hv_ r0
 replace r1 := keep_cell hv_ r1
 replace r2 := keep_cell hv_ r2
 replace r3 := keep_cell hv_ r3
 have lt_q0 := cell_lt q0
 have lt_q1 := cell_lt q1
 have lt_q2 := cell_lt q2
 have lt_q3 := cell_lt q3
 have lt_r0 := cell_lt r0
 have lt_r1 := cell_lt r1
 have lt_r2 := cell_lt r2
 have lt_r3 := cell_lt r3
 replace HB := HB.trans (hv_.mono HB.size)
 clear hv_
 go_wp2_with fail
 refine (HV1.out _ HB).mono ?_
 rintro e w3 ⟨rfl, ht_⟩
 have hv_ : Below w2.heap.size w2 w3 := Below.trans (b := _) (by repeat (first | assumption | exact Bv _ _ | refine Ba ?_ (by simp; try omega) _ | refine Bd ?_ | refine Bn ?_ _)) (ht_.mono (by simp; try omega))
 replace q0 := keep_cell hv_ q0
 replace q1 := keep_cell hv_ q1
 replace q2 := keep_cell hv_ q2
 replace q3 := keep_cell hv_ q3
 replace r0 := keep_cell hv_ r0
 replace r1 := keep_cell hv_ r1
 replace r2 := keep_cell hv_ r2
 replace r3 := keep_cell hv_ r3
 have lt_q0 := cell_lt q0
 have lt_q1 := cell_lt q1
 have lt_q2 := cell_lt q2
 have lt_q3 := cell_lt q3
 have lt_r0 := cell_lt r0
 have lt_r1 := cell_lt r1
 have lt_r2 := cell_lt r2
 have lt_r3 := cell_lt r3
 replace HB := HB.trans (hv_.mono HB.size)
 clear hv_
 go_wp2_with fail
 refine (HV2.out _ HB).mono ?_
 rintro e w4 ⟨rfl, ht_⟩
 have hv_ : Below w3.heap.size w3 w4 := Below.trans (b := _) (by repeat (first | assumption | exact Bv _ _ | refine Ba ?_ (by simp; try omega) _ | refine Bd ?_ | refine Bn ?_ _)) (ht_.mono (by simp; try omega))
 replace q0 := keep_cell hv_ q0
 replace q1 := keep_cell hv_ q1
 replace q2 := keep_cell hv_ q2
 replace q3 := keep_cell hv_ q3
 replace r0 := keep_cell hv_ r0
 replace r1 := keep_cell hv_ r1
 replace r2 := keep_cell hv_ r2
 replace r3 := keep_cell hv_ r3
 have lt_q0 := cell_lt q0
 have lt_q1 := cell_lt q1
 have lt_q2 := cell_lt q2
 have lt_q3 := cell_lt q3
 have lt_r0 := cell_lt r0
 have lt_r1 := cell_lt r1
 have lt_r2 := cell_lt r2
 have lt_r3 := cell_lt r3
 replace HB := HB.trans (hv_.mono HB.size)
 clear hv_
 go_upto_region 3 with fail
 clear HT1 HT2 HV1 HV2
 go_cut [5, 6] from 46 to 49 (fun s5 s6 wx => ∃ (g g' : Nat) (R : Option Addr) (c : Nat) (Q : Option Addr) (d : Nat) (R' : Option Addr) (c' : Nat) (Q' : Option Addr) (d' : Nat), s5 = .pointer (some ⟨g, 0, none⟩) ∧ s6 = .pointer (some ⟨g', 0, none⟩) ∧ Below w4.heap.size w4 wx ∧ Fb wx g na R ka c xs Q la d ys ∧ Fb wx g' nc R' kb c' us Q' lb d' vs)
 case first =>
  --BEGIN
  clear HZ0 HO0 HH6 HH7 HH8 HH9 HH10 HH11 HH13 HH14 HS1 HS2 HE MM I6 I7 I8 I9 I10 I11 I13 I14 Iz Io htab hlen
  go_region_held3 (fun w' => (w'.cell? ⟨w.heap.size, 0, none⟩ = some (.bool na) ∧ w'.cell? ⟨w.heap.size, 1, none⟩ = some (.slice A ka ca) ∧ w'.cell? ⟨w.heap.size, 2, none⟩ = some (.bool false) ∧ w'.cell? ⟨w.heap.size, 3, none⟩ = some (.slice B la cb)) ∧ (w'.cell? ⟨w.heap.size + 1, 0, none⟩ = some (.bool nc) ∧ w'.cell? ⟨w.heap.size + 1, 1, none⟩ = some (.slice C kb cc) ∧ w'.cell? ⟨w.heap.size + 1, 2, none⟩ = some (.bool false) ∧ w'.cell? ⟨w.heap.size + 1, 3, none⟩ = some (.slice D lb cd))) (first | ((try dsimp only); repeat' (first | with_reducible assumption | apply And.intro | (with_reducible refine keep_alloc ?_) | (with_reducible refine keep_drew ?_) | (with_reducible refine keep_set (by first | omega | (simp only [World.size_alloc, World.size_setCell, World.size_drew]; done) | (simp only [World.size_alloc, World.size_setCell, World.size_drew]; omega)) ?_) | (with_reducible refine keep_cell (W := w4) ?_ ?_) | fail))) (first | (go_at_call 7; (with_reducible refine (HC1.out _ (bel_step HB BG)).mono ?_); rintro e y1 ⟨R1, c1, Q1, d1, rfl, m1, m1b, hq_⟩; have qy1 : Below w4.heap.size w4 y1 := bel_step BG hq_; obtain ⟨hc10, hf10⟩ := bcell hq_; have hz10 := hq_.size; (try simp only [World.size_alloc, World.size_drew] at hz10); have hs10 := qy1.size; (try have hx10 : w4.heap.size < y1.heap.size := by omega); (try have hx20 : w4.heap.size + 1 < y1.heap.size := by omega); ((try have zx1 := new_zb1 hq_); (try have zx2 := new_zb2 hq_); (try have zx1 := new_zb1d hq_); (try have zx2 := new_zb2d hq_); (try simp only [World.size_drew, World.size_alloc] at zx1); (try simp only [World.size_drew, World.size_alloc] at zx2))) | (go_at_call 7; (with_reducible refine (HC2.out _ (bel_step HB BG)).mono ?_); rintro e y2 ⟨R2, c2, Q2, d2, rfl, m2, m2b, hq_⟩; have qy2 : Below w4.heap.size w4 y2 := bel_step BG hq_; obtain ⟨hc11, hf11⟩ := bcell hq_; have hz11 := hq_.size; (try simp only [World.size_alloc, World.size_drew] at hz11); have hs11 := qy2.size; (try have hx11 : w4.heap.size < y2.heap.size := by omega); (try have hx21 : w4.heap.size + 1 < y2.heap.size := by omega); ((try have hw1 : y1.heap.size < y2.heap.size := by omega); (try have hw2 : y1.heap.size + 1 < y2.heap.size := by omega); have hy12 : Below y1.heap.size y1 y2 := bel_step BG hq_; have m1 := m1.below hy12; have m1b := m1b.below hy12; (try have zx1 := zx1.below hy12); (try have zx2 := zx2.below hy12); (try have zy1 := new_zb1 hq_); (try have zy2 := new_zb2 hq_); (try simp only [World.size_drew, World.size_alloc] at zy1); (try simp only [World.size_drew, World.size_alloc] at zy2))))
  all_goals
   go_wp2_with fail
   go_meet
  all_goals
   go_light
   refine ⟨_, _, R1, c1, Q1, d1, R2, c2, Q2, d2, rfl, rfl, (by (repeat' (first | with_reducible assumption | (with_reducible refine BelA ?_) | (with_reducible refine Bel4 (by first | omega | (simp only [World.size_alloc, World.size_setCell, World.size_drew]; done) | (simp only [World.size_alloc, World.size_setCell, World.size_drew]; omega)) ?_) | fail))), (by (repeat' (first | with_reducible assumption | (with_reducible refine Fb.new (by first | omega | (simp only [World.size_alloc, World.size_setCell, World.size_drew]; done) | (simp only [World.size_alloc, World.size_setCell, World.size_drew]; omega)) ?_ ?_) | (with_reducible refine Fb.alloc ?_) | (with_reducible refine Fb.of4 ?_ ?_ ?_) | (with_reducible refine Fb.set4 ?_ (by first | omega | (simp only [World.size_alloc, World.size_setCell, World.size_drew]; done) | (simp only [World.size_alloc, World.size_setCell, World.size_drew]; omega)) ?_) | (with_reducible refine Mg.alloc ?_) | (with_reducible refine Mg.set4 ?_ ?_) | (with_reducible refine Zb.set4 ?_ (by first | omega | (simp only [World.size_alloc, World.size_setCell, World.size_drew]; done) | (simp only [World.size_alloc, World.size_setCell, World.size_drew]; omega)) ?_) | fail))), (by (repeat' (first | with_reducible assumption | (with_reducible refine Fb.new (by first | omega | (simp only [World.size_alloc, World.size_setCell, World.size_drew]; done) | (simp only [World.size_alloc, World.size_setCell, World.size_drew]; omega)) ?_ ?_) | (with_reducible refine Fb.alloc ?_) | (with_reducible refine Fb.of4 ?_ ?_ ?_) | (with_reducible refine Fb.set4 ?_ (by first | omega | (simp only [World.size_alloc, World.size_setCell, World.size_drew]; done) | (simp only [World.size_alloc, World.size_setCell, World.size_drew]; omega)) ?_) | (with_reducible refine Mg.alloc ?_) | (with_reducible refine Mg.set4 ?_ ?_) | (with_reducible refine Zb.set4 ?_ (by first | omega | (simp only [World.size_alloc, World.size_setCell, World.size_drew]; done) | (simp only [World.size_alloc, World.size_setCell, World.size_drew]; omega)) ?_) | fail)))⟩
  --END
 case rest =>
  obtain ⟨gp, gq, Rp, cp, Qp, dp, Rq, cq, Qq, dq, rfl, rfl, hx, fp, fq⟩ := hcut
  obtain ⟨⟨n1_, n2_⟩, ⟨n3_, n4_⟩⟩ := MM.out _ HB
  have fa : Fb w4 w.heap.size na A ka ca xs B la cb ys := ⟨q0, q1, q2, q3, n1_, n2_⟩
  have fb : Fb w4 (w.heap.size + 1) nc C kb cc us D lb cd vs := ⟨r0, r1, r2, r3, n3_, n4_⟩
  clear q0 q1 q2 q3 r0 r1 r2 r3 n1_ n2_ n3_ n4_ HC1 HC2 MM lt_q0 lt_q1 lt_q2 lt_q3 lt_r0 lt_r1 lt_r2 lt_r3
  replace fa := fa.below hx
  replace fb := fb.below hx
  replace HB := bel_step HB hx
  clear hx
  go_wp2_with fail
  refine (HZ0.out _).mono ?_
  rintro e w5 ⟨R5, c5, Q5, d5, rfl, m5, n5, h_⟩
  have hv_ : Below wc.heap.size wc w5 := Below.trans (b := _) (by repeat (first | assumption | exact Bv _ _ | refine Ba ?_ (by simp; try omega) _ | refine Bd ?_ | refine Bn ?_ _)) (h_.mono (by simp; try omega))
  replace fa := fa.below hv_
  replace fb := fb.below hv_
  replace fp := fp.below hv_
  replace fq := fq.below hv_
  replace HB := HB.trans (hv_.mono HB.size)
  clear hv_
  go_wp2_with fail
  refine (HO0.out _).mono ?_
  rintro e w6 ⟨R6, c6, Q6, d6, rfl, m6, n6, h_⟩
  have hv_ : Below w5.heap.size w5 w6 := Below.trans (b := _) (by repeat (first | assumption | exact Bv _ _ | refine Ba ?_ (by simp; try omega) _ | refine Bd ?_ | refine Bn ?_ _)) (h_.mono (by simp; try omega))
  replace fa := fa.below hv_
  replace fb := fb.below hv_
  replace fp := fp.below hv_
  replace fq := fq.below hv_
  replace m5 := m5.below hv_
  replace n5 := n5.below hv_
  replace HB := HB.trans (hv_.mono HB.size)
  clear hv_
  go_upto_region 5 with fail
  have fz : Fb ((w6.alloc (.cells #[.bool bz, .slice R5 kz c5, .bool false, .slice Q5 lz d5] 26)).alloc (.cells #[.bool bo, .slice R6 ko c6, .bool false, .slice Q6 lo d6] 26)) w6.heap.size bz R5 kz c5 Xz Q5 lz d5 Yz := Fb.alloc (Fb.new rfl m5 n5)
  have fo : Fb ((w6.alloc (.cells #[.bool bz, .slice R5 kz c5, .bool false, .slice Q5 lz d5] 26)).alloc (.cells #[.bool bo, .slice R6 ko c6, .bool false, .slice Q6 lo d6] 26)) (w6.heap.size + 1) bo R6 ko c6 Xo Q6 lo d6 Yo := Fb.new (by simp) m6.alloc n6.alloc
  have hv_ : Below w6.heap.size w6 ((w6.alloc (.cells #[.bool bz, .slice R5 kz c5, .bool false, .slice Q5 lz d5] 26)).alloc (.cells #[.bool bo, .slice R6 ko c6, .bool false, .slice Q6 lo d6] 26)) := ((Below.refl _ _).alloc (Nat.le_refl _) _).alloc (by simp) _
  generalize (w6.alloc (.cells #[.bool bz, .slice R5 kz c5, .bool false, .slice Q5 lz d5] 26)).alloc (.cells #[.bool bo, .slice R6 ko c6, .bool false, .slice Q6 lo d6] 26) = uB at *
  replace fa := fa.below hv_
  replace fb := fb.below hv_
  replace fp := fp.below hv_
  replace fq := fq.below hv_
  replace HB := HB.trans (hv_.mono HB.size)
  clear hv_ m5 n5 m6 n6 HZ0 HO0
  have fa0 := hid fa
  have fb0 := hid fb
  have fp0 := hid fp
  have fq0 := hid fq
  have HBu := hid HB
  clear fp fq
  go_upto_region 6 with fail
  have HU : Snc uB (uB.alloc (.cells #[] 26)) := (Below.refl _ _).alloc (Nat.le_refl _) _
  generalize uB.alloc (.cells #[] 26) = u5 at *
  replace fa := fa.below HU
  replace fb := fb.below HU
  replace fz := fz.below HU
  replace fo := fo.below HU
  replace HB := bel_step HB HU
  have e0 := fa.c0
  have e1 := fa.c1
  have e2 := fa.c2
  have e3 := fa.c3
  have lt_e0 := cell_lt e0
  go_wp2_with fail
  refine (HH6.out _ _ _ _ _ fa.m fa.n).mono ?_
  rintro e v6 ⟨R6_, c6_, Q6_, d6_, rfl, m_, n_, h_⟩
  clear e0 e1 e2 e3 lt_e0
  replace m_ := m_.up (B' := uB.heap.size) (by simpa using HU.size)
  replace n_ := n_.up (B' := uB.heap.size) (by simpa using HU.size)
  have hv_ : Below u5.heap.size u5 v6 := Below.trans (b := _) (by repeat (first | assumption | exact Bv _ _ | refine Ba ?_ (by simp; try omega) _ | refine Bd ?_ | refine Bn ?_ _)) (h_.mono (by simp; try omega))
  replace fa := fa.below hv_
  replace fb := fb.below hv_
  replace fz := fz.below hv_
  replace fo := fo.below hv_
  replace HU := HU.below hv_
  replace HB := HB.trans (hv_.mono HB.size)
  clear hv_
  go_upto_region 7 with fail
  have o6 : Fn uB.heap.size (v6.alloc (.cells #[.bool b6, .slice R6_ k6 c6_, .bool false, .slice Q6_ l6 d6_] 26)) v6.heap.size b6 R6_ k6 c6_ X6 Q6_ l6 d6_ Y6 := ⟨at_allocF0 rfl, at_allocF1 rfl, at_allocF2 rfl, at_allocF3 rfl, m_.alloc, n_.alloc⟩
  have hv_ : Below v6.heap.size v6 (v6.alloc (.cells #[.bool b6, .slice R6_ k6 c6_, .bool false, .slice Q6_ l6 d6_] 26)) := (Below.refl _ _).alloc (Nat.le_refl _) _
  generalize v6.alloc (.cells #[.bool b6, .slice R6_ k6 c6_, .bool false, .slice Q6_ l6 d6_] 26) = u6 at *
  replace fa := fa.below hv_
  replace fb := fb.below hv_
  replace fz := fz.below hv_
  replace fo := fo.below hv_
  replace HU := HU.below hv_
  replace HB := HB.trans (hv_.mono HB.size)
  clear hv_ m_ n_
  have e0 := fa.c0
  have e1 := fa.c1
  have e2 := fa.c2
  have e3 := fa.c3
  have f0 := fz.c0
  have f1 := fz.c1
  have f2 := fz.c2
  have f3 := fz.c3
  have lt_e0 := cell_lt e0
  have lt_f0 := cell_lt f0
  go_wp2_with fail
  refine (HH7.out _ _ _ _ _ _ _ _ _ fa.m fa.n fz.m fz.n).mono ?_
  rintro e v7 ⟨R7_, c7_, Q7_, d7_, rfl, m_, n_, h_⟩
  clear f0 f1 f2 f3 lt_f0
  clear e0 e1 e2 e3 lt_e0
  replace m_ := m_.up (B' := uB.heap.size) (by simpa using HU.size)
  replace n_ := n_.up (B' := uB.heap.size) (by simpa using HU.size)
  have hv_ : Below u6.heap.size u6 v7 := Below.trans (b := _) (by repeat (first | assumption | exact Bv _ _ | refine Ba ?_ (by simp; try omega) _ | refine Bd ?_ | refine Bn ?_ _)) (h_.mono (by simp; try omega))
  replace fa := fa.below hv_
  replace fb := fb.below hv_
  replace fz := fz.below hv_
  replace fo := fo.below hv_
  replace o6 := o6.below hv_
  replace HU := HU.below hv_
  replace HB := HB.trans (hv_.mono HB.size)
  clear hv_
  go_upto_region 8 with fail
  have o7 : Fn uB.heap.size (v7.alloc (.cells #[.bool b7, .slice R7_ k7 c7_, .bool false, .slice Q7_ l7 d7_] 26)) v7.heap.size b7 R7_ k7 c7_ X7 Q7_ l7 d7_ Y7 := ⟨at_allocF0 rfl, at_allocF1 rfl, at_allocF2 rfl, at_allocF3 rfl, m_.alloc, n_.alloc⟩
  have hv_ : Below v7.heap.size v7 (v7.alloc (.cells #[.bool b7, .slice R7_ k7 c7_, .bool false, .slice Q7_ l7 d7_] 26)) := (Below.refl _ _).alloc (Nat.le_refl _) _
  generalize v7.alloc (.cells #[.bool b7, .slice R7_ k7 c7_, .bool false, .slice Q7_ l7 d7_] 26) = u7 at *
  replace fa := fa.below hv_
  replace fb := fb.below hv_
  replace fz := fz.below hv_
  replace fo := fo.below hv_
  replace o6 := o6.below hv_
  replace HU := HU.below hv_
  replace HB := HB.trans (hv_.mono HB.size)
  clear hv_ m_ n_
  have e0 := fa.c0
  have e1 := fa.c1
  have e2 := fa.c2
  have e3 := fa.c3
  have f0 := fz.c0
  have f1 := fz.c1
  have f2 := fz.c2
  have f3 := fz.c3
  have lt_e0 := cell_lt e0
  have lt_f0 := cell_lt f0
  go_wp2_with fail
  refine (HH8.out _ _ _ _ _ _ _ _ _ fa.m fa.n fz.m fz.n).mono ?_
  rintro e v8 ⟨R8_, c8_, Q8_, d8_, rfl, m_, n_, h_⟩
  clear f0 f1 f2 f3 lt_f0
  clear e0 e1 e2 e3 lt_e0
  replace m_ := m_.up (B' := uB.heap.size) (by simpa using HU.size)
  replace n_ := n_.up (B' := uB.heap.size) (by simpa using HU.size)
  have hv_ : Below u7.heap.size u7 v8 := Below.trans (b := _) (by repeat (first | assumption | exact Bv _ _ | refine Ba ?_ (by simp; try omega) _ | refine Bd ?_ | refine Bn ?_ _)) (h_.mono (by simp; try omega))
  replace fa := fa.below hv_
  replace fb := fb.below hv_
  replace fo := fo.below hv_
  replace o6 := o6.below hv_
  replace o7 := o7.below hv_
  replace HU := HU.below hv_
  replace HB := HB.trans (hv_.mono HB.size)
  clear hv_
  go_upto_region 9 with fail
  have o8 : Fn uB.heap.size (v8.alloc (.cells #[.bool b8, .slice R8_ k8 c8_, .bool false, .slice Q8_ l8 d8_] 26)) v8.heap.size b8 R8_ k8 c8_ X8 Q8_ l8 d8_ Y8 := ⟨at_allocF0 rfl, at_allocF1 rfl, at_allocF2 rfl, at_allocF3 rfl, m_.alloc, n_.alloc⟩
  have hv_ : Below v8.heap.size v8 (v8.alloc (.cells #[.bool b8, .slice R8_ k8 c8_, .bool false, .slice Q8_ l8 d8_] 26)) := (Below.refl _ _).alloc (Nat.le_refl _) _
  generalize v8.alloc (.cells #[.bool b8, .slice R8_ k8 c8_, .bool false, .slice Q8_ l8 d8_] 26) = u8 at *
  replace fa := fa.below hv_
  replace fb := fb.below hv_
  replace fo := fo.below hv_
  replace o6 := o6.below hv_
  replace o7 := o7.below hv_
  replace HU := HU.below hv_
  replace HB := HB.trans (hv_.mono HB.size)
  clear hv_ m_ n_
  have e0 := fa.c0
  have e1 := fa.c1
  have e2 := fa.c2
  have e3 := fa.c3
  have f0 := fo.c0
  have f1 := fo.c1
  have f2 := fo.c2
  have f3 := fo.c3
  have lt_e0 := cell_lt e0
  have lt_f0 := cell_lt f0
  go_wp2_with fail
  refine (HH9.out _ _ _ _ _ _ _ _ _ fa.m fa.n fo.m fo.n).mono ?_
  rintro e v9 ⟨R9_, c9_, Q9_, d9_, rfl, m_, n_, h_⟩
  clear f0 f1 f2 f3 lt_f0
  clear e0 e1 e2 e3 lt_e0
  replace m_ := m_.up (B' := uB.heap.size) (by simpa using HU.size)
  replace n_ := n_.up (B' := uB.heap.size) (by simpa using HU.size)
  have hv_ : Below u8.heap.size u8 v9 := Below.trans (b := _) (by repeat (first | assumption | exact Bv _ _ | refine Ba ?_ (by simp; try omega) _ | refine Bd ?_ | refine Bn ?_ _)) (h_.mono (by simp; try omega))
  replace fa := fa.below hv_
  replace fb := fb.below hv_
  replace fo := fo.below hv_
  replace o6 := o6.below hv_
  replace o7 := o7.below hv_
  replace o8 := o8.below hv_
  replace HU := HU.below hv_
  replace HB := HB.trans (hv_.mono HB.size)
  clear hv_
  go_upto_region 10 with fail
  have o9 : Fn uB.heap.size (v9.alloc (.cells #[.bool b9, .slice R9_ k9 c9_, .bool false, .slice Q9_ l9 d9_] 26)) v9.heap.size b9 R9_ k9 c9_ X9 Q9_ l9 d9_ Y9 := ⟨at_allocF0 rfl, at_allocF1 rfl, at_allocF2 rfl, at_allocF3 rfl, m_.alloc, n_.alloc⟩
  have hv_ : Below v9.heap.size v9 (v9.alloc (.cells #[.bool b9, .slice R9_ k9 c9_, .bool false, .slice Q9_ l9 d9_] 26)) := (Below.refl _ _).alloc (Nat.le_refl _) _
  generalize v9.alloc (.cells #[.bool b9, .slice R9_ k9 c9_, .bool false, .slice Q9_ l9 d9_] 26) = u9 at *
  replace fa := fa.below hv_
  replace fb := fb.below hv_
  replace fo := fo.below hv_
  replace o6 := o6.below hv_
  replace o7 := o7.below hv_
  replace o8 := o8.below hv_
  replace HU := HU.below hv_
  replace HB := HB.trans (hv_.mono HB.size)
  clear hv_ m_ n_
  have e0 := fb.c0
  have e1 := fb.c1
  have e2 := fb.c2
  have e3 := fb.c3
  have f0 := fo.c0
  have f1 := fo.c1
  have f2 := fo.c2
  have f3 := fo.c3
  have lt_e0 := cell_lt e0
  have lt_f0 := cell_lt f0
  go_wp2_with fail
  refine (HH10.out _ _ _ _ _ _ _ _ _ fb.m fb.n fo.m fo.n).mono ?_
  rintro e v10 ⟨R10_, c10_, Q10_, d10_, rfl, m_, n_, h_⟩
  clear f0 f1 f2 f3 lt_f0
  clear e0 e1 e2 e3 lt_e0
  replace m_ := m_.up (B' := uB.heap.size) (by simpa using HU.size)
  replace n_ := n_.up (B' := uB.heap.size) (by simpa using HU.size)
  have hv_ : Below u9.heap.size u9 v10 := Below.trans (b := _) (by repeat (first | assumption | exact Bv _ _ | refine Ba ?_ (by simp; try omega) _ | refine Bd ?_ | refine Bn ?_ _)) (h_.mono (by simp; try omega))
  replace fa := fa.below hv_
  replace fb := fb.below hv_
  replace o6 := o6.below hv_
  replace o7 := o7.below hv_
  replace o8 := o8.below hv_
  replace o9 := o9.below hv_
  replace HU := HU.below hv_
  replace HB := HB.trans (hv_.mono HB.size)
  clear hv_
  go_upto_region 11 with fail
  have o10 : Fn uB.heap.size (v10.alloc (.cells #[.bool b10, .slice R10_ k10 c10_, .bool false, .slice Q10_ l10 d10_] 26)) v10.heap.size b10 R10_ k10 c10_ X10 Q10_ l10 d10_ Y10 := ⟨at_allocF0 rfl, at_allocF1 rfl, at_allocF2 rfl, at_allocF3 rfl, m_.alloc, n_.alloc⟩
  have hv_ : Below v10.heap.size v10 (v10.alloc (.cells #[.bool b10, .slice R10_ k10 c10_, .bool false, .slice Q10_ l10 d10_] 26)) := (Below.refl _ _).alloc (Nat.le_refl _) _
  generalize v10.alloc (.cells #[.bool b10, .slice R10_ k10 c10_, .bool false, .slice Q10_ l10 d10_] 26) = u10 at *
  replace fa := fa.below hv_
  replace fb := fb.below hv_
  replace o6 := o6.below hv_
  replace o7 := o7.below hv_
  replace o8 := o8.below hv_
  replace o9 := o9.below hv_
  replace HU := HU.below hv_
  replace HB := HB.trans (hv_.mono HB.size)
  clear hv_ m_ n_
  have e0 := fa.c0
  have e1 := fa.c1
  have e2 := fa.c2
  have e3 := fa.c3
  have f0 := fa.c0
  have f1 := fa.c1
  have f2 := fa.c2
  have f3 := fa.c3
  have lt_e0 := cell_lt e0
  have lt_f0 := cell_lt f0
  go_wp2_with fail
  refine (HH11.out _ _ _ _ _ _ _ _ _ fa.m fa.n fa.m fa.n).mono ?_
  rintro e v11 ⟨R11_, c11_, Q11_, d11_, rfl, m_, n_, h_⟩
  clear f0 f1 f2 f3 lt_f0
  clear e0 e1 e2 e3 lt_e0
  replace m_ := m_.up (B' := uB.heap.size) (by simpa using HU.size)
  replace n_ := n_.up (B' := uB.heap.size) (by simpa using HU.size)
  have hv_ : Below u10.heap.size u10 v11 := Below.trans (b := _) (by repeat (first | assumption | exact Bv _ _ | refine Ba ?_ (by simp; try omega) _ | refine Bd ?_ | refine Bn ?_ _)) (h_.mono (by simp; try omega))
  replace fa := fa.below hv_
  replace fb := fb.below hv_
  replace o6 := o6.below hv_
  replace o7 := o7.below hv_
  replace o8 := o8.below hv_
  replace o9 := o9.below hv_
  replace o10 := o10.below hv_
  replace HU := HU.below hv_
  replace HB := HB.trans (hv_.mono HB.size)
  clear hv_
  go_upto_region 12 with fail
  have o11 : Fn uB.heap.size (v11.alloc (.cells #[.bool b11, .slice R11_ k11 c11_, .bool false, .slice Q11_ l11 d11_] 26)) v11.heap.size b11 R11_ k11 c11_ X11 Q11_ l11 d11_ Y11 := ⟨at_allocF0 rfl, at_allocF1 rfl, at_allocF2 rfl, at_allocF3 rfl, m_.alloc, n_.alloc⟩
  have hv_ : Below v11.heap.size v11 (v11.alloc (.cells #[.bool b11, .slice R11_ k11 c11_, .bool false, .slice Q11_ l11 d11_] 26)) := (Below.refl _ _).alloc (Nat.le_refl _) _
  generalize v11.alloc (.cells #[.bool b11, .slice R11_ k11 c11_, .bool false, .slice Q11_ l11 d11_] 26) = u11 at *
  replace fa := fa.below hv_
  replace fb := fb.below hv_
  replace o6 := o6.below hv_
  replace o7 := o7.below hv_
  replace o8 := o8.below hv_
  replace o9 := o9.below hv_
  replace o10 := o10.below hv_
  replace HU := HU.below hv_
  replace HB := HB.trans (hv_.mono HB.size)
  clear hv_ m_ n_
  clear HH6 HH7 HH8 HH9 HH10 HH11
  have x0 := o6.c0
  have x1 := o6.c1
  have x2 := o6.c2
  have x3 := o6.c3
  have y0 := o7.c0
  have y1 := o7.c1
  have y2 := o7.c2
  have y3 := o7.c3
  have z0 := o8.c0
  have z1 := o8.c1
  have z2 := o8.c2
  have z3 := o8.c3
  have q0 := o9.c0
  have q1 := o9.c1
  have q2 := o9.c2
  have q3 := o9.c3
  have r0 := o10.c0
  have r1 := o10.c1
  have r2 := o10.c2
  have r3 := o10.c3
  have s0 := o11.c0
  have s1 := o11.c1
  have s2 := o11.c2
  have s3 := o11.c3
  have lt_x0 := cell_lt x0
  have lt_y0 := cell_lt y0
  have lt_z0 := cell_lt z0
  have lt_q0 := cell_lt q0
  have lt_r0 := cell_lt r0
  have lt_s0 := cell_lt s0
  go_upto_region 13 with (at_builtin; refine wpList_app0F rfl (.tmp 91) (.tmp 98) rfl ⟨uB.heap.size, 0, none⟩ rfl u11.heap.size 6 6 rfl _ (by rfl) rng_newb (by omega) (by omega) ?_; intro cap cur hcur hc1 hc2)
  have hB11_ := HU.size
  have hR6 := hid ((Row6.of hcur (o6.wr I6.out) (o7.wr I7.out) (o8.wr I8.out) (o9.wr I9.out) (o10.wr I10.out) (o11.wr I11.out)))
  clear o6 o7 o8 o9 o10 o11 I6 I7 I8 I9 I10 I11 hcur x0 x1 x2 x3 y0 y1 y2 y3 z0 z1 z2 z3 q0 q1 q2 q3 r0 r1 r2 r3 s0 s1 s2 s3 lt_x0 lt_y0 lt_z0 lt_q0 lt_r0 lt_s0
  generalize hX : (Obj.cells #[.bool b6, .slice R6_ k6 c6_, .bool false, .slice Q6_ l6 d6_, .bool b7, .slice R7_ k7 c7_, .bool false, .slice Q7_ l7 d7_, .bool b8, .slice R8_ k8 c8_, .bool false, .slice Q8_ l8 d8_, .bool b9, .slice R9_ k9 c9_, .bool false, .slice Q9_ l9 d9_, .bool b10, .slice R10_ k10 c10_, .bool false, .slice Q10_ l10 d10_, .bool b11, .slice R11_ k11 c11_, .bool false, .slice Q11_ l11 d11_] 26) = X at *
  clear hX
  have hrow := hid (show ((u11.alloc X).alloc (.cells cur 26)).drew.heap[u11.heap.size + 1]? = some (.cells cur 26) by have h := heap_alloc_new (u11.alloc X) (.cells cur 26); rw [show (u11.alloc X).heap.size = u11.heap.size + 1 by simp] at h; exact h)
  have hv_ : Below u11.heap.size u11 ((u11.alloc X).alloc (.cells cur 26)).drew := (((Below.refl _ _).alloc (Nat.le_refl _) _).alloc (by simp) _).drew
  have hsz12 : u11.heap.size + 1 < ((u11.alloc X).alloc (.cells cur 26)).drew.heap.size := by simp
  generalize ((u11.alloc X).alloc (.cells cur 26)).drew = u12 at *
  generalize hgL : u11.heap.size + 1 = gL at *
  have HgL := hid hgL
  clear hgL
  replace fa := fa.below hv_
  replace fb := fb.below hv_
  replace HU := HU.below hv_
  replace HB := HB.trans (hv_.mono HB.size)
  replace hR6 := hid (hR6.out.below hv_)
  clear hv_
  have HL : Snc u12 u12 := Below.refl _ _
  have HB11 := hid hB11_
  clear hB11_
  have HU12 := hid HU.size
  have e0 := fa.c0
  have e1 := fa.c1
  have e2 := fa.c2
  have e3 := fa.c3
  have lt_e0 := cell_lt e0
  go_wp2_with fail
  refine (HH13.out _ _ _ _ _ fa.m fa.n).mono ?_
  rintro e v13 ⟨R13, c13, rfl, m_, h_⟩
  clear e0 e1 e2 e3 lt_e0
  have hk13 : k13 ≤ 9223372036854775807 := by have h1 := m_.m.cap; have h2 := m_.m.max; have h3 := I13.out.hn; omega
  have W13 := hid (show Wr u12.heap.size v13.heap.size v13 k13 R13 by have h := m_.wr; rw [← I13.out.hn] at h; exact h)
  clear m_ fa
  replace hR6 := hid (hR6.out.below h_)
  have hv_ : Below u12.heap.size u12 v13 := Below.trans (b := _) (by repeat (first | assumption | exact Bv _ _ | refine Ba ?_ (by simp; try omega) _ | refine Bd ?_ | refine Bn ?_ _)) (h_.mono (by simp; try omega))
  replace fb := fb.below hv_
  replace HU := HU.below hv_
  replace HL := HL.below hv_
  replace HB := HB.trans (hv_.mono HB.size)
  clear hv_
  go_upto_region 14 with fail
  have i0 := at_alloc0 (W := v13) (a := .bool b13) (b := .slice R13 k13 c13) (t := 24) rfl
  have i1 := at_alloc1 (W := v13) (a := .bool b13) (b := .slice R13 k13 c13) (t := 24) rfl
  have hv_ : Below v13.heap.size v13 (v13.alloc (.cells #[.bool b13, .slice R13 k13 c13] 24)) := (Below.refl _ _).alloc (Nat.le_refl _) _
  replace W13 := hid (W13.out.below hv_)
  replace hR6 := hid (hR6.out.below hv_)
  generalize v13.alloc (.cells #[.bool b13, .slice R13 k13 c13] 24) = u13 at *
  replace fb := fb.below hv_
  replace HU := HU.below hv_
  replace HL := HL.below hv_
  replace HB := HB.trans (hv_.mono HB.size)
  have lt_v13 := hv_.size
  clear hv_
  have e0 := fb.c0
  have e1 := fb.c1
  have e2 := fb.c2
  have e3 := fb.c3
  have lt_e0 := cell_lt e0
  have lt_i0 := cell_lt i0
  go_wp2_with fail
  refine (HH14.out _ _ _ _ _ fb.m fb.n).mono ?_
  rintro e v14 ⟨R14, c14, rfl, m_, h_⟩
  clear e0 e1 e2 e3 lt_e0
  have hk14 : k14 ≤ 9223372036854775807 := by have h1 := m_.m.cap; have h2 := m_.m.max; have h3 := I14.out.hn; omega
  have W14 := hid (show Wr u12.heap.size v14.heap.size v14 k14 R14 by have h := (m_.up (B' := u12.heap.size) (by simpa using HL.size)).wr; rw [← I14.out.hn] at h; exact h)
  clear m_ fb
  replace hR6 := hid (hR6.out.below h_)
  replace W13 := hid (W13.out.below h_)
  have hs_ := h_.size
  have hv_ : Below u13.heap.size u13 v14 := Below.trans (b := _) (by repeat (first | assumption | exact Bv _ _ | refine Ba ?_ (by simp; try omega) _ | refine Bd ?_ | refine Bn ?_ _)) (h_.mono (by simp; try omega))
  replace HU := HU.below hv_
  replace HL := HL.below hv_
  replace i0 := keep_cell hv_ i0
  replace i1 := keep_cell hv_ i1
  have lt_i0 := cell_lt i0
  have lt_i1 := cell_lt i1
  replace HB := HB.trans (hv_.mono HB.size)
  clear hv_
  go_upto_region 15 with fail
  have j0 := at_alloc0 (W := v14) (a := .bool b14) (b := .slice R14 k14 c14) (t := 24) rfl
  have j1 := at_alloc1 (W := v14) (a := .bool b14) (b := .slice R14 k14 c14) (t := 24) rfl
  have hv_ : Below v14.heap.size v14 (v14.alloc (.cells #[.bool b14, .slice R14 k14 c14] 24)) := (Below.refl _ _).alloc (Nat.le_refl _) _
  replace W13 := hid (W13.out.below hv_)
  replace W14 := hid (W14.out.below hv_)
  replace hR6 := hid (hR6.out.below hv_)
  generalize v14.alloc (.cells #[.bool b14, .slice R14 k14 c14] 24) = u14 at *
  replace i0 := keep_cell hv_ i0
  replace i1 := keep_cell hv_ i1
  replace HU := HU.below hv_
  replace HL := HL.below hv_
  replace HB := HB.trans (hv_.mono HB.size)
  have lt_v14 := hv_.size
  clear hv_
  have lt_i0 := cell_lt i0
  have lt_j0 := cell_lt j0
  go_wp2_with fail
  have hsB := HU.size
  have hs12 := HL.size
  have hB12 : uB.heap.size ≤ u12.heap.size := by have := HU12.out; exact this
  refine (Lchanged_g (b := b13) (c := c13) W13.out (by omega) hk13).mono ?_
  rintro e w15 ⟨rfl, hch⟩
  replace j0 := hch.cell W13.out (by omega) j0
  replace j1 := hch.cell W13.out (by omega) j1
  replace HL : Snc u12 w15 := Below.chg HL hch W13.out (Nat.le_refl _) hs12
  replace HU : Snc uB w15 := Below.chg HU hch W13.out hB12 hsB
  replace HB := Below.chg HB hch W13.out (Nat.le_trans HBu.out.size hB12) HB.size
  replace hR6 := hid (hR6.out.chg hch)
  replace W14 := hid (W14.out.chg hch)
  have hs15 := hch.size
  clear hch W13 i0 i1 lt_i0 lt_j0
  have lt_j0 := cell_lt j0
  go_wp2_with fail
  refine (Lchanged_g (b := b14) (c := c14) W14.out (by omega) hk14).mono ?_
  rintro e w16 ⟨rfl, hch⟩
  replace HL : Snc u12 w16 := Below.chg HL hch W14.out (Nat.le_refl _) (by omega)
  replace HU : Snc uB w16 := Below.chg HU hch W14.out hB12 (by omega)
  replace hR6 := hid (hR6.out.chg hch)
  have hrow2 := hid (show w16.heap[gL]? = some (.cells cur 26) from (Below.block HL gL hsz12).trans hrow.out)
  clear hch W14 j0 j1 lt_j0 HB hrow HL
  go_wp2_with fail
  go_loopw [26] (fun s26 wr => ∃ j : Nat, j ≤ 6 ∧ s26 = .int .i64 j ∧ Snc uB wr ∧ Hid (wr.heap[gL]? = some (.cells cur 26)) ∧ Hid (Row6 uB.heap.size u11.heap.size wr cur)) (fun s26 _ => 6 - (intOf s26).toNat)
  case atStart => exact ⟨0, by omega, rfl, HU, hrow2, hR6⟩
  case round =>
   clear HU hrow2 hR6
   obtain ⟨j, hj, rfl, HU, hrow, hR6⟩ := hrel
   have hsU := HU.size
   have hg11 := HgL.out
   have hlt11 : u11.heap.size ≤ gL := by omega
   have hgr : gL < wr.heap.size := (Array.getElem?_eq_some_iff.1 hrow.out).1
   have hs11 : u11.heap.size ≤ wr.heap.size := by omega
   have hB11 := HB11.out
   clear hg11
   by_cases hj6 : j < 6
   ·obtain ⟨b, R, k, c, Q, l, d, a0, a1, a2, a3, ⟨hk, hl⟩, W1, W2⟩ := hR6.out j hj6
    have t0 := row_cell hrow.out a0
    have t1 := row_cell hrow.out a1
    have t2 := row_cell hrow.out a2
    have t3 := row_cell hrow.out a3
    clear a0 a1 a2 a3
    have hW1 := hid W1
    have hW2 := hid W2
    clear W1 W2
    go_wp2_with fail
    refine (Lchanged_g (b := b) (c := c) hW1.out hs11 hk).mono ?_
    rintro e w1 ⟨rfl, hch⟩
    replace t2 := hch.cell hW1.out hlt11 t2
    replace t3 := hch.cell hW1.out hlt11 t3
    replace HU : Snc uB w1 := Below.chg HU hch hW1.out (Nat.le_refl _) hsU
    replace hR6 := hid (hR6.out.chg hch)
    replace hW2 := hid (hW2.out.chg hch)
    replace hrow := hid ((hch.far hW1.out hgr hlt11).trans hrow.out)
    have hs1 := hch.size
    clear hch hW1 t0 t1
    go_wp2_with fail
    refine (Lchanged_g (b := false) (c := d) hW2.out (by omega) hl).mono ?_
    rintro e w2 ⟨rfl, hch⟩
    replace HU : Snc uB w2 := Below.chg HU hch hW2.out (Nat.le_refl _) (by omega)
    replace hR6 := hid (hR6.out.chg hch)
    replace hrow := hid ((hch.far hW2.out (by omega) hlt11).trans hrow.out)
    clear hch hW2 t2 t3
    go_wp2_with fail
    go_roundw
    case rel => exact ⟨j + 1, by omega, by go_num, HU, hrow, hR6⟩
    case measure => simp [intOf]; omega
   ·obtain rfl : j = 6 := by omega
    clear hR6 hrow
    have fa := fa0.out.below HU
    have fb := fb0.out.below HU
    have fp := fp0.out.below HU
    have fq := fq0.out.below HU
    have HB := bel_step HBu.out HU
    have x0 := fa.c0
    have x1 := fa.c1
    have x2 := fa.c2
    have x3 := fa.c3
    have y0 := fp.c0
    have y1 := fp.c1
    have y2 := fp.c2
    have y3 := fp.c3
    have lt_x0 := cell_lt x0
    have lt_y0 := cell_lt y0
    go_wp2_with fail
    refine (HS1.out _ _ _ _ _ _ _ _ _ fa.m fa.n fp.m fp.n).mono ?_
    rintro e w7 ⟨rfl, h_⟩
    clear x0 x1 x2 x3 y0 y1 y2 y3 lt_x0 lt_y0
    have hv_ : Below wr.heap.size wr w7 := Below.trans (b := _) (by repeat (first | assumption | exact Bv _ _ | refine Ba ?_ (by simp; try omega) _ | refine Bd ?_ | refine Bn ?_ _)) (h_.mono (by simp; try omega))
    replace fb := fb.below hv_
    replace fq := fq.below hv_
    replace HB := HB.trans (hv_.mono HB.size)
    clear hv_
    have x0 := fb.c0
    have x1 := fb.c1
    have x2 := fb.c2
    have x3 := fb.c3
    have y0 := fq.c0
    have y1 := fq.c1
    have y2 := fq.c2
    have y3 := fq.c3
    have lt_x0 := cell_lt x0
    have lt_y0 := cell_lt y0
    go_wp2_with fail
    refine (HS2.out _ _ _ _ _ _ _ _ _ fb.m fb.n fq.m fq.n).mono ?_
    rintro e w8 ⟨rfl, h_⟩
    have hv_ : Below w7.heap.size w7 w8 := Below.trans (b := _) (by repeat (first | assumption | exact Bv _ _ | refine Ba ?_ (by simp; try omega) _ | refine Bd ?_ | refine Bn ?_ _)) (h_.mono (by simp; try omega))
    replace HB := HB.trans (hv_.mono HB.size)
    clear hv_
    go_wp2_with fail
    refine (HE.out _ HB).mono ?_
    rintro e we ⟨rfl, hwe⟩
    go_wp2
    go_ret
    exact ⟨rfl, bel_step HB hwe⟩
end Go.Proofs.YtfdmlfpldgobjaaGreatDoor
