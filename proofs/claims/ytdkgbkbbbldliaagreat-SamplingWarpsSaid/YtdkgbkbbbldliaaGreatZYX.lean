/- Package fraction: walks of opposite, reciprocal, Sub, Mul, Div. Conditions: none. -/
import Derived.Test.YtdkgbkbbbldliaaGreatZYK
import Derived.Test.YtdkgbkbbbldliaaGreatZYA
import Derived.Deep.DeepCutAuto
import Derived.Deep.Light
set_option linter.unusedVariables false
set_option linter.unusedSimpArgs false
namespace Go.Proofs.YtdkgbkbbbldliaaGreat
open Go.RowKit Big
set_option maxRecDepth 100000 in
set_option maxHeartbeats 4000000 in
theorem FrFloor_any {na nb : Bool} {xs ys : List Nat} {A B : Option Addr} {ca cb : Nat} {w : World} (ma : Mg w A ca xs) (mb : Mg w B cb ys) :
  Calls Tryz.prog 93 #[.agg #[.bool na, .slice A xs.length ca, .bool nb, .slice B ys.length cb]] w (X6 w (intR flrF na xs nb ys).1 (intR flrF na xs nb ys).2) := by
 have HX := hid fun (w1 : World) (h : Below w.heap.size w w1) => Frvalid1 (na := na) (nb := nb) (u := w1) (ma.below h) (mb.below h)
 cases v1 : fvB na xs nb ys
 ·have hr_ : intR flrF na xs nb ys = (0, 1) := by unfold intR; rw [v1]; rfl
  rw [hr_]
  rw [v1] at HX
  clear hr_ v1 ma mb
  generalize xs.length = ka at *
  generalize ys.length = la at *
  go_enter Tryz.func93, Tryz.ntmps93
  go_wp2_with fail
  refine enterFI (P := fun u => Calls _ _ _ (u.alloc _) _) ?_
  intro u HB q0 q1 q2 q3 r0 r1 z1 z2 hsz
  have f_z1 := z1.fr
  have f_z2 := z2.fr
  have lt_q0 := Kd q0
  have lt_r0 := Kd r0
  have HX2 := HX.out u HB
  rw [hsz.out] at HX2
  refine HX2.mono ?_
  clear HX2
  rintro e w1 ⟨rfl, h1⟩
  have hv_ : Below u.heap.size u w1 := Below.trans (b := _) BL (h1.mono (by simp; try omega))
  replace q0 := Ka hv_ q0
  replace q1 := Ka hv_ q1
  replace q2 := Ka hv_ q2
  replace q3 := Ka hv_ q3
  replace r0 := Ka hv_ r0
  replace r1 := Ka hv_ r1
  have lt_q0 := Kd q0
  have lt_q1 := Kd q1
  have lt_q2 := Kd q2
  have lt_q3 := Kd q3
  have lt_r0 := Kd r0
  have lt_r1 := Kd r1
  replace z1 := z1.below hv_
  replace z2 := z2.below hv_
  replace f_z1 := z1.fr
  replace f_z2 := z2.fr
  replace HB := HB.trans (hv_.mono HB.size)
  clear hv_
  go_wp2
  refine bodyPost_ret (v := .tuple #[.agg #[.bool false, .slice none 0 0], .int .i64 1]) ?_ rfl ?_
  ·simp [results, Tryz.results93, go_sem, r0, r1]
  ·exact Zf 1 (Kg (Kg HB (by omega) _ _) (by omega) _ _)
 ·rw [v1] at HX
  obtain ⟨rfl, p1, p2, p3, p4, p5, p6⟩ := fvB_ok ma.ok mb.ok v1
  have hr_ : intR flrF na xs false ys = (flrF (sg na (val xs), val ys), 0) := by unfold intR; rw [v1]; rfl
  rw [hr_]
  have IF : Hid (Fz (sg na (val xs), val ys) na xs.length xs ys.length ys) := ⟨p1, by rw [Ja]; exact p2, rfl, p3, rfl⟩
  have NF := hid p4
  generalize (sg na (val xs), val ys) = f at *
  have hd0 : f.2 ≠ 0 := by have := p4.1; omega
  clear hr_ v1 p1 p2 p3 p4
  generalize xs.length = ka at *
  generalize ys.length = la at *
  obtain ⟨b, k3, L3, I3⟩ := iz (flrF f)
  obtain ⟨b4, k4, L4, I4⟩ := iz (f.1 % (f.2 : Int))
  have hdm := dm_floor f.1 hd0
  have HD := hid fun (w1 : World) (h : Below w.heap.size w w1) => Dh (w := w1) IF.out.num IF.out.den I3.out I4.out (ma.below h) (mb.below h) (by unfold fits; rw [IF.out.n.len]; exact p5) (by rw [Wt, IF.out.d.len]; exact p6) (by omega) hdm.1 hdm.2
  generalize flrF f = z at *
  clear hd0 ma mb IF I4 hdm NF
  go_enter Tryz.func93, Tryz.ntmps93
  go_wp2_with fail
  refine enterFI (P := fun u => Calls _ _ _ (u.alloc _) _) ?_
  intro u HB q0 q1 q2 q3 r0 r1 z1 z2 hsz
  have f_z1 := z1.fr
  have f_z2 := z2.fr
  have lt_q0 := Kd q0
  have lt_r0 := Kd r0
  have HX2 := HX.out u HB
  rw [hsz.out] at HX2
  refine HX2.mono ?_
  clear HX2
  rintro e w1 ⟨rfl, h1⟩
  have hv_ : Below u.heap.size u w1 := Below.trans (b := _) BL (h1.mono (by simp; try omega))
  replace q0 := Ka hv_ q0
  replace q1 := Ka hv_ q1
  replace q2 := Ka hv_ q2
  replace q3 := Ka hv_ q3
  replace r0 := Ka hv_ r0
  replace r1 := Ka hv_ r1
  have lt_q0 := Kd q0
  have lt_q1 := Kd q1
  have lt_q2 := Kd q2
  have lt_q3 := Kd q3
  have lt_r0 := Kd r0
  have lt_r1 := Kd r1
  replace z1 := z1.below hv_
  replace z2 := z2.below hv_
  replace f_z1 := z1.fr
  replace f_z2 := z2.fr
  replace HB := HB.trans (hv_.mono HB.size)
  clear hv_
  go_wp2_with fail
  refine (HD.out _ HB).mono ?_
  rintro e w2 ⟨R1, c1, R2, c2, rfl, m1, m2, h2⟩
  have hv_ : Below w1.heap.size w1 w2 := Below.trans (b := _) BL (h2.mono (by simp; try omega))
  replace r0 := Ka hv_ r0
  replace r1 := Ka hv_ r1
  have lt_r0 := Kd r0
  have lt_r1 := Kd r1
  replace z2 := z2.below hv_
  replace f_z2 := z2.fr
  replace HB := HB.trans (hv_.mono HB.size)
  clear hv_
  go_upto_region 4 with fail
  have s0 := Kk (b := .cells #[.bool b4, .slice R2 k4 c2] 27) (K5 (W := w2) (a := .bool b) (b := .slice R1 k3 c1) (t := 27) rfl)
  have s1 := Kk (b := .cells #[.bool b4, .slice R2 k4 c2] 27) (K7 (W := w2) (a := .bool b) (b := .slice R1 k3 c1) (t := 27) rfl)
  have t0 := K5 (W := w2.alloc (.cells #[.bool b, .slice R1 k3 c1] 27)) (a := .bool b4) (b := .slice R2 k4 c2) (t := 27) rfl
  have t1 := K7 (W := w2.alloc (.cells #[.bool b, .slice R1 k3 c1] 27)) (a := .bool b4) (b := .slice R2 k4 c2) (t := 27) rfl
  have hv_ : Below w2.heap.size w2 ((w2.alloc (.cells #[.bool b, .slice R1 k3 c1] 27)).alloc (.cells #[.bool b4, .slice R2 k4 c2] 27)) := ((Below.refl _ _).alloc (Nat.le_refl _) _).alloc (by simp) _
  simp only [World.size_alloc] at t0 t1
  generalize (w2.alloc (.cells #[.bool b, .slice R1 k3 c1] 27)).alloc (.cells #[.bool b4, .slice R2 k4 c2] 27) = u2 at *
  replace m1 := m1.below hv_
  replace z2 := z2.below hv_
  replace r0 := Ka hv_ r0
  replace r1 := Ka hv_ r1
  replace HB := HB.trans (hv_.mono HB.size)
  clear hv_
  have f_z2 := z2.fr
  go_wp2
  refine bodyPost_ret (v := .tuple #[.agg #[.bool b, .slice R1 k3 c1], .int .i64 0]) ?_ rfl ?_
  ·simp [results, Tryz.results93, go_sem, r0, r1]
  ·obtain ⟨j1_, j2_⟩ := Z1 m1 HB (by omega) r0 r1 (.bool b) (.slice R1 k3 c1)
   exact GZE.r ⟨R1, c1, rfl, j1_, j2_⟩ I3.out
theorem Zn.alloc {W : World} {g : Nat} {o : Obj} (h : Zn W g) : Zn (W.alloc o) g := h.below ((Below.refl _ _).alloc (Nat.le_refl _) _)
theorem Zn.drew {W : World} {g : Nat} (h : Zn W g) : Zn W.drew g := ⟨h.lt, h.fr⟩
theorem Zn.set {W : World} {g : Nat} {a : Addr} {u : Value} (h : Zn W g) : Zn (W.setCell a u) g := ⟨by have := h.lt; simpa using this, fun i => by have := h.fr i; simpa using this⟩
theorem Zn.new {W : World} {X : Array Value} {t : TypeId} {g : Nat} (hg : g = W.heap.size) : Zn (W.alloc (.cells X t)) g := by
 subst hg
 obtain ⟨_, q, r⟩ := Ks (w := W) (Below.refl _ (W.alloc (.cells X t)))
 exact ⟨r, q⟩
/-- a term of a continued fraction, and where its limbs lie -/
structure Te where
 t : Nat
 A : Option Addr
 c : Nat
structure TeAt (w : World) (g o : Nat) (f : Te) : Prop where
 c0 : w.cell? ⟨g, o, none⟩ = some (.bool false)
 c1 : w.cell? ⟨g, o + 1, none⟩ = some (.slice f.A (limbs f.t).length f.c)
 m : Mg w f.A f.c (limbs f.t)
theorem TeAt.below {w w' : World} {g o : Nat} {f : Te} (h : TeAt w g o f) (hb : Below w.heap.size w w') : TeAt w' g o f :=
 ⟨Ka hb h.c0, Ka hb h.c1, h.m.below hb⟩
theorem infoInt2 : (Tryz.prog.info? 27).map (fun i => (i.zero, i.size, i.bytes)) = some (some (.agg #[.bool false, .slice none 0 0]), 2, 32) := by kernel_rfl
def Te.cells (f : Te) : List Value := [.bool false, .slice f.A (limbs f.t).length f.c]
def cellsT : List Te → List Value
 | [] => []
 | f :: ts => f.cells ++ cellsT ts
theorem Hc : ∀ (ts : List Te) (j : Nat) (h : j < ts.length), (cellsT ts)[j * 2]? = some (.bool false) ∧ (cellsT ts)[j * 2 + 1]? = some (.slice ts[j].A (limbs ts[j].t).length ts[j].c)
 | [], j, h => by simp at h
 | f :: ts, 0, _ => ⟨rfl, rfl⟩
 | f :: ts, j + 1, h => by
  have h' := Hc ts j (by simpa using h)
  have e1 : (j + 1) * 2 = j * 2 + 2 := by omega
  have e2 : (j + 1) * 2 + 1 = j * 2 + 1 + 2 := by omega
  rw [e1]
  exact ⟨h'.1, h'.2⟩
def isW : Value → Bool
 | .int .u32 _ => true
 | _ => false
theorem isW_zero (n : Nat) : ∀ x ∈ (Builtin.zeroCells #[.bool false, .slice none 0 0] n).toList, isW x = false := by
 intro x hx
 simp only [Builtin.zeroCells, Array.toList_map, List.mem_map] at hx
 obtain ⟨i, _, rfl⟩ := hx
 have h2 : i % 2 = 0 ∨ i % 2 = 1 := by omega
 rcases h2 with h | h <;> (show isW (#[Value.bool false, .slice none 0 0][i % 2]!) = false; rw [h]; rfl)
/-- a row of terms that the call owns; no cell of its block holds a limb -/
structure OwnT (w : World) (base : Nat) (v : Value) (ts : List Te) : Prop where
 own : w.ownsRow base 27 2 v ts.length (cellsT ts)
 ni : ∀ k, v.ownBlock = some k → ∀ cur e fz, w.heap[k]? = some (.cells cur e fz) → ∀ x ∈ cur.toList, isW x = false
theorem OwnT.nil (w : World) (base : Nat) : OwnT w base (.slice none 0 0) [] := ⟨World.ownsRow_nil _ _ _ _, fun k h => by simp [Value.ownBlock] at h⟩
theorem OwnT.below {w w' : World} {base : Nat} {v : Value} {ts : List Te} (h : OwnT w base v ts) (hb : Below w.heap.size w w') : OwnT w' base v ts := by
 refine ⟨⟨h.own.1, ?_⟩, fun k hk cur e fz hc => ?_⟩
 ·rcases h.own.2 with h2 | ⟨g, cap, cur, hv, hg, hh, r⟩
  ·exact .inl h2
  ·exact .inr ⟨g, cap, cur, hv, hg, (hb.block g (Array.getElem?_eq_some_iff.1 hh).1).trans hh, r⟩
 ·exact h.ni k hk cur e fz ((hb.block k (h.own.lt k hk).2).symm.trans hc)
/-- limbs lie in no such block -/
theorem OwnT.far {w : World} {base : Nat} {v : Value} {ts : List Te} (h : OwnT w base v ts) {A : Option Addr} {c : Nat} {xs : List Nat} (m : Mg w A c xs) (hl : 0 < xs.length) : ∀ p, A = some p → some p.block ≠ v.ownBlock := by
 intro p hp he
 obtain ⟨b, o, e, hB, hc⟩ := m.rd hl
 rw [e] at hp
 injection hp with hp
 subst hp
 have h1 := hc 0 hl
 have h2 := h.ni b he.symm
 unfold World.cell? at h1
 simp only [Option.isSome_none, Bool.false_eq_true, if_false] at h1
 split at h1
 ·rename_i cur e' fz hq
  have h3 := h2 cur e' fz hq (lim xs[0]) (by
   obtain ⟨h4, h5⟩ := Array.getElem?_eq_some_iff.1 h1
   rw [← h5]; exact Array.getElem_mem_toList h4)
  simp [lim, isW] at h3
 ·cases h1
theorem Mg.grownT {w w' : World} {base : Nat} {v : Value} {ts : List Te} (h : OwnT w base v ts) {A : Option Addr} {c : Nat} {xs : List Nat} (m : Mg w A c xs) (hg : w.grownBy w' v.ownBlock) : Mg w' A c xs :=
 ⟨m.cap, m.max, m.ok, fun hl => by
  have hne := h.far m hl
  obtain ⟨b, o, e, hB, hc⟩ := m.rd hl
  exact ⟨b, o, e, Nat.lt_of_lt_of_le hB hg.size, fun j hj => (World.cell?_of_block (a := ⟨b, o + j, none⟩) (hg.block b hB (hne _ e))).trans (hc j hj)⟩⟩
theorem Zn.grownT {w w' : World} {row : Option Nat} (hg : w.grownBy w' row) {b : Nat} (hne : some b ≠ row) (h : Zn w b) : Zn w' b :=
 ⟨Nat.lt_of_lt_of_le h.lt hg.size, fun i => (World.frozen?_of_block (a := ⟨b, i, none⟩) (hg.block b h.lt hne)).trans (h.fr i)⟩
section
variable {P : Program}
end
/-- the limbs of the terms -/
structure TMg (w : World) (ts : List Te) : Prop where
 m : ∀ j (h : j < ts.length), Mg w ts[j].A ts[j].c (limbs ts[j].t)
theorem TMg.below {w w' : World} {ts : List Te} (h : TMg w ts) (hb : Below w.heap.size w w') : TMg w' ts := ⟨fun j hj => (h.m j hj).below hb⟩
theorem TMg.nil (w : World) : TMg w [] := ⟨fun j h => by simp at h⟩
theorem TMg.grown {w w' : World} {base : Nat} {v : Value} {ts us : List Te} (h : TMg w ts) (ho : OwnT w base v us) (hg : w.grownBy w' v.ownBlock) : TMg w' ts := ⟨fun j hj => (h.m j hj).grownT ho hg⟩
theorem TMg.mono {w w' : World} {ts : List Te} (h : TMg w ts) (f : ∀ A c xs, Mg w A c xs → Mg w' A c xs) : TMg w' ts := ⟨fun j hj => f _ _ _ (h.m j hj)⟩
theorem OwnT.form {w : World} {base : Nat} {v : Value} {ts : List Te} (h : OwnT w base v ts) : ∃ A c, v = .slice A ts.length c ∧ ts.length ≤ c ∧ c ≤ 9223372036854775807 := by
 rcases h.own.2 with ⟨rfl, h0⟩ | ⟨g, cap, cur, rfl, _, hg, hnc, hmx, hcs, htake⟩
 ·exact ⟨none, 0, by rw [h0], by omega, by omega⟩
 ·exact ⟨_, cap, rfl, hnc, by unfold maxLen at hmx; omega⟩
theorem OwnT.at_ {w : World} {base : Nat} {A : Option Addr} {n c : Nat} {ts : List Te} (h : OwnT w base (.slice A n c) ts) (hm : TMg w ts) : 0 < ts.length → ∃ g, A = some ⟨g, 0, none⟩ ∧ ∀ j (h : j < ts.length), TeAt w g (j * 2) ts[j] := by
 intro h0
 rcases h.own.2 with ⟨_, h1⟩ | ⟨g, cap, cur, hv, _, hg, hnc, hmx, hcs, htake⟩
 ·omega
 ·injection hv with hv
  refine ⟨g, hv, fun j hj => ?_⟩
  obtain ⟨h1, h2⟩ := Hc ts j hj
  rw [← htake] at h1 h2
  rw [List.getElem?_take, if_pos (by omega)] at h1 h2
  refine ⟨?_, ?_, hm.m j hj⟩
  ·rw [cell_of_row w g _ cur _ _ hg]; simpa using h1
  ·rw [cell_of_row w g _ cur _ _ hg]; simpa using h2
/-- another block is written: the row stays -/
theorem OwnT.set {w : World} {base : Nat} {v : Value} {ts : List Te} (h : OwnT w base v ts) {g i : Nat} {u : Value} (hg : g < base) : OwnT (w.setCell ⟨g, i, none⟩ u) base v ts := by
 have hne : ∀ k, v.ownBlock = some k → (w.setCell ⟨g, i, none⟩ u).heap[k]? = w.heap[k]? := fun k hk => by
  have := (h.own.lt k hk).1
  exact Below.heap_setCell w ⟨g, i, none⟩ u k (by simp; omega)
 refine ⟨⟨h.own.1, ?_⟩, fun k hk cur e fz hc => h.ni k hk cur e fz ((hne k hk).symm.trans hc)⟩
 rcases h.own.2 with h2 | ⟨g', cap, cur, hv, hg', hh, r⟩
 ·exact .inl h2
 ·exact .inr ⟨g', cap, cur, hv, hg', (hne g' (by rw [hv]; rfl)).trans hh, r⟩
structure BSt (wr : World) (n d m k gr g2 g3 : Nat) : Prop where
 ex : ∃ (bn : Bool) (kn : Nat) (Ln : List Nat) (An : Option Addr) (cn : Nat) (kd : Nat) (Ld : List Nat) (Ad : Option Addr) (cd : Nat) (bm : Bool) (km : Nat) (Lm : List Nat) (Am : Option Addr) (cm : Nat) (kk : Nat) (Lk : List Nat) (Ak : Option Addr) (ck : Nat),
  Hid (Iz (n : Nat) bn kn Ln) ∧ Hid (Iz (d : Nat) false kd Ld) ∧ Hid (Iz (m : Nat) bm km Lm) ∧ Hid (Iz (k : Nat) false kk Lk) ∧ Mg wr An cn Ln ∧ Mg wr Ad cd Ld ∧ Mg wr Am cm Lm ∧ Mg wr Ak ck Lk ∧
  wr.cell? ⟨g2, 0, none⟩ = some (.bool bn) ∧ wr.cell? ⟨g2, 1, none⟩ = some (.slice An kn cn) ∧ wr.cell? ⟨g2, 2, none⟩ = some (.bool false) ∧ wr.cell? ⟨g2, 3, none⟩ = some (.slice Ad kd cd) ∧
  wr.cell? ⟨g3, 0, none⟩ = some (.bool bm) ∧ wr.cell? ⟨g3, 1, none⟩ = some (.slice Am km cm) ∧ wr.cell? ⟨g3, 2, none⟩ = some (.bool false) ∧ wr.cell? ⟨g3, 3, none⟩ = some (.slice Ak kk ck)
 res : ∃ x0 x2 A1 n1 c1 B1 m1 d1, wr.cell? ⟨gr, 0, none⟩ = some (.bool x0) ∧ wr.cell? ⟨gr, 1, none⟩ = some (.slice A1 n1 c1) ∧ wr.cell? ⟨gr, 2, none⟩ = some (.bool x2) ∧ wr.cell? ⟨gr, 3, none⟩ = some (.slice B1 m1 d1)
 z1 : Zn wr gr
 z2 : Zn wr g2
 z3 : Zn wr g3
theorem BSt.below {wr w' : World} {n d m k gr g2 g3 : Nat} (h : BSt wr n d m k gr g2 g3) (hb : Below wr.heap.size wr w') : BSt w' n d m k gr g2 g3 := by
 obtain ⟨⟨bn, kn, Ln, An, cn, kd, Ld, Ad, cd, bm, km, Lm, Am, cm, kk, Lk, Ak, ck, i1, i2, i3, i4, m1, m2, m3, m4, q0, q1, q2, q3, r0, r1, r2, r3⟩, ⟨x0, x2, A1, n1, c1, B1, mm1, d1, s0, s1, s2, s3⟩, z1, z2, z3⟩ := h
 exact ⟨⟨bn, kn, Ln, An, cn, kd, Ld, Ad, cd, bm, km, Lm, Am, cm, kk, Lk, Ak, ck, i1, i2, i3, i4, m1.below hb, m2.below hb, m3.below hb, m4.below hb, Ka hb q0, Ka hb q1, Ka hb q2, Ka hb q3, Ka hb r0, Ka hb r1, Ka hb r2, Ka hb r3⟩, ⟨x0, x2, A1, n1, c1, B1, mm1, d1, Ka hb s0, Ka hb s1, Ka hb s2, Ka hb s3⟩, z1.below hb, z2.below hb, z3.below hb⟩
def lenOf : Value → Nat
 | .slice _ n _ => n
 | _ => 0
end Go.Proofs.YtdkgbkbbbldliaaGreat
