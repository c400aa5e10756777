/- An array that is being filled, beside others that stay. Conditions: none. -/
import Derived.Test.YtdkgbkbbbldliaaGreatZYQ
import Derived.Laws.MakeOwn
import Derived.Deep.AppendSrc
import Derived.Test.YtdkgbkbbbldliaaGreatZYR
import Derived.Maps.AppendAt
set_option linter.unusedVariables false
set_option linter.unusedSimpArgs false
namespace Go.Proofs.YtdkgbkbbbldliaaGreat
open Go.RowKit Big
structure Fil (w : World) (kp : List (Nat × List Value)) (gm : Nat) (zs : List Int) (wr : World) : Prop where
 b : Below w.heap.size w wr
 k : ∀ p ∈ kp, wr.rangeAt p.1 0 p.2 ∧ Zn wr p.1 ∧ p.1 ≠ gm
 zm : Zn wr gm
 hg : w.heap.size ≤ gm
 ex : ∃ lm : List ZE, wr.rangeAt gm 0 (Kc lm) ∧ (∀ e ∈ lm, e.ok wr) ∧ lm.map (·.z) = zs
theorem Fil.below {w wr w1 : World} {kp : List (Nat × List Value)} {gm : Nat} {zs : List Int} (h : Fil w kp gm zs wr) (hb : Below wr.heap.size wr w1) : Fil w kp gm zs w1 := by
 obtain ⟨lm, e2, e3, e4⟩ := h.ex
 exact ⟨Kb h.b hb, fun p hp => ⟨Ke (h.k p hp).1 hb, (h.k p hp).2.1.below hb, (h.k p hp).2.2⟩, h.zm.below hb, h.hg, lm, Ke e2 hb, fun e he => (e3 e he).below hb, e4⟩
theorem Fil.set {w wr : World} {kp : List (Nat × List Value)} {gm : Nat} {zs : List Int} (h : Fil w kp gm zs wr) {j : Nat} (hj : j < zs.length) {z : Int} {b : Bool} {n c : Nat} {R : Option Addr} {L : List Nat} (I : Iz z b n L) (m : Mg wr R c L) :
  Fil w kp gm (zs.set j z) ((wr.setCell ⟨gm, j * 2, none⟩ (.bool b)).setCell ⟨gm, j * 2 + 1, none⟩ (.slice R n c)) := by
 obtain ⟨lm, e2, e3, e4⟩ := h.ex
 have hg := h.hg
 have hj2 : j < lm.length := by rw [← List.length_map (·.z), e4]; exact hj
 have hm : ∀ A' c' xs', Mg wr A' c' xs' → Mg ((wr.setCell ⟨gm, j * 2, none⟩ (.bool b)).setCell ⟨gm, j * 2 + 1, none⟩ (.slice R n c)) A' c' xs' := fun _ _ _ hh => Yc e2 hj2 hh
 refine ⟨Kg (Kg h.b hg _ _) hg _ _, fun p hp => ⟨Jh (Jh (h.k p hp).1 (Ne.symm (h.k p hp).2.2)) (Ne.symm (h.k p hp).2.2), (h.k p hp).2.1.set_.set_, (h.k p hp).2.2⟩, h.zm.set_.set_, hg, lm.set j ⟨z, b, n, L, R, c⟩, set_M e2 hj2, fun x hx => ?_, by rw [List.map_set, e4]⟩
 rcases List.mem_or_eq_of_mem_set hx with h5 | rfl
 ·exact (e3 x h5).mv hm
 ·exact ⟨I, hm _ _ _ m⟩
/-- the cells of one number in it -/
theorem Fil.cell {w wr : World} {kp : List (Nat × List Value)} {gm : Nat} {zs : List Int} (h : Fil w kp gm zs wr) {j : Nat} (hj : j < zs.length) : ∃ e : ZE, e.z = zs[j] ∧ e.ok wr ∧ wr.cell? ⟨gm, j * 2, none⟩ = some (.bool e.b) ∧ wr.cell? ⟨gm, j * 2 + 1, none⟩ = some (.slice e.A e.n e.c) := by
 obtain ⟨lm, e2, e3, e4⟩ := h.ex
 have hj2 : j < lm.length := by rw [← List.length_map (·.z), e4]; exact hj
 obtain ⟨p0, p1⟩ := Jm lm j hj2
 have t0 := e2 _ _ p0
 have t1 := e2 _ _ p1
 rw [Nat.zero_add] at t0 t1
 refine ⟨lm[j], ?_, e3 _ (List.getElem_mem hj2), t0, t1⟩
 subst e4
 simp
/-- the cells of one number of an array -/
theorem Jn {w : World} {g : Nat} {l : List ZE} (h : w.rangeAt g 0 (Kc l)) {j : Nat} (hj : j < l.length) : w.cell? ⟨g, j * 2, none⟩ = some (.bool l[j].b) ∧ w.cell? ⟨g, j * 2 + 1, none⟩ = some (.slice l[j].A l[j].n l[j].c) := by
 obtain ⟨p0, p1⟩ := Jm l j hj
 have t0 := h _ _ p0
 have t1 := h _ _ p1
 rw [Nat.zero_add] at t0 t1
 exact ⟨t0, t1⟩
/-- a filled row so far -/
def sofar (zs : List Int) (j : Nat) : List Int := zs.take j ++ List.replicate (zs.length - j) 0
theorem Xp (zs : List Int) (j : Nat) (hj : j ≤ zs.length) : (sofar zs j).length = zs.length := by unfold sofar; simp; omega
theorem Up (zs : List Int) (j : Nat) (hj : j < zs.length) : (sofar zs j).set j zs[j] = sofar zs (j + 1) := by
 unfold sofar
 have e5 : (zs.take j).length = j := by simp; omega
 have e6 := Yk (zs.take j) zs[j] (zs.length - (j + 1))
 rw [e5, show zs.length - (j + 1) + 1 = zs.length - j by omega] at e6
 rw [e6, List.take_succ_eq_append_getElem hj]
theorem Wn (zs : List Int) : sofar zs zs.length = zs := by unfold sofar; simp
theorem Zd (zs : List Int) : sofar zs 0 = List.replicate zs.length 0 := by unfold sofar; simp
theorem sofar_set' {zs : List Int} {j : Nat} {z : Int} (h : zs[j]? = some z) : (sofar zs j).set j z = sofar zs (j + 1) := by
 obtain ⟨hj, rfl⟩ := List.getElem?_eq_some_iff.1 h
 exact Up zs j hj
theorem Fil.setF {w wr : World} {kp : List (Nat × List Value)} {gm : Nat} {zs : List Int} (h : Fil w kp gm zs wr) {j : Nat} (hj : 2 * j + 1 < zs.length) (p q : ZE) (op : p.ok wr) (oq : q.ok wr) :
  Fil w kp gm ((zs.set (2 * j) p.z).set (2 * j + 1) q.z) ((((wr.setCell ⟨gm, j * 4, none⟩ (.bool p.b)).setCell ⟨gm, j * 4 + 1, none⟩ (.slice p.A p.n p.c)).setCell ⟨gm, j * 4 + 2, none⟩ (.bool q.b)).setCell ⟨gm, j * 4 + 3, none⟩ (.slice q.A q.n q.c)) := by
 obtain ⟨lm, e2, e3, e4⟩ := h.ex
 have hg := h.hg
 have hj2 : 2 * j + 1 < lm.length := by rw [← List.length_map (·.z), e4]; exact hj
 obtain ⟨F1, F2⟩ := set_F p q e2 hj2
 refine ⟨Kg (Kg (Kg (Kg h.b hg _ _) hg _ _) hg _ _) hg _ _, fun r hr => ?_, h.zm.set_.set_.set_.set_, hg, _, F1, fun e he => ?_, by rw [map_set2, e4]⟩
 ·obtain ⟨a, b, c⟩ := h.k r hr
  exact ⟨Jh (Jh (Jh (Jh a (Ne.symm c)) (Ne.symm c)) (Ne.symm c)) (Ne.symm c), b.set_.set_.set_.set_, c⟩
 ·rcases List.mem_or_eq_of_mem_set he with he | rfl
  ·rcases List.mem_or_eq_of_mem_set he with he | rfl
   ·exact (e3 e he).mv F2
   ·exact op.mv F2
  ·exact oq.mv F2
theorem Fil.cellF {w wr : World} {kp : List (Nat × List Value)} {gm : Nat} {zs : List Int} (h : Fil w kp gm zs wr) {j : Nat} (hj : 2 * j + 1 < zs.length) :
  ∃ b0 A0 n0 c0 b1 A1 n1 c1, wr.cell? ⟨gm, j * 4, none⟩ = some (.bool b0) ∧ wr.cell? ⟨gm, j * 4 + 1, none⟩ = some (.slice A0 n0 c0) ∧ wr.cell? ⟨gm, j * 4 + 2, none⟩ = some (.bool b1) ∧ wr.cell? ⟨gm, j * 4 + 3, none⟩ = some (.slice A1 n1 c1) := by
 obtain ⟨lm, e2, e3, e4⟩ := h.ex
 exact get_F e2 (by rw [← List.length_map (·.z), e4]; exact hj)
theorem enterR4 {w : World} {c0 c1 c2 c3 : List Value} {t0 t1 t2 t3 : TypeId} {P : World → Prop}
  (H : ∀ u, Below w.heap.size w u → u.rangeAt w.heap.size 0 c0 → u.rangeAt (w.heap.size + 1) 0 c1 → u.rangeAt (w.heap.size + 1 + 1) 0 c2 → u.rangeAt (w.heap.size + 1 + 1 + 1) 0 c3 → Zn u (w.heap.size + 1 + 1 + 1) → Hid (u.heap.size = w.heap.size + 1 + 1 + 1 + 1) → P u) :
  P ((((w.alloc (.cells c0.toArray t0)).alloc (.cells c1.toArray t1)).alloc (.cells c2.toArray t2)).alloc (.cells c3.toArray t3)) := by
 refine X5 (P := fun v => P (v.alloc (.cells c3.toArray t3))) fun v hb r0 r1 r2 z0 z1 z2 hs => ?_
 have h3 := K4 (w := v) (cs := c3) (t := t3)
 have z3 := Zn.new_ (w := v) (cs := c3.toArray) (t := t3)
 rw [hs.out] at h3 z3
 have hv : Below v.heap.size v (v.alloc (.cells c3.toArray t3)) := (Below.refl _ _).alloc (Nat.le_refl _) _
 exact H _ (Kb hb hv) (Ke r0 hv) (Ke r1 hv) (Ke r2 hv) h3 z3 (by unfold Hid; simp [hs.out])
/-- a whole array stored into a box made for it, whatever its size -/
theorem Jw {P : Program} {w : World} {l : List ZE} {zs : List Value} (t : TypeId) (hl : (Kc l).length = zs.length) (hi : (P.info? t).map (·.size) = some zs.length) :
  (storeCells ⟨w.heap.size, 0, none⟩ (Kc l)).run P (w.alloc (.cells zs.toArray t)) = .ok () (w.alloc (.cells (Kc l).toArray t)) := by
 have := run_storeCells_new (P := P) w t zs.toArray (Kc l).toArray (by simpa [hl] using hi) (by simp [hl]) (all_oneCell_toArray (Km l))
 simpa using this
theorem three {α : Type} (l : List α) (h : l.length = 3) : ∃ a b c, l = [a, b, c] := by
 match l, h with
 | [a, b, c], _ => exact ⟨a, b, c, rfl⟩
theorem T29u : Tryz.prog.underlying 43 = some (.array 4 42) := Tryz.underlying43
/-- a block that was made ahead of a call -/
theorem Zb {u v : World} {c : List Value} {t : TypeId} (hq : Below (u.alloc (.cells c.toArray t)).drew.heap.size (u.alloc (.cells c.toArray t)).drew v) : v.rangeAt u.heap.size 0 c ∧ Zn v u.heap.size := by
 have h1 : (u.alloc (.cells c.toArray t)).drew.rangeAt u.heap.size 0 c := fun j v hv => Kn (K4 j v hv)
 have z : Zn (u.alloc (.cells c.toArray t)) u.heap.size := Zn.new_
 have z1 : Zn (u.alloc (.cells c.toArray t)).drew u.heap.size := ⟨z.lt, z.fr⟩
 exact ⟨Ke h1 hq, z1.below hq⟩
theorem Xr {u v : World} {c : List Value} {t : TypeId} (hq : Below (u.alloc (.cells c.toArray t)).heap.size (u.alloc (.cells c.toArray t)) v) : v.rangeAt u.heap.size 0 c ∧ Zn v u.heap.size :=
 ⟨Ke K4 hq, Zn.new_.below hq⟩
def zeros3 : List ZE := List.replicate 3 ZE.zero
/-- three integers in a block -/
structure Tri (u : World) (g : Nat) (fs : List Int) (wx : World) : Prop where
 b : Below u.heap.size u wx
 hg : u.heap.size ≤ g
 z : Zn wx g
 ex : ∃ f0 f1 f2 : ZE, wx.rangeAt g 0 (Kc [f0, f1, f2]) ∧ (∀ e ∈ [f0, f1, f2], e.ok wx) ∧ [f0.z, f1.z, f2.z] = fs
/-- three integers stored into a block -/
theorem Tri.set {u W : World} {g : Nat} (hr : W.rangeAt g 0 (Kc zeros3)) (z : Zn W g) (hb : Below u.heap.size u W) (hg : u.heap.size ≤ g) {f0 f1 f2 : ZE} (o0 : f0.ok W) (o1 : f1.ok W) (o2 : f2.ok W) :
  Tri u g [f0.z, f1.z, f2.z] ((((((W.setCell ⟨g, 0, none⟩ (.bool f0.b)).setCell ⟨g, 1, none⟩ (.slice f0.A f0.n f0.c)).setCell ⟨g, 2, none⟩ (.bool f1.b)).setCell ⟨g, 3, none⟩ (.slice f1.A f1.n f1.c)).setCell ⟨g, 4, none⟩ (.bool f2.b)).setCell ⟨g, 5, none⟩ (.slice f2.A f2.n f2.c)) := by
 have F := Gf (w := u) (l := [f0, f1, f2]) hb hg hr z rfl (Js zeros3) (by
  intro e he
  simp only [List.mem_cons, List.not_mem_nil, or_false] at he
  rcases he with rfl | rfl | rfl
  ·exact o0
  ·exact o1
  ·exact o2)
 exact ⟨F.1, hg, F.2.2.2, f0, f1, f2, F.2.1, F.2.2.1, rfl⟩
theorem Tri.new {u W : World} {f0 f1 f2 : ZE} {t : TypeId} (hb : Below u.heap.size u W) (o0 : f0.ok W) (o1 : f1.ok W) (o2 : f2.ok W) :
  Tri u W.heap.size [f0.z, f1.z, f2.z] (W.alloc (.cells #[.bool f0.b, .slice f0.A f0.n f0.c, .bool f1.b, .slice f1.A f1.n f1.c, .bool f2.b, .slice f2.A f2.n f2.c] t)) := by
 have hv : Below W.heap.size W (W.alloc (.cells #[.bool f0.b, .slice f0.A f0.n f0.c, .bool f1.b, .slice f1.A f1.n f1.c, .bool f2.b, .slice f2.A f2.n f2.c] t)) := (Below.refl _ _).alloc (Nat.le_refl _) _
 refine ⟨Kb hb hv, hb.size, Zn.new_, f0, f1, f2, K4 (cs := Kc [f0, f1, f2]), fun e he => ?_, rfl⟩
 simp only [List.mem_cons, List.not_mem_nil, or_false] at he
 rcases he with rfl | rfl | rfl
 ·exact o0.below hv
 ·exact o1.below hv
 ·exact o2.below hv
section
variable {P : Program}
theorem Y6 {w : World} {base : Nat} {e : TypeId} {s : Nat} {v : Value} {n : Nat} {xs : List Value} (h : w.ownsRow base e s v n xs) (hn : 0 < n) :
  ∃ g cap, v = .slice (some ⟨g, 0, none⟩) n cap ∧ base ≤ g ∧ w.rangeAt g 0 xs ∧ n ≤ cap ∧ cap ≤ maxLen := by
 rcases h.2 with ⟨_, h1⟩ | ⟨g, cap, cur, hv, hbg, hg, hnc, hmx, hcs, htake⟩
 ·omega
 ·refine ⟨g, cap, hv, hbg, fun j u hu => ?_, hnc, hmx⟩
  have hj : j < xs.length := (List.getElem?_eq_some_iff.1 hu).1
  have hl := h.1
  rw [← htake, List.getElem?_take, if_pos (by omega)] at hu
  rw [Nat.zero_add, cell_of_row w g _ cur _ _ hg]
  simpa using hu
theorem Hg {w w' : World} {base : Nat} {e : TypeId} {s : Nat} {v : Value} {n : Nat} {xs : List Value} (hown : w.ownsRow base e s v n xs) (hg : w.grownBy w' v.ownBlock) (hbase : base ≤ w.heap.size) : Below base w w' :=
 (Below.refl base w).grown hg hbase fun k hk => (hown.lt k hk).1
end
theorem info26 : (Tryz.prog.info? 29).map (fun i => (i.zero, i.size, i.bytes)) = some (some (.agg #[.bool false, .slice none 0 0, .bool false, .slice none 0 0]), 4, 64) := by kernel_rfl
end Go.Proofs.YtdkgbkbbbldliaaGreat
