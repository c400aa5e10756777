/- An array that is being filled, beside others that stay. Conditions: none. -/
import Derived.Test.YtglailcfgcdagaaGreatZYQ
import Derived.Laws.MakeOwn
import Derived.Deep.AppendSrc
import Derived.Test.YtglailcfgcdagaaGreatZYR
import Derived.Maps.AppendAt
set_option linter.unusedVariables false
set_option linter.unusedSimpArgs false
namespace Go.Proofs.YtglailcfgcdagaaGreat
open Go.RowKit Big
structure Fil (w : World) (kp : List (Nat × List Value)) (gm : Nat) (zs : List Int) (wr : World) : Prop where
 b : Below w.heap.size w wr
 k : ∀ p ∈ kp, wr.rangeAt p.1 0 p.2 ∧ Zn wr p.1 ∧ p.1 ≠ gm
 zm : Zn wr gm
 hg : w.heap.size ≤ gm
 ex : ∃ lm : List ZE, wr.rangeAt gm 0 (cellsM lm) ∧ (∀ e ∈ lm, e.ok wr) ∧ lm.map (·.z) = zs
theorem Fil.below {w wr w1 : World} {kp : List (Nat × List Value)} {gm : Nat} {zs : List Int} (h : Fil w kp gm zs wr) (hb : Below wr.heap.size wr w1) : Fil w kp gm zs w1 := by
 obtain ⟨lm, e2, e3, e4⟩ := h.ex
 exact ⟨bel_step h.b hb, fun p hp => ⟨rng_below (h.k p hp).1 hb, (h.k p hp).2.1.below hb, (h.k p hp).2.2⟩, h.zm.below hb, h.hg, lm, rng_below e2 hb, fun e he => (e3 e he).below hb, e4⟩
theorem Fil.set {w wr : World} {kp : List (Nat × List Value)} {gm : Nat} {zs : List Int} (h : Fil w kp gm zs wr) {j : Nat} (hj : j < zs.length) {z : Int} {b : Bool} {n c : Nat} {R : Option Addr} {L : List Nat} (I : Iz z b n L) (m : Mg wr R c L) :
  Fil w kp gm (zs.set j z) ((wr.setCell ⟨gm, j * 2, none⟩ (.bool b)).setCell ⟨gm, j * 2 + 1, none⟩ (.slice R n c)) := by
 obtain ⟨lm, e2, e3, e4⟩ := h.ex
 have hg := h.hg
 have hj2 : j < lm.length := by rw [← List.length_map (·.z), e4]; exact hj
 have hm : ∀ A' c' xs', Mg wr A' c' xs' → Mg ((wr.setCell ⟨gm, j * 2, none⟩ (.bool b)).setCell ⟨gm, j * 2 + 1, none⟩ (.slice R n c)) A' c' xs' := fun _ _ _ hh => set_M_mg e2 hj2 hh
 refine ⟨below_set (below_set h.b hg _ _) hg _ _, fun p hp => ⟨rng_set (rng_set (h.k p hp).1 (Ne.symm (h.k p hp).2.2)) (Ne.symm (h.k p hp).2.2), (h.k p hp).2.1.set_.set_, (h.k p hp).2.2⟩, h.zm.set_.set_, hg, lm.set j ⟨z, b, n, L, R, c⟩, set_M e2 hj2, fun x hx => ?_, by rw [List.map_set, e4]⟩
 rcases List.mem_or_eq_of_mem_set hx with h5 | rfl
 ·exact (e3 x h5).mv hm
 ·exact ⟨I, hm _ _ _ m⟩
/-- the cells of one number in it -/
theorem Fil.cell {w wr : World} {kp : List (Nat × List Value)} {gm : Nat} {zs : List Int} (h : Fil w kp gm zs wr) {j : Nat} (hj : j < zs.length) : ∃ e : ZE, e.z = zs[j] ∧ e.ok wr ∧ wr.cell? ⟨gm, j * 2, none⟩ = some (.bool e.b) ∧ wr.cell? ⟨gm, j * 2 + 1, none⟩ = some (.slice e.A e.n e.c) := by
 obtain ⟨lm, e2, e3, e4⟩ := h.ex
 have hj2 : j < lm.length := by rw [← List.length_map (·.z), e4]; exact hj
 obtain ⟨p0, p1⟩ := cellsM_get lm j hj2
 have t0 := e2 _ _ p0
 have t1 := e2 _ _ p1
 rw [Nat.zero_add] at t0 t1
 refine ⟨lm[j], ?_, e3 _ (List.getElem_mem hj2), t0, t1⟩
 subst e4
 simp
end Go.Proofs.YtglailcfgcdagaaGreat
/- One integer appended where there is room. Conditions: none. -/
namespace Go.Proofs.YtglailcfgcdagaaGreat
open Go.RowKit Big
theorem three {α : Type} (l : List α) (h : l.length = 3) : ∃ a b c, l = [a, b, c] := by
 match l, h with
 | [a, b, c], _ => exact ⟨a, b, c, rfl⟩
/-- a block that was made ahead of a call -/
theorem alloc_drew {u v : World} {c : List Value} {t : TypeId} (hq : Below (u.alloc (.cells c.toArray t)).drew.heap.size (u.alloc (.cells c.toArray t)).drew v) : v.rangeAt u.heap.size 0 c ∧ Zn v u.heap.size := by
 have h1 : (u.alloc (.cells c.toArray t)).drew.rangeAt u.heap.size 0 c := fun j v hv => keep_drew (rng_alloc j v hv)
 have z : Zn (u.alloc (.cells c.toArray t)) u.heap.size := Zn.new_
 have z1 : Zn (u.alloc (.cells c.toArray t)).drew u.heap.size := ⟨z.lt, z.fr⟩
 exact ⟨rng_below h1 hq, z1.below hq⟩
theorem alloc_plain {u v : World} {c : List Value} {t : TypeId} (hq : Below (u.alloc (.cells c.toArray t)).heap.size (u.alloc (.cells c.toArray t)) v) : v.rangeAt u.heap.size 0 c ∧ Zn v u.heap.size :=
 ⟨rng_below rng_alloc hq, Zn.new_.below hq⟩
def zeros3 : List ZE := List.replicate 3 ZE.zero
/-- three integers in a block -/
structure Tri (u : World) (g : Nat) (fs : List Int) (wx : World) : Prop where
 b : Below u.heap.size u wx
 hg : u.heap.size ≤ g
 z : Zn wx g
 ex : ∃ f0 f1 f2 : ZE, wx.rangeAt g 0 (cellsM [f0, f1, f2]) ∧ (∀ e ∈ [f0, f1, f2], e.ok wx) ∧ [f0.z, f1.z, f2.z] = fs
/-- three integers stored into a block -/
theorem Tri.set {u W : World} {g : Nat} (hr : W.rangeAt g 0 (cellsM zeros3)) (z : Zn W g) (hb : Below u.heap.size u W) (hg : u.heap.size ≤ g) {f0 f1 f2 : ZE} (o0 : f0.ok W) (o1 : f1.ok W) (o2 : f2.ok W) :
  Tri u g [f0.z, f1.z, f2.z] ((((((W.setCell ⟨g, 0, none⟩ (.bool f0.b)).setCell ⟨g, 1, none⟩ (.slice f0.A f0.n f0.c)).setCell ⟨g, 2, none⟩ (.bool f1.b)).setCell ⟨g, 3, none⟩ (.slice f1.A f1.n f1.c)).setCell ⟨g, 4, none⟩ (.bool f2.b)).setCell ⟨g, 5, none⟩ (.slice f2.A f2.n f2.c)) := by
 have F := fin_M (w := u) (l := [f0, f1, f2]) hb hg hr z rfl (cellsM_npl zeros3) (by
  intro e he
  simp only [List.mem_cons, List.not_mem_nil, or_false] at he
  rcases he with rfl | rfl | rfl
  ·exact o0
  ·exact o1
  ·exact o2)
 exact ⟨F.1, hg, F.2.2.2, f0, f1, f2, F.2.1, F.2.2.1, rfl⟩
theorem Tri.new {u W : World} {f0 f1 f2 : ZE} {t : TypeId} (hb : Below u.heap.size u W) (o0 : f0.ok W) (o1 : f1.ok W) (o2 : f2.ok W) :
  Tri u W.heap.size [f0.z, f1.z, f2.z] (W.alloc (.cells #[.bool f0.b, .slice f0.A f0.n f0.c, .bool f1.b, .slice f1.A f1.n f1.c, .bool f2.b, .slice f2.A f2.n f2.c] t)) := by
 have hv : Below W.heap.size W (W.alloc (.cells #[.bool f0.b, .slice f0.A f0.n f0.c, .bool f1.b, .slice f1.A f1.n f1.c, .bool f2.b, .slice f2.A f2.n f2.c] t)) := (Below.refl _ _).alloc (Nat.le_refl _) _
 refine ⟨bel_step hb hv, hb.size, Zn.new_, f0, f1, f2, rng_alloc (cs := cellsM [f0, f1, f2]), fun e he => ?_, rfl⟩
 simp only [List.mem_cons, List.not_mem_nil, or_false] at he
 rcases he with rfl | rfl | rfl
 ·exact o0.below hv
 ·exact o1.below hv
 ·exact o2.below hv
end Go.Proofs.YtglailcfgcdagaaGreat
/- Rows of fractions that a call owns, and appends to them. Conditions: none. -/
namespace Go.Proofs.YtglailcfgcdagaaGreat
open Go.RowKit Big
section
variable {P : Program}
end
end Go.Proofs.YtglailcfgcdagaaGreat
