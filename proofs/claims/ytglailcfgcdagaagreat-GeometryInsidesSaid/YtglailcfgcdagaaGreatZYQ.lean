/- Stores of one integer into a box or into an array. Conditions: none. -/
import Derived.Test.YtglailcfgcdagaaGreatZYO
import Derived.Test.YtglailcfgcdagaaGreatZYK
import Derived.Test.YtglailcfgcdagaaGreatZYP
import Derived.Deep.WholeRow
import Derived.BigFrame
set_option linter.unusedVariables false
set_option linter.unusedSimpArgs false
namespace Go.Proofs.YtglailcfgcdagaaGreat
open Go.RowKit Big
theorem cellsM_set : ∀ (l : List ZE) (j : Nat) (e : ZE), cellsM (l.set j e) = ((cellsM l).set (j * 2) (.bool e.b)).set (j * 2 + 1) (.slice e.A e.n e.c)
 | [], j, e => by simp [cellsM]
 | x :: l, 0, e => rfl
 | x :: l, j + 1, e => by
  rw [show (j + 1) * 2 = j * 2 + 1 + 1 by omega]
  have h := cellsM_set l j e
  show x.cells ++ cellsM (l.set j e) = _
  rw [h]
  rfl
/-- one integer stored into an array -/
theorem set_M {W : World} {g : Nat} {l : List ZE} {j : Nat} {b : Bool} {n c : Nat} {A : Option Addr} {z : Int} {xs : List Nat} (hr : W.rangeAt g 0 (cellsM l)) (hj : j < l.length) :
  ((W.setCell ⟨g, j * 2, none⟩ (.bool b)).setCell ⟨g, j * 2 + 1, none⟩ (.slice A n c)).rangeAt g 0 (cellsM (l.set j ⟨z, b, n, xs, A, c⟩)) := by
 intro i v hv
 rw [cellsM_set] at hv
 have hlen := cellsM_len l
 obtain ⟨p0, p1⟩ := cellsM_get l j hj
 have c0 := hr _ _ p0
 have c1 := hr _ _ p1
 rw [Nat.zero_add] at c0 c1 ⊢
 by_cases h1 : i = j * 2 + 1
 ·subst h1
  rw [List.getElem?_set_self (by simp; omega)] at hv
  obtain rfl := Option.some.inj hv
  exact at_set (keep_off (by omega) c1)
 ·rw [List.getElem?_set_ne (Ne.symm h1)] at hv
  by_cases h0 : i = j * 2
  ·subst h0
   rw [List.getElem?_set_self (by omega)] at hv
   obtain rfl := Option.some.inj hv
   exact keep_off (by omega) (at_set c0)
  ·rw [List.getElem?_set_ne (Ne.symm h0)] at hv
   have := hr _ _ hv
   rw [Nat.zero_add] at this
   exact keep_off (Ne.symm h1) (keep_off (Ne.symm h0) this)
theorem set_M_mg {W : World} {g : Nat} {l : List ZE} {j : Nat} {u0 u1 : Value} (hr : W.rangeAt g 0 (cellsM l)) (hj : j < l.length) {A : Option Addr} {c : Nat} {xs : List Nat} (h : Mg W A c xs) :
  Mg ((W.setCell ⟨g, j * 2, none⟩ u0).setCell ⟨g, j * 2 + 1, none⟩ u1) A c xs := by
 obtain ⟨p0, p1⟩ := cellsM_get l j hj
 have c0 := hr _ _ p0
 have c1 := hr _ _ p1
 rw [Nat.zero_add] at c0 c1
 exact (h.set_ g _ _ u0 c0 (by simp)).set_ g _ _ u1 ((cell_set_ne (by omega)).trans c1) (by simp)
theorem ZE.ok.mv {w w' : World} {e : ZE} (h : e.ok w) (f : ∀ A c xs, Mg w A c xs → Mg w' A c xs) : e.ok w' := ⟨h.i, f _ _ _ h.m⟩
/-- an integer in its box -/
def IntB (w : World) (g : Nat) (z : Int) : Prop := ∃ e : ZE, e.z = z ∧ e.ok w ∧ w.cell? ⟨g, 0, none⟩ = some (.bool e.b) ∧ w.cell? ⟨g, 1, none⟩ = some (.slice e.A e.n e.c)
theorem IntB.below {w w' : World} {g : Nat} {z : Int} (h : IntB w g z) (hb : Below w.heap.size w w') : IntB w' g z := by
 obtain ⟨e, h1, h2, h3, h4⟩ := h
 exact ⟨e, h1, h2.below hb, keep_cell hb h3, keep_cell hb h4⟩
def zeros9 : List ZE := List.replicate 9 ZE.zero
/-- a matrix in the first box, a result in the second, an integer in the third -/
structure RS (w : World) (l' : List ZE) (z : Int) (wr : World) : Prop where
 bel : Below w.heap.size w wr
 r0 : wr.rangeAt w.heap.size 0 (cellsM l')
 r1 : wr.rangeAt (w.heap.size + 1) 0 (cellsM zeros9)
 z0 : Zn wr w.heap.size
 z1 : Zn wr (w.heap.size + 1)
 z2 : Zn wr (w.heap.size + 1 + 1)
 ok : ∀ e ∈ l', e.ok wr
 d : IntB wr (w.heap.size + 1 + 1) z
theorem RS.below {w wr w1 : World} {l : List ZE} {z : Int} (h : RS w l z wr) (hb : Below wr.heap.size wr w1) : RS w l z w1 :=
 ⟨bel_step h.bel hb, rng_below h.r0 hb, rng_below h.r1 hb, h.z0.below hb, h.z1.below hb, h.z2.below hb, fun e he => (h.ok e he).below hb, h.d.below hb⟩
end Go.Proofs.YtglailcfgcdagaaGreat
/- Stores of fractions into arrays. Conditions: none. -/
namespace Go.Proofs.YtglailcfgcdagaaGreat
open Go.RowKit Big
/-- the value of an array of fractions, all of them whole numbers -/
def homZ (zs : List Int) : List Int := zs.flatMap fun z => [z, 1]
def zeros18 : List ZE := List.replicate 18 ZE.zero
theorem homZ_len (zs : List Int) : (homZ zs).length = 2 * zs.length := by
 induction zs with
 | nil => rfl
 | cons a l ih => simp [homZ] at ih ⊢; omega
theorem homZ_snoc (zs : List Int) (z : Int) : homZ (zs ++ [z]) = homZ zs ++ [z, 1] := by simp [homZ]
/-- a fraction stored into an array -/
theorem set_F {W : World} {g : Nat} {l : List ZE} {j : Nat} (p q : ZE) (hr : W.rangeAt g 0 (cellsM l)) (hj : 2 * j + 1 < l.length) :
  (((((W.setCell ⟨g, j * 4, none⟩ (.bool p.b)).setCell ⟨g, j * 4 + 1, none⟩ (.slice p.A p.n p.c)).setCell ⟨g, j * 4 + 2, none⟩ (.bool q.b)).setCell ⟨g, j * 4 + 3, none⟩ (.slice q.A q.n q.c)).rangeAt g 0 (cellsM ((l.set (2 * j) p).set (2 * j + 1) q))) ∧
  (∀ A c xs, Mg W A c xs → Mg ((((W.setCell ⟨g, j * 4, none⟩ (.bool p.b)).setCell ⟨g, j * 4 + 1, none⟩ (.slice p.A p.n p.c)).setCell ⟨g, j * 4 + 2, none⟩ (.bool q.b)).setCell ⟨g, j * 4 + 3, none⟩ (.slice q.A q.n q.c)) A c xs) := by
 obtain ⟨z0, b0, n0, x0, A0, c0⟩ := p
 obtain ⟨z1, b1, n1, x1, A1, c1⟩ := q
 rw [show j * 4 + 3 = (2 * j + 1) * 2 + 1 by omega, show j * 4 + 2 = (2 * j + 1) * 2 by omega, show j * 4 = 2 * j * 2 by omega]
 have h1 := set_M (b := b0) (n := n0) (c := c0) (A := A0) (z := z0) (xs := x0) hr (j := 2 * j) (by omega)
 refine ⟨set_M h1 (by simpa using hj), fun A c xs h => set_M_mg h1 (by simpa using hj) (set_M_mg hr (by omega) h)⟩
theorem set2_replicate (A : List Int) (x y : Int) (m : Nat) : ((A ++ List.replicate (m + 2) 0).set A.length x).set (A.length + 1) y = A ++ [x, y] ++ List.replicate m 0 := by
 rw [List.set_append_right _ _ (Nat.le_refl _), Nat.sub_self, List.set_append_right _ _ (by omega), Nat.add_sub_cancel_left]
 simp [List.replicate_succ]
theorem map_set2 (l : List ZE) (i j : Nat) (p q : ZE) : ((l.set i p).set j q).map (·.z) = ((l.map (·.z)).set i p.z).set j q.z := by simp [List.map_set]
/-- the array of fractions so far -/
theorem hom_next {zs : List Int} {j : Nat} (hj : j < zs.length) (hl : zs.length = 9) {l : List ZE} (h : l.map (·.z) = homZ (zs.take j) ++ List.replicate (18 - 2 * j) 0) {p q : ZE} (hp : p.z = zs[j]) (hq : q.z = 1) :
  ((l.set (2 * j) p).set (2 * j + 1) q).map (·.z) = homZ (zs.take (j + 1)) ++ List.replicate (18 - 2 * (j + 1)) 0 := by
 have e1 : (homZ (zs.take j)).length = 2 * j := by rw [homZ_len]; simp; omega
 rw [map_set2, h, show 18 - 2 * j = (18 - 2 * (j + 1)) + 2 by omega, ← e1, set2_replicate, List.take_succ_eq_append_getElem hj, homZ_snoc, hp, hq]
/-- a result in the box g1, an array of fractions in the box gh that is being filled -/
structure RH (w w2 : World) (g1 gh : Nat) (zs : List Int) (j : Nat) (wr : World) : Prop where
 b : Below w.heap.size w wr
 b2 : Below w2.heap.size w2 wr
 r1 : wr.rangeAt g1 0 (cellsM zeros18)
 z1 : Zn wr g1
 zh : Zn wr gh
 ex : ∃ lh : List ZE, lh.length = 18 ∧ wr.rangeAt gh 0 (cellsM lh) ∧ (∀ e ∈ lh, e.ok wr) ∧ lh.map (·.z) = homZ (zs.take j) ++ List.replicate (18 - 2 * j) 0
theorem RH.below {w w2 wr w1 : World} {g1 gh j : Nat} {zs : List Int} (h : RH w w2 g1 gh zs j wr) (hb : Below wr.heap.size wr w1) : RH w w2 g1 gh zs j w1 := by
 obtain ⟨lh, e1, e2, e3, e4⟩ := h.ex
 exact ⟨bel_step h.b hb, bel_step h.b2 hb, rng_below h.r1 hb, h.z1.below hb, h.zh.below hb, lh, e1, rng_below e2 hb, fun e he => (e3 e he).below hb, e4⟩
theorem RH.next {w w2 wr : World} {g1 gh j : Nat} {zs : List Int} (h : RH w w2 g1 gh zs j wr) (hz : zs.length = 9) (hj : j < zs.length) (hg : g1 ≠ gh) (hw : w.heap.size ≤ gh) (hw2 : w2.heap.size ≤ gh) {p q : ZE} (hp : p.z = zs[j]) (hq : q.z = 1) (op : p.ok wr) (oq : q.ok wr) :
  RH w w2 g1 gh zs (j + 1) ((((wr.setCell ⟨gh, j * 4, none⟩ (.bool p.b)).setCell ⟨gh, j * 4 + 1, none⟩ (.slice p.A p.n p.c)).setCell ⟨gh, j * 4 + 2, none⟩ (.bool q.b)).setCell ⟨gh, j * 4 + 3, none⟩ (.slice q.A q.n q.c)) := by
 obtain ⟨lh, e1, e2, e3, e4⟩ := h.ex
 obtain ⟨F1, F2⟩ := set_F p q e2 (j := j) (by omega)
 refine ⟨below_set (below_set (below_set (below_set h.b hw _ _) hw _ _) hw _ _) hw _ _, below_set (below_set (below_set (below_set h.b2 hw2 _ _) hw2 _ _) hw2 _ _) hw2 _ _, rng_set (rng_set (rng_set (rng_set h.r1 (Ne.symm hg)) (Ne.symm hg)) (Ne.symm hg)) (Ne.symm hg), h.z1.set_.set_.set_.set_, h.zh.set_.set_.set_.set_, _, ?_, F1, ?_, hom_next hj hz e4 hp hq⟩
 ·simp [e1]
 ·intro e he
  rcases List.mem_or_eq_of_mem_set he with he | rfl
  ·rcases List.mem_or_eq_of_mem_set he with he | rfl
   ·exact (e3 e he).mv F2
   ·exact op.mv F2
  ·exact oq.mv F2
end Go.Proofs.YtglailcfgcdagaaGreat
/- Elements of arrays of structs that are values. Conditions: none. -/
namespace Go.Proofs.YtglailcfgcdagaaGreat
open Go.RowKit Big
/-- an array in the first box, a result in the second, an integer in a box behind them -/
structure RJ (w : World) (l : List ZE) (gc : Nat) (C : Int) (wr : World) : Prop where
 b : Below w.heap.size w wr
 r0 : wr.rangeAt w.heap.size 0 (cellsM l)
 r1 : wr.rangeAt (w.heap.size + 1) 0 (cellsM zeros9)
 z1 : Zn wr (w.heap.size + 1)
 c : IntB wr gc C
 zc : Zn wr gc
 hg : w.heap.size + 1 < gc
theorem RJ.below {w wr w1 : World} {l : List ZE} {gc : Nat} {C : Int} (h : RJ w l gc C wr) (hb : Below wr.heap.size wr w1) : RJ w l gc C w1 :=
 ⟨bel_step h.b hb, rng_below h.r0 hb, rng_below h.r1 hb, h.z1.below hb, h.c.below hb, h.zc.below hb, h.hg⟩
/-- besides, an array that is being filled -/
structure RK (w : World) (gc : Nat) (C : Int) (gm : Nat) (zs : List Int) (j : Nat) (wr : World) : Prop where
 b : Below w.heap.size w wr
 r1 : wr.rangeAt (w.heap.size + 1) 0 (cellsM zeros9)
 z1 : Zn wr (w.heap.size + 1)
 c : IntB wr gc C
 zm : Zn wr gm
 hg : w.heap.size + 1 < gm
 hc : gc ≠ gm
 ex : ∃ lm : List ZE, lm.length = 9 ∧ wr.rangeAt gm 0 (cellsM lm) ∧ (∀ e ∈ lm, e.ok wr) ∧ lm.map (·.z) = zs.take j ++ List.replicate (9 - j) 0
theorem RK.below {w wr w1 : World} {gc : Nat} {C : Int} {gm : Nat} {zs : List Int} {j : Nat} (h : RK w gc C gm zs j wr) (hb : Below wr.heap.size wr w1) : RK w gc C gm zs j w1 := by
 obtain ⟨lm, e1, e2, e3, e4⟩ := h.ex
 exact ⟨bel_step h.b hb, rng_below h.r1 hb, h.z1.below hb, h.c.below hb, h.zm.below hb, h.hg, h.hc, lm, e1, rng_below e2 hb, fun e he => (e3 e he).below hb, e4⟩
theorem set1_replicate (A : List Int) (x : Int) (m : Nat) : (A ++ List.replicate (m + 1) 0).set A.length x = A ++ [x] ++ List.replicate m 0 := by
 rw [List.set_append_right _ _ (Nat.le_refl _), Nat.sub_self]
 simp [List.replicate_succ]
theorem RK.next {w wr : World} {gc : Nat} {C : Int} {gm : Nat} {zs : List Int} {j : Nat} (h : RK w gc C gm zs j wr) (hz : zs.length = 9) (hj : j < zs.length) {b : Bool} {n c : Nat} {R : Option Addr} {L : List Nat} (I : Iz zs[j] b n L) (m : Mg wr R c L) :
  RK w gc C gm zs (j + 1) ((wr.setCell ⟨gm, j * 2, none⟩ (.bool b)).setCell ⟨gm, j * 2 + 1, none⟩ (.slice R n c)) := by
 obtain ⟨lm, e1, e2, e3, e4⟩ := h.ex
 obtain ⟨e, h1, h2, h3, h4⟩ := h.c
 have hg := h.hg
 have hc := h.hc
 have hm : ∀ A' c' xs', Mg wr A' c' xs' → Mg ((wr.setCell ⟨gm, j * 2, none⟩ (.bool b)).setCell ⟨gm, j * 2 + 1, none⟩ (.slice R n c)) A' c' xs' := fun _ _ _ hh => set_M_mg e2 (by omega) hh
 refine ⟨below_set (below_set h.b (by omega) _ _) (by omega) _ _, rng_set (rng_set h.r1 (by omega)) (by omega), h.z1.set_.set_, ⟨e, h1, h2.mv hm, keep_set (Ne.symm hc) (keep_set (Ne.symm hc) h3), keep_set (Ne.symm hc) (keep_set (Ne.symm hc) h4)⟩, h.zm.set_.set_, hg, hc, lm.set j ⟨zs[j], b, n, L, R, c⟩, by simp [e1], set_M e2 (by omega), fun x hx => ?_, ?_⟩
 ·rcases List.mem_or_eq_of_mem_set hx with h5 | rfl
  ·exact (e3 x h5).mv hm
  ·exact ⟨I, hm _ _ _ m⟩
 ·have e5 : (zs.take j).length = j := by simp; omega
  have e6 := set1_replicate (zs.take j) zs[j] (9 - (j + 1))
  rw [e5, show 9 - (j + 1) + 1 = 9 - j by omega] at e6
  rw [List.map_set, e4, e6, List.take_succ_eq_append_getElem hj]
end Go.Proofs.YtglailcfgcdagaaGreat
