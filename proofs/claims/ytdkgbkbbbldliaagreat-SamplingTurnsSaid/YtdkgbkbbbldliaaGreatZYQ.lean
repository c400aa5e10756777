/- Stores of one integer into a box or into an array. Conditions: none. -/
import Derived.Test.YtdkgbkbbbldliaaGreatZYO
import Derived.Test.YtdkgbkbbbldliaaGreatZYK
import Derived.Test.YtdkgbkbbbldliaaGreatZYP
import Derived.Deep.WholeRow
import Derived.BigFrame
set_option linter.unusedVariables false
set_option linter.unusedSimpArgs false
namespace Go.Proofs.YtdkgbkbbbldliaaGreat
open Go.RowKit Big
theorem Gl : ∀ (l : List ZE) (j : Nat) (e : ZE), Kc (l.set j e) = ((Kc l).set (j * 2) (.bool e.b)).set (j * 2 + 1) (.slice e.A e.n e.c)
 | [], j, e => by simp [Kc]
 | x :: l, 0, e => rfl
 | x :: l, j + 1, e => by
  rw [show (j + 1) * 2 = j * 2 + 1 + 1 by omega]
  have h := Gl l j e
  show x.cells ++ Kc (l.set j e) = _
  rw [h]
  rfl
/-- one integer stored into an array -/
theorem set_M {W : World} {g : Nat} {l : List ZE} {j : Nat} {b : Bool} {n c : Nat} {A : Option Addr} {z : Int} {xs : List Nat} (hr : W.rangeAt g 0 (Kc l)) (hj : j < l.length) :
  ((W.setCell ⟨g, j * 2, none⟩ (.bool b)).setCell ⟨g, j * 2 + 1, none⟩ (.slice A n c)).rangeAt g 0 (Kc (l.set j ⟨z, b, n, xs, A, c⟩)) := by
 intro i v hv
 rw [Gl] at hv
 have hlen := Kf l
 obtain ⟨p0, p1⟩ := Jm l j hj
 have c0 := hr _ _ p0
 have c1 := hr _ _ p1
 rw [Nat.zero_add] at c0 c1 ⊢
 by_cases h1 : i = j * 2 + 1
 ·subst h1
  rw [List.getElem?_set_self (by simp; omega)] at hv
  obtain rfl := Option.some.inj hv
  exact Q6 (K6 (by omega) c1)
 ·rw [List.getElem?_set_ne (Ne.symm h1)] at hv
  by_cases h0 : i = j * 2
  ·subst h0
   rw [List.getElem?_set_self (by omega)] at hv
   obtain rfl := Option.some.inj hv
   exact K6 (by omega) (Q6 c0)
  ·rw [List.getElem?_set_ne (Ne.symm h0)] at hv
   have := hr _ _ hv
   rw [Nat.zero_add] at this
   exact K6 (Ne.symm h1) (K6 (Ne.symm h0) this)
theorem Yc {W : World} {g : Nat} {l : List ZE} {j : Nat} {u0 u1 : Value} (hr : W.rangeAt g 0 (Kc l)) (hj : j < l.length) {A : Option Addr} {c : Nat} {xs : List Nat} (h : Mg W A c xs) :
  Mg ((W.setCell ⟨g, j * 2, none⟩ u0).setCell ⟨g, j * 2 + 1, none⟩ u1) A c xs := by
 obtain ⟨p0, p1⟩ := Jm l j hj
 have c0 := hr _ _ p0
 have c1 := hr _ _ p1
 rw [Nat.zero_add] at c0 c1
 exact (h.set_ g _ _ u0 c0 (by simp)).set_ g _ _ u1 ((K0 (by omega)).trans c1) (by simp)
theorem Vn {P : Program} {w : World} {g : Nat} {vs cs : List Value} (hr : w.rangeAt g 0 cs) (z : Zn w g) (hl : vs.length = cs.length) (h1 : ∀ v ∈ vs, v.oneCell' = true) :
  (storeCells ⟨g, 0, none⟩ vs).run P w = .ok () (w.setCells g 0 vs) := by
 have ht := Kq hr z
 have := run_storeCells_cells (P := P) g 0 vs 0 w (fun j hj => by simpa using (ht j (by omega)).1) (fun j hj => by simpa using (ht j (by omega)).2) h1
 simpa using this
theorem ZE.ok.mv {w w' : World} {e : ZE} (h : e.ok w) (f : ∀ A c xs, Mg w A c xs → Mg w' A c xs) : e.ok w' := ⟨h.i, f _ _ _ h.m⟩
/-- an integer in its box -/
def IntB (w : World) (g : Nat) (z : Int) : Prop := ∃ e : ZE, e.z = z ∧ e.ok w ∧ w.cell? ⟨g, 0, none⟩ = some (.bool e.b) ∧ w.cell? ⟨g, 1, none⟩ = some (.slice e.A e.n e.c)
theorem IntB.below {w w' : World} {g : Nat} {z : Int} (h : IntB w g z) (hb : Below w.heap.size w w') : IntB w' g z := by
 obtain ⟨e, h1, h2, h3, h4⟩ := h
 exact ⟨e, h1, h2.below hb, Ka hb h3, Ka hb h4⟩
def Kx : List ZE := List.replicate 9 ZE.zero
/-- a matrix in the first box, a result in the second, an integer in the third -/
structure RS (w : World) (l' : List ZE) (z : Int) (wr : World) : Prop where
 bel : Below w.heap.size w wr
 r0 : wr.rangeAt w.heap.size 0 (Kc l')
 r1 : wr.rangeAt (w.heap.size + 1) 0 (Kc Kx)
 z0 : Zn wr w.heap.size
 z1 : Zn wr (w.heap.size + 1)
 z2 : Zn wr (w.heap.size + 1 + 1)
 ok : ∀ e ∈ l', e.ok wr
 d : IntB wr (w.heap.size + 1 + 1) z
theorem RS.below {w wr w1 : World} {l : List ZE} {z : Int} (h : RS w l z wr) (hb : Below wr.heap.size wr w1) : RS w l z w1 :=
 ⟨Kb h.bel hb, Ke h.r0 hb, Ke h.r1 hb, h.z0.below hb, h.z1.below hb, h.z2.below hb, fun e he => (h.ok e he).below hb, h.d.below hb⟩
theorem RS.setd {w wr : World} {l : List ZE} {z z' : Int} {b : Bool} {n c : Nat} {R : Option Addr} {L : List Nat} (h : RS w l z wr) (I : Iz z' b n L) (m : Mg wr R c L) :
  RS w l z' ((wr.setCell ⟨w.heap.size + 1 + 1, 0, none⟩ (.bool b)).setCell ⟨w.heap.size + 1 + 1, 1, none⟩ (.slice R n c)) := by
 obtain ⟨e, h1, h2, h3, h4⟩ := h.d
 refine setI2 (P := fun V => RS w l z' V) h3 h4 fun V v0 v1 hc hm hz hb _ => ?_
 exact ⟨hb _ _ (by omega) h.bel, fun j v hv => hc _ _ _ (by omega) (h.r0 j v hv), fun j v hv => hc _ _ _ (by omega) (h.r1 j v hv), hz _ h.z0, hz _ h.z1, hz _ h.z2, fun e he => (h.ok e he).mv hm, ⟨⟨z', b, n, L, R, c⟩, rfl, ⟨I, hm _ _ _ m⟩, v0, v1⟩⟩
theorem RS.setm {w wr : World} {l : List ZE} {z z' : Int} {b : Bool} {n c : Nat} {R : Option Addr} {L : List Nat} (h : RS w l z wr) (I : Iz z' b n L) (m : Mg wr R c L) {j : Nat} (hj : j < l.length) :
  RS w (l.set j ⟨z', b, n, L, R, c⟩) z ((wr.setCell ⟨w.heap.size, j * 2, none⟩ (.bool b)).setCell ⟨w.heap.size, j * 2 + 1, none⟩ (.slice R n c)) := by
 obtain ⟨e, h1, h2, h3, h4⟩ := h.d
 have hm : ∀ A' c' xs', Mg wr A' c' xs' → Mg ((wr.setCell ⟨w.heap.size, j * 2, none⟩ (.bool b)).setCell ⟨w.heap.size, j * 2 + 1, none⟩ (.slice R n c)) A' c' xs' := fun _ _ _ hh => Yc h.r0 hj hh
 refine ⟨Kg (Kg h.bel (Nat.le_refl _) _ _) (Nat.le_refl _) _ _, set_M h.r0 hj, Jh (Jh h.r1 (by omega)) (by omega), h.z0.set_.set_, h.z1.set_.set_, h.z2.set_.set_, fun x hx => ?_, ⟨e, h1, h2.mv hm, Kh (by omega) (Kh (by omega) h3), Kh (by omega) (Kh (by omega) h4)⟩⟩
 rcases List.mem_or_eq_of_mem_set hx with h5 | rfl
 ·exact (h.ok x h5).mv hm
 ·exact ⟨I, hm _ _ _ m⟩
/-- the matrix is stored into the result's box -/
theorem RS.fin {w wr : World} {l : List ZE} {z : Int} (h : RS w l z wr) (hl : l.length = 9) :
  (storeCells ⟨w.heap.size + 1, 0, none⟩ (Kc l)).run Tryz.prog wr = .ok () (wr.setCells (w.heap.size + 1) 0 (Kc l)) ∧
  (loadVar 95 ⟨w.heap.size + 1, 0, none⟩).run Tryz.prog (wr.setCells (w.heap.size + 1) 0 (Kc l)) = .ok (.agg (Kc l).toArray) (wr.setCells (w.heap.size + 1) 0 (Kc l)) ∧
  Below w.heap.size w (wr.setCells (w.heap.size + 1) 0 (Kc l)) ∧ ∀ e ∈ l, e.ok (wr.setCells (w.heap.size + 1) 0 (Kc l)) := by
 have hlen : (Kc l).length = (Kc Kx).length := by rw [Kf, hl]; rfl
 obtain ⟨F1, F2, F3, F4⟩ := Gf h.bel (by omega) h.r1 h.z1 hlen (Js _) h.ok
 exact ⟨Vn h.r1 h.z1 hlen (Km _), run_loadVar_mid _ _ _ _ _ _ F2 T55u rfl (by rw [Kf, hl]; kernel_rfl), F1, F3⟩
/-- a whole array stored into a box made for it -/
theorem Jt {w : World} {l : List ZE} (hl : l.length = 9) (t : TypeId) (hi : (Tryz.prog.info? t).map (·.size) = some 18) :
  (storeCells ⟨w.heap.size, 0, none⟩ (Kc l)).run Tryz.prog (w.alloc (.cells #[.bool false, .slice none 0 0, .bool false, .slice none 0 0, .bool false, .slice none 0 0, .bool false, .slice none 0 0, .bool false, .slice none 0 0, .bool false, .slice none 0 0, .bool false, .slice none 0 0, .bool false, .slice none 0 0, .bool false, .slice none 0 0] t)) = .ok () (w.alloc (.cells (Kc l).toArray t)) := by
 have h18 : (Kc l).length = 18 := by rw [Kf, hl]
 have := run_storeCells_new (P := Tryz.prog) w t #[.bool false, .slice none 0 0, .bool false, .slice none 0 0, .bool false, .slice none 0 0, .bool false, .slice none 0 0, .bool false, .slice none 0 0, .bool false, .slice none 0 0, .bool false, .slice none 0 0, .bool false, .slice none 0 0, .bool false, .slice none 0 0] (Kc l).toArray (by simpa [h18] using hi) (by simp [h18]) (all_oneCell_toArray (Km l))
 simpa using this
theorem Qm {w : World} {g o : Nat} (xs bs cs : List ZE) (h : w.rangeAt g o (Kc (xs ++ (bs ++ cs)))) : w.rangeAt g (o + 2 * xs.length) (Kc bs) := fun j v hv => by
 have hj : j < (Kc bs).length := (List.getElem?_eq_some_iff.1 hv).1
 have := h (2 * xs.length + j) v (by
  rw [Qx, Qx, List.getElem?_append_right (by rw [Kf]; omega), Kf, Nat.add_sub_cancel_left, List.getElem?_append_left hj]
  exact hv)
 rwa [← Nat.add_assoc] at this
/-- the value of an array of fractions, all of them whole numbers -/
def homZ (zs : List Int) : List Int := zs.flatMap fun z => [z, 1]
def le40 (zs : List Int) : Bool := decide (∀ z ∈ zs, (limbs z.natAbs).length ≤ 40)
/-- the normal form of a transformation with a matrix, or the error -/
def resZ (zs : List Int) : List Int × Int := if le40 (redZ zs) then (homZ (redZ zs), 0) else (List.replicate 18 0, 4)
def Kj : List ZE := List.replicate 18 ZE.zero
theorem Yb (zs : List Int) : (homZ zs).length = 2 * zs.length := by
 induction zs with
 | nil => rfl
 | cons a l ih => simp [homZ] at ih ⊢; omega
theorem homZ_snoc (zs : List Int) (z : Int) : homZ (zs ++ [z]) = homZ zs ++ [z, 1] := by simp [homZ]
theorem Dd {w : World} {l : List ZE} (hok : ∀ e ∈ l, e.ok w) : decide (∀ e ∈ l, e.n ≤ 40) = le40 (l.map (·.z)) := by
 unfold le40
 rw [decide_eq_decide]
 constructor
 ·intro h z hz
  obtain ⟨e, he, rfl⟩ := List.mem_map.1 hz
  have := h e he
  rwa [(hok e he).i.hn, (hok e he).i.hx] at this
 ·intro h e he
  have := h e.z (List.mem_map.2 ⟨e, he, rfl⟩)
  rwa [(hok e he).i.hn, (hok e he).i.hx]
/-- the four cells of a fraction in an array -/
theorem get_F {W : World} {g : Nat} {l : List ZE} {j : Nat} (hr : W.rangeAt g 0 (Kc l)) (hj : 2 * j + 1 < l.length) :
  ∃ b0 A0 n0 c0 b1 A1 n1 c1, W.cell? ⟨g, j * 4, none⟩ = some (.bool b0) ∧ W.cell? ⟨g, j * 4 + 1, none⟩ = some (.slice A0 n0 c0) ∧ W.cell? ⟨g, j * 4 + 2, none⟩ = some (.bool b1) ∧ W.cell? ⟨g, j * 4 + 3, none⟩ = some (.slice A1 n1 c1) := by
 obtain ⟨p0, p1⟩ := Jm l (2 * j) (by omega)
 obtain ⟨p2, p3⟩ := Jm l (2 * j + 1) hj
 have t0 := hr _ _ p0
 have t1 := hr _ _ p1
 have t2 := hr _ _ p2
 have t3 := hr _ _ p3
 rw [Nat.zero_add] at t0 t1 t2 t3
 rw [show 2 * j * 2 = j * 4 by omega] at t0 t1
 rw [show (2 * j + 1) * 2 = j * 4 + 2 by omega] at t2 t3
 exact ⟨_, _, _, _, _, _, _, _, t0, t1, t2, t3⟩
/-- a fraction stored into an array -/
theorem set_F {W : World} {g : Nat} {l : List ZE} {j : Nat} (p q : ZE) (hr : W.rangeAt g 0 (Kc l)) (hj : 2 * j + 1 < l.length) :
  (((((W.setCell ⟨g, j * 4, none⟩ (.bool p.b)).setCell ⟨g, j * 4 + 1, none⟩ (.slice p.A p.n p.c)).setCell ⟨g, j * 4 + 2, none⟩ (.bool q.b)).setCell ⟨g, j * 4 + 3, none⟩ (.slice q.A q.n q.c)).rangeAt g 0 (Kc ((l.set (2 * j) p).set (2 * j + 1) q))) ∧
  (∀ A c xs, Mg W A c xs → Mg ((((W.setCell ⟨g, j * 4, none⟩ (.bool p.b)).setCell ⟨g, j * 4 + 1, none⟩ (.slice p.A p.n p.c)).setCell ⟨g, j * 4 + 2, none⟩ (.bool q.b)).setCell ⟨g, j * 4 + 3, none⟩ (.slice q.A q.n q.c)) A c xs) := by
 obtain ⟨z0, b0, n0, x0, A0, c0⟩ := p
 obtain ⟨z1, b1, n1, x1, A1, c1⟩ := q
 rw [show j * 4 + 3 = (2 * j + 1) * 2 + 1 by omega, show j * 4 + 2 = (2 * j + 1) * 2 by omega, show j * 4 = 2 * j * 2 by omega]
 have h1 := set_M (b := b0) (n := n0) (c := c0) (A := A0) (z := z0) (xs := x0) hr (j := 2 * j) (by omega)
 refine ⟨set_M h1 (by simpa using hj), fun A c xs h => Yc h1 (by simpa using hj) (Yc hr (by omega) h)⟩
theorem Yh (A : List Int) (x y : Int) (m : Nat) : ((A ++ List.replicate (m + 2) 0).set A.length x).set (A.length + 1) y = A ++ [x, y] ++ List.replicate m 0 := by
 rw [List.set_append_right _ _ (Nat.le_refl _), Nat.sub_self, List.set_append_right _ _ (by omega), Nat.add_sub_cancel_left]
 simp [List.replicate_succ]
theorem map_set2 (l : List ZE) (i j : Nat) (p q : ZE) : ((l.set i p).set j q).map (·.z) = ((l.map (·.z)).set i p.z).set j q.z := by simp [List.map_set]
/-- the array of fractions so far -/
theorem hom_next {zs : List Int} {j : Nat} (hj : j < zs.length) (hl : zs.length = 9) {l : List ZE} (h : l.map (·.z) = homZ (zs.take j) ++ List.replicate (18 - 2 * j) 0) {p q : ZE} (hp : p.z = zs[j]) (hq : q.z = 1) :
  ((l.set (2 * j) p).set (2 * j + 1) q).map (·.z) = homZ (zs.take (j + 1)) ++ List.replicate (18 - 2 * (j + 1)) 0 := by
 have e1 : (homZ (zs.take j)).length = 2 * j := by rw [Yb]; simp; omega
 rw [map_set2, h, show 18 - 2 * j = (18 - 2 * (j + 1)) + 2 by omega, ← e1, Yh, List.take_succ_eq_append_getElem hj, homZ_snoc, hp, hq]
/-- a transformation and an error come back -/
def Hn (w : World) (q : List Int × Int) (e : Ending) (w' : World) : Prop := ∃ l : List ZE, e = .returned (.tuple #[.agg (Kc l).toArray, .int .i64 q.2]) ∧ l.map (·.z) = q.1 ∧ (∀ x ∈ l, x.ok w') ∧ Below w.heap.size w w'
theorem T32u : ∃ d, Tryz.prog.underlying 32 = some d ∧ d.isRow = true := ⟨_, Tryz.underlying32, rfl⟩
theorem T32i : (Tryz.prog.info? 32).map (·.size) = some 36 := by kernel_rfl
/-- the store of a whole array into the result's box -/
theorem Ju {w wr : World} {g : Nat} {l cs : List ZE} {t : TypeId} {d : TypeDesc} (hu : Tryz.prog.underlying t = some d) (hd : d.isRow = true) (hi : (Tryz.prog.info? t).map (·.size) = some (Kc l).length) (hb : Below w.heap.size w wr) (hg : w.heap.size ≤ g) (hr : wr.rangeAt g 0 (Kc cs)) (z : Zn wr g) (hl : l.length = cs.length) (hok : ∀ e ∈ l, e.ok wr) :
  (storeCells ⟨g, 0, none⟩ (Kc l)).run Tryz.prog wr = .ok () (wr.setCells g 0 (Kc l)) ∧
  (loadVar t ⟨g, 0, none⟩).run Tryz.prog (wr.setCells g 0 (Kc l)) = .ok (.agg (Kc l).toArray) (wr.setCells g 0 (Kc l)) ∧
  Below w.heap.size w (wr.setCells g 0 (Kc l)) ∧ ∀ e ∈ l, e.ok (wr.setCells g 0 (Kc l)) := by
 have hlen : (Kc l).length = (Kc cs).length := by rw [Kf, Kf, hl]
 obtain ⟨F1, F2, F3, F4⟩ := Gf hb hg hr z hlen (Js _) hok
 exact ⟨Vn hr z hlen (Km _), run_loadVar_mid _ _ _ _ _ _ F2 hu hd hi, F1, F3⟩
/-- a result in the box g1, an array of fractions in the box gh that is being filled -/
structure RH (w w2 : World) (g1 gh : Nat) (zs : List Int) (j : Nat) (wr : World) : Prop where
 b : Below w.heap.size w wr
 b2 : Below w2.heap.size w2 wr
 r1 : wr.rangeAt g1 0 (Kc Kj)
 z1 : Zn wr g1
 zh : Zn wr gh
 ex : ∃ lh : List ZE, lh.length = 18 ∧ wr.rangeAt gh 0 (Kc lh) ∧ (∀ e ∈ lh, e.ok wr) ∧ lh.map (·.z) = homZ (zs.take j) ++ List.replicate (18 - 2 * j) 0
theorem RH.below {w w2 wr w1 : World} {g1 gh j : Nat} {zs : List Int} (h : RH w w2 g1 gh zs j wr) (hb : Below wr.heap.size wr w1) : RH w w2 g1 gh zs j w1 := by
 obtain ⟨lh, e1, e2, e3, e4⟩ := h.ex
 exact ⟨Kb h.b hb, Kb h.b2 hb, Ke h.r1 hb, h.z1.below hb, h.zh.below hb, lh, e1, Ke e2 hb, fun e he => (e3 e he).below hb, e4⟩
theorem RH.next {w w2 wr : World} {g1 gh j : Nat} {zs : List Int} (h : RH w w2 g1 gh zs j wr) (hz : zs.length = 9) (hj : j < zs.length) (hg : g1 ≠ gh) (hw : w.heap.size ≤ gh) (hw2 : w2.heap.size ≤ gh) {p q : ZE} (hp : p.z = zs[j]) (hq : q.z = 1) (op : p.ok wr) (oq : q.ok wr) :
  RH w w2 g1 gh zs (j + 1) ((((wr.setCell ⟨gh, j * 4, none⟩ (.bool p.b)).setCell ⟨gh, j * 4 + 1, none⟩ (.slice p.A p.n p.c)).setCell ⟨gh, j * 4 + 2, none⟩ (.bool q.b)).setCell ⟨gh, j * 4 + 3, none⟩ (.slice q.A q.n q.c)) := by
 obtain ⟨lh, e1, e2, e3, e4⟩ := h.ex
 obtain ⟨F1, F2⟩ := set_F p q e2 (j := j) (by omega)
 refine ⟨Kg (Kg (Kg (Kg h.b hw _ _) hw _ _) hw _ _) hw _ _, Kg (Kg (Kg (Kg h.b2 hw2 _ _) hw2 _ _) hw2 _ _) hw2 _ _, Jh (Jh (Jh (Jh h.r1 (Ne.symm hg)) (Ne.symm hg)) (Ne.symm hg)) (Ne.symm hg), h.z1.set_.set_.set_.set_, h.zh.set_.set_.set_.set_, _, ?_, F1, ?_, hom_next hj hz e4 hp hq⟩
 ·simp [e1]
 ·intro e he
  rcases List.mem_or_eq_of_mem_set he with he | rfl
  ·rcases List.mem_or_eq_of_mem_set he with he | rfl
   ·exact (e3 e he).mv F2
   ·exact op.mv F2
  ·exact oq.mv F2
/-- the load of a whole array by an operation that stands under a guard -/
theorem Jg {P : Program} {ops : Array Oper} {rest : List Oper} {op : Oper} {a : Act} {w : World} {Q : Exit → Act → World → Prop} (hw : Region.wanted op (yielded ops a.tmps) = true) (ty : TypeId) (x : Operand) (ho : op.op = .load ty x)
  (b o : Nat) (hx : a.eval x = .pointer (some ⟨b, o, none⟩)) (cs : List Value) (d : TypeDesc) (hc : w.rangeAt b o cs)
  (hu : P.underlying ty = some d) (hd : d.isRow = true) (hi : (P.info? ty).map (·.size) = some cs.length)
  (h : wpList P ops Q rest (a.put op.dst (.agg cs.toArray)) w) : wpList P ops Q (op :: rest) a w :=
 Go.BigFrame.wpList_want hw fun _ hK => wp_load_mid ty x ho b o hx cs d hc hu hd hi (hK _ _ h)
theorem Wf {zs : List Int} (h : zs.length = 9) : (resZ zs).1.length = 18 := by
 unfold resZ
 split
 ·show (homZ (redZ zs)).length = 18
  rw [Yb, Q4, h]
 ·simp
theorem Um : ∀ (k : Nat) (l : List ZE), Kc (l.drop k) = (Kc l).drop (2 * k)
 | 0, l => by simp
 | k + 1, [] => by simp [Kc]
 | k + 1, e :: l => by
  rw [List.drop_succ_cons, Um k l, show 2 * (k + 1) = 2 * k + 1 + 1 by omega]
  rfl
theorem Uz : ∀ (k : Nat) (l : List ZE), Kc (l.take k) = (Kc l).take (2 * k)
 | 0, l => by simp [Kc]
 | k + 1, [] => by simp [Kc]
 | k + 1, e :: l => by
  rw [List.take_succ_cons, show 2 * (k + 1) = 2 * k + 1 + 1 by omega]
  show e.cells ++ Kc (l.take k) = _
  rw [Uz k l]
  rfl
/-- an element of m integers -/
theorem run_index_G (w : World) (l : List ZE) (t E : TypeId) (len m : Nat) (hl : l.length = m * len) (hu : Tryz.prog.underlying t = some (.array len E)) (hs : (sizeOf E).run Tryz.prog w = .ok (2 * m) w) (ha : (isAgg E).run Tryz.prog w = .ok true w) (j : Nat) (hj : j < len) :
  (Instr.index t (.agg (Kc l).toArray) (.int .i64 j)).run Tryz.prog w = .ok (.agg (Kc ((l.drop (m * j)).take m)).toArray) w := by
 have e2 : List.take (2 * m) (List.drop (j * (2 * m)) (Kc l)) = Kc ((l.drop (m * j)).take m) := by
  rw [Uz, Um, show 2 * (m * j) = j * (2 * m) by rw [← Nat.mul_assoc, Nat.mul_comm]]
 unfold Instr.index
 simp [Sem.run_bind, asIntOf, run_underlying hu w, hj, hs, part, ha, e2]
theorem two_at {l : List ZE} {j : Nat} (hj : 2 * j + 1 < l.length) : (l.drop (2 * j)).take 2 = [l[2 * j], l[2 * j + 1]] := by
 rw [List.drop_eq_getElem_cons (by omega), List.drop_eq_getElem_cons (by omega)]
 rfl
theorem run_index_F (w : World) (l : List ZE) (t : TypeId) (len : Nat) (hl : l.length = 2 * len) (hu : Tryz.prog.underlying t = some (.array len 29)) (j : Nat) (hj : 2 * j + 1 < l.length) :
  (Instr.index t (.agg (Kc l).toArray) (.int .i64 j)).run Tryz.prog w = .ok (.agg #[.bool l[2 * j].b, .slice l[2 * j].A l[2 * j].n l[2 * j].c, .bool l[2 * j + 1].b, .slice l[2 * j + 1].A l[2 * j + 1].n l[2 * j + 1].c]) w := by
 have := run_index_G w l t _ len 2 hl hu (by simp [Tryz.sizeOf29]) (by simp [Tryz.isAgg29]) j (by omega)
 rw [two_at hj] at this
 exact this
theorem T30u : Tryz.prog.underlying 30 = some (.array 9 29) := Tryz.underlying30
/-- the value of an array of fractions -/
def frZ (fs : List (Int × Nat)) : List Int := fs.flatMap fun f => [f.1, (f.2 : Int)]
theorem frZ_len (fs : List (Int × Nat)) : (frZ fs).length = 2 * fs.length := by
 induction fs with
 | nil => rfl
 | cons a l ih => simp [frZ] at ih ⊢; omega
theorem frZ_get : ∀ (fs : List (Int × Nat)) (j : Nat) (h : j < fs.length), (frZ fs)[2 * j]? = some fs[j].1 ∧ (frZ fs)[2 * j + 1]? = some (fs[j].2 : Int)
 | a :: l, 0, _ => ⟨rfl, rfl⟩
 | a :: l, j + 1, h => frZ_get l j (by simpa using h)
/-- the numbers of an entry -/
theorem frZ_at {l : List ZE} {fs : List (Int × Nat)} (h : l.map (·.z) = frZ fs) (j : Nat) (hj : j < fs.length) : ∃ (h1 : 2 * j < l.length) (h2 : 2 * j + 1 < l.length), l[2 * j].z = fs[j].1 ∧ l[2 * j + 1].z = fs[j].2 := by
 have hl : l.length = 2 * fs.length := by rw [← frZ_len, ← h, List.length_map]
 obtain ⟨g1, g2⟩ := frZ_get fs j hj
 rw [← h, List.getElem?_map, List.getElem?_eq_getElem (by omega)] at g1 g2
 simp only [Option.map_some, Option.some.injEq] at g1 g2
 exact ⟨by omega, by omega, g1, g2⟩
/-- an array in the first box, a result in the second, an integer in a box behind them -/
structure RJ (w : World) (l : List ZE) (gc : Nat) (C : Int) (wr : World) : Prop where
 b : Below w.heap.size w wr
 r0 : wr.rangeAt w.heap.size 0 (Kc l)
 r1 : wr.rangeAt (w.heap.size + 1) 0 (Kc Kx)
 z1 : Zn wr (w.heap.size + 1)
 c : IntB wr gc C
 zc : Zn wr gc
 hg : w.heap.size + 1 < gc
theorem RJ.below {w wr w1 : World} {l : List ZE} {gc : Nat} {C : Int} (h : RJ w l gc C wr) (hb : Below wr.heap.size wr w1) : RJ w l gc C w1 :=
 ⟨Kb h.b hb, Ke h.r0 hb, Ke h.r1 hb, h.z1.below hb, h.c.below hb, h.zc.below hb, h.hg⟩
theorem RJ.setc {w wr : World} {l : List ZE} {gc : Nat} {C C' : Int} {b : Bool} {n c : Nat} {R : Option Addr} {L : List Nat} (h : RJ w l gc C wr) (I : Iz C' b n L) (m : Mg wr R c L) :
  RJ w l gc C' ((wr.setCell ⟨gc, 0, none⟩ (.bool b)).setCell ⟨gc, 1, none⟩ (.slice R n c)) := by
 obtain ⟨e, h1, h2, h3, h4⟩ := h.c
 have hg := h.hg
 refine setI2 (P := fun V => RJ w l gc C' V) h3 h4 fun V v0 v1 hc hm hz hb _ => ?_
 exact ⟨hb _ _ (by omega) h.b, fun j v hv => hc _ _ _ (by omega) (h.r0 j v hv), fun j v hv => hc _ _ _ (by omega) (h.r1 j v hv), hz _ h.z1, ⟨⟨C', b, n, L, R, c⟩, rfl, ⟨I, hm _ _ _ m⟩, v0, v1⟩, hz _ h.zc, hg⟩
/-- besides, an array that is being filled -/
structure RK (w : World) (gc : Nat) (C : Int) (gm : Nat) (zs : List Int) (j : Nat) (wr : World) : Prop where
 b : Below w.heap.size w wr
 r1 : wr.rangeAt (w.heap.size + 1) 0 (Kc Kx)
 z1 : Zn wr (w.heap.size + 1)
 c : IntB wr gc C
 zm : Zn wr gm
 hg : w.heap.size + 1 < gm
 hc : gc ≠ gm
 ex : ∃ lm : List ZE, lm.length = 9 ∧ wr.rangeAt gm 0 (Kc lm) ∧ (∀ e ∈ lm, e.ok wr) ∧ lm.map (·.z) = zs.take j ++ List.replicate (9 - j) 0
theorem RK.below {w wr w1 : World} {gc : Nat} {C : Int} {gm : Nat} {zs : List Int} {j : Nat} (h : RK w gc C gm zs j wr) (hb : Below wr.heap.size wr w1) : RK w gc C gm zs j w1 := by
 obtain ⟨lm, e1, e2, e3, e4⟩ := h.ex
 exact ⟨Kb h.b hb, Ke h.r1 hb, h.z1.below hb, h.c.below hb, h.zm.below hb, h.hg, h.hc, lm, e1, Ke e2 hb, fun e he => (e3 e he).below hb, e4⟩
theorem Yk (A : List Int) (x : Int) (m : Nat) : (A ++ List.replicate (m + 1) 0).set A.length x = A ++ [x] ++ List.replicate m 0 := by
 rw [List.set_append_right _ _ (Nat.le_refl _), Nat.sub_self]
 simp [List.replicate_succ]
theorem RK.next {w wr : World} {gc : Nat} {C : Int} {gm : Nat} {zs : List Int} {j : Nat} (h : RK w gc C gm zs j wr) (hz : zs.length = 9) (hj : j < zs.length) {b : Bool} {n c : Nat} {R : Option Addr} {L : List Nat} (I : Iz zs[j] b n L) (m : Mg wr R c L) :
  RK w gc C gm zs (j + 1) ((wr.setCell ⟨gm, j * 2, none⟩ (.bool b)).setCell ⟨gm, j * 2 + 1, none⟩ (.slice R n c)) := by
 obtain ⟨lm, e1, e2, e3, e4⟩ := h.ex
 obtain ⟨e, h1, h2, h3, h4⟩ := h.c
 have hg := h.hg
 have hc := h.hc
 have hm : ∀ A' c' xs', Mg wr A' c' xs' → Mg ((wr.setCell ⟨gm, j * 2, none⟩ (.bool b)).setCell ⟨gm, j * 2 + 1, none⟩ (.slice R n c)) A' c' xs' := fun _ _ _ hh => Yc e2 (by omega) hh
 refine ⟨Kg (Kg h.b (by omega) _ _) (by omega) _ _, Jh (Jh h.r1 (by omega)) (by omega), h.z1.set_.set_, ⟨e, h1, h2.mv hm, Kh (Ne.symm hc) (Kh (Ne.symm hc) h3), Kh (Ne.symm hc) (Kh (Ne.symm hc) h4)⟩, h.zm.set_.set_, hg, hc, lm.set j ⟨zs[j], b, n, L, R, c⟩, by simp [e1], set_M e2 (by omega), fun x hx => ?_, ?_⟩
 ·rcases List.mem_or_eq_of_mem_set hx with h5 | rfl
  ·exact (e3 x h5).mv hm
  ·exact ⟨I, hm _ _ _ m⟩
 ·have e5 : (zs.take j).length = j := by simp; omega
  have e6 := Yk (zs.take j) zs[j] (9 - (j + 1))
  rw [e5, show 9 - (j + 1) + 1 = 9 - j by omega] at e6
  rw [List.map_set, e4, e6, List.take_succ_eq_append_getElem hj]
end Go.Proofs.YtdkgbkbbbldliaaGreat
