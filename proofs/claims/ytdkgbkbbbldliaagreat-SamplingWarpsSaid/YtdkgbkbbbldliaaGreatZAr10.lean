/- Integers in a block that was made somewhere among calls; fractions made of two integers. Conditions: none. -/
import Derived.Test.YtdkgbkbbbldliaaGreatZYS
import Derived.Test.YtdkgbkbbbldliaaGreatZYJ
set_option linter.unusedVariables false
set_option linter.unusedSimpArgs false
namespace Go.Proofs.YtdkgbkbbbldliaaGreat
open Go.RowKit Big
/-- integers in a block not older than a world -/
structure Blk (u : World) (g : Nat) (zs : List Int) (wx : World) : Prop where
 b : Below u.heap.size u wx
 hg : u.heap.size ≤ g
 z : Zn wx g
 ex : ∃ fl : List ZE, wx.rangeAt g 0 (Kc fl) ∧ (∀ e ∈ fl, e.ok wx) ∧ fl.map (·.z) = zs
theorem Blk.below {u wx wy : World} {g : Nat} {zs : List Int} (h : Blk u g zs wx) (hb : Below wx.heap.size wx wy) : Blk u g zs wy := by
 obtain ⟨fl, a, b, c⟩ := h.ex
 exact ⟨Kb h.b hb, h.hg, h.z.below hb, fl, Ke a hb, fun e he => (b e he).below hb, c⟩
theorem Blk.set {u W : World} {g : Nat} {cs fl : List ZE} (hr : W.rangeAt g 0 (Kc cs)) (z : Zn W g) (hb : Below u.heap.size u W) (hg : u.heap.size ≤ g) (hl : fl.length = cs.length) (ho : ∀ e ∈ fl, e.ok W) : Blk u g (fl.map (·.z)) (W.setCells g 0 (Kc fl)) := by
 obtain ⟨F1, F2, F3, F4⟩ := Gf (w := u) (l := fl) hb hg hr z (by rw [Kf, Kf, hl]) (Js cs) ho
 exact ⟨F1, hg, F4, fl, F2, F3, rfl⟩
theorem Blk.new {u W : World} {fl : List ZE} {t : TypeId} (hb : Below u.heap.size u W) (ho : ∀ e ∈ fl, e.ok W) : Blk u W.heap.size (fl.map (·.z)) (W.alloc (.cells (Kc fl).toArray t)) := by
 have hv : Below W.heap.size W (W.alloc (.cells (Kc fl).toArray t)) := (Below.refl _ _).alloc (Nat.le_refl _) _
 exact ⟨Kb hb hv, hb.size, Zn.new_, fl, K4, fun e he => (ho e he).below hv, rfl⟩
/-- one integer stored into a block -/
theorem Blk.set1 {u W : World} {g : Nat} (hr : W.rangeAt g 0 (Kc [ZE.zero])) (z : Zn W g) (hb : Below u.heap.size u W) (hg : u.heap.size ≤ g) {e : ZE} (o : e.ok W) : Blk u g [e.z] ((W.setCell ⟨g, 0, none⟩ (.bool e.b)).setCell ⟨g, 1, none⟩ (.slice e.A e.n e.c)) :=
 Blk.set (cs := [ZE.zero]) (fl := [e]) hr z hb hg rfl (fun x hx => by rw [List.mem_singleton.1 hx]; exact o)
theorem Blk.new1 {u W : World} {e : ZE} {t : TypeId} (hb : Below u.heap.size u W) (o : e.ok W) : Blk u W.heap.size [e.z] (W.alloc (.cells #[.bool e.b, .slice e.A e.n e.c] t)) :=
 Blk.new (fl := [e]) hb (fun x hx => by rw [List.mem_singleton.1 hx]; exact o)
/-- one fraction stored into a block -/
theorem Blk.set2 {u W : World} {g : Nat} (hr : W.rangeAt g 0 (Kc [ZE.zero, ZE.zero])) (z : Zn W g) (hb : Below u.heap.size u W) (hg : u.heap.size ≤ g) {e f : ZE} (o : e.ok W) (p : f.ok W) : Blk u g [e.z, f.z] ((((W.setCell ⟨g, 0, none⟩ (.bool e.b)).setCell ⟨g, 1, none⟩ (.slice e.A e.n e.c)).setCell ⟨g, 2, none⟩ (.bool f.b)).setCell ⟨g, 3, none⟩ (.slice f.A f.n f.c)) :=
 Blk.set (cs := [ZE.zero, ZE.zero]) (fl := [e, f]) hr z hb hg rfl (fun x hx => by
  simp only [List.mem_cons, List.not_mem_nil, or_false] at hx
  rcases hx with rfl | rfl
  ·exact o
  ·exact p)
theorem Blk.new2 {u W : World} {e f : ZE} {t : TypeId} (hb : Below u.heap.size u W) (o : e.ok W) (p : f.ok W) : Blk u W.heap.size [e.z, f.z] (W.alloc (.cells #[.bool e.b, .slice e.A e.n e.c, .bool f.b, .slice f.A f.n f.c] t)) :=
 Blk.new (fl := [e, f]) hb (fun x hx => by
  simp only [List.mem_cons, List.not_mem_nil, or_false] at hx
  rcases hx with rfl | rfl
  ·exact o
  ·exact p)
/-- the fraction of two integers that are small enough -/
theorem U0 {k : Nat} {x y : Int} (hx : Bz k x) (hy : Bz k y) (h0 : y ≠ 0) (hk : k ≤ 16384) : (newE x y).2 = 0 ∧ Nf (newE x y).1 ∧ (newE x y).1 = low (if y < 0 then -x else x) y.natAbs := by
 unfold newE
 rw [if_neg h0]
 have e : sg (decide (x < 0) != decide (y < 0)) x.natAbs = if y < 0 then -x else x := by
  rcases Int.lt_or_le x 0 with h1 | h1 <;> rcases Int.lt_or_le y 0 with h2 | h2
  ·rw [decide_eq_true h1, decide_eq_true h2, if_pos h2]; simp [sg]; omega
  ·rw [decide_eq_true h1, decide_eq_false (by omega), if_neg (by omega)]; simp [sg]; omega
  ·rw [decide_eq_false (by omega), decide_eq_true h2, if_pos h2]; simp [sg]; omega
  ·rw [decide_eq_false (by omega), decide_eq_false (by omega), if_neg (by omega)]; simp [sg]; omega
 rw [e]
 have hz : Bz k (if y < 0 then -x else x) := by unfold Bz at *; split <;> omega
 generalize (if y < 0 then -x else x) = a at *
 have hp : 0 < y.natAbs := by omega
 have hf : Dt (low a y.natAbs) := by
  constructor
  ·refine Bz.ft (k := k) ?_ hk
   show Bz k (a / (Nat.gcd a.natAbs y.natAbs : Nat))
   exact hz.ediv (Int.ofNat_dvd_left.2 (Nat.gcd_dvd_left _ _))
  ·refine Bz.ft (k := k) ?_ hk
   unfold Bz
   rw [Int.natAbs_natCast]
   exact Nat.lt_of_le_of_lt (Nat.div_le_self _ _) hy
 rw [V4 hf]
 exact ⟨rfl, low_nf hp, rfl⟩
theorem enterR7 {w : World} {c0 c1 c2 c3 c4 c5 c6 : List Value} {t0 t1 t2 t3 t4 t5 t6 : TypeId} {P : World → Prop}
  (H : ∀ u, Below w.heap.size w u → u.rangeAt w.heap.size 0 c0 → u.rangeAt (w.heap.size + 1) 0 c1 → u.rangeAt (w.heap.size + 1 + 1) 0 c2 → u.rangeAt (w.heap.size + 1 + 1 + 1) 0 c3 → u.rangeAt (w.heap.size + 1 + 1 + 1 + 1) 0 c4 → u.rangeAt (w.heap.size + 1 + 1 + 1 + 1 + 1) 0 c5 → u.rangeAt (w.heap.size + 1 + 1 + 1 + 1 + 1 + 1) 0 c6 → Zn u (w.heap.size + 1 + 1 + 1 + 1 + 1 + 1) → P u) :
  P (((((((w.alloc (.cells c0.toArray t0)).alloc (.cells c1.toArray t1)).alloc (.cells c2.toArray t2)).alloc (.cells c3.toArray t3)).alloc (.cells c4.toArray t4)).alloc (.cells c5.toArray t5)).alloc (.cells c6.toArray t6)) := by
 refine enterR4 (P := fun v => P (((v.alloc (.cells c4.toArray t4)).alloc (.cells c5.toArray t5)).alloc (.cells c6.toArray t6))) fun v hb r0 r1 r2 r3 _ hs => ?_
 refine X5 (P := P) fun u hbu r4 r5 r6 _ _ z6 _ => ?_
 rw [hs.out] at r4 r5 r6 z6
 exact H u (Kb hb hbu) (Ke r0 hbu) (Ke r1 hbu) (Ke r2 hbu) (Ke r3 hbu) r4 r5 r6 z6
/-- New of two integers -/
theorem HNew_g {z y : Int} {b b' : Bool} {n n' : Nat} {xs ys : List Nat} {A B : Option Addr} {c d : Nat} {w : World} (hx : Iz z b n xs) (hy : Iz y b' n' ys) (ha : Mg w A c xs) (hb : Mg w B d ys) (fx : fits z) (fy : fits y) :
  Calls Tryz.prog 74 #[.agg #[.bool b, .slice A n c], .agg #[.bool b', .slice B n' d]] w (Yd w (newE z y)) := by
 obtain ⟨rfl, rfl, rfl⟩ := hx
 obtain ⟨rfl, rfl, rfl⟩ := hy
 rw [← Dv z y fx fy]
 exact FrNew_any ha hb
end Go.Proofs.YtdkgbkbbbldliaaGreat
