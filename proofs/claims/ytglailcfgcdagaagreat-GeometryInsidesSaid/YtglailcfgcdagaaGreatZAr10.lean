/- Integers in a block that was made somewhere among calls; fractions made of two integers. Conditions: none. -/
import Derived.Test.YtglailcfgcdagaaGreatZYS
import Derived.Test.YtglailcfgcdagaaGreatZYJ
set_option linter.unusedVariables false
set_option linter.unusedSimpArgs false
namespace Go.Proofs.YtglailcfgcdagaaGreat
open Go.RowKit Big
/-- integers in a block not older than a world -/
structure Blk (u : World) (g : Nat) (zs : List Int) (wx : World) : Prop where
 b : Below u.heap.size u wx
 hg : u.heap.size ≤ g
 z : Zn wx g
 ex : ∃ fl : List ZE, wx.rangeAt g 0 (cellsM fl) ∧ (∀ e ∈ fl, e.ok wx) ∧ fl.map (·.z) = zs
theorem Blk.below {u wx wy : World} {g : Nat} {zs : List Int} (h : Blk u g zs wx) (hb : Below wx.heap.size wx wy) : Blk u g zs wy := by
 obtain ⟨fl, a, b, c⟩ := h.ex
 exact ⟨bel_step h.b hb, h.hg, h.z.below hb, fl, rng_below a hb, fun e he => (b e he).below hb, c⟩
theorem Blk.set {u W : World} {g : Nat} {cs fl : List ZE} (hr : W.rangeAt g 0 (cellsM cs)) (z : Zn W g) (hb : Below u.heap.size u W) (hg : u.heap.size ≤ g) (hl : fl.length = cs.length) (ho : ∀ e ∈ fl, e.ok W) : Blk u g (fl.map (·.z)) (W.setCells g 0 (cellsM fl)) := by
 obtain ⟨F1, F2, F3, F4⟩ := fin_M (w := u) (l := fl) hb hg hr z (by rw [cellsM_len, cellsM_len, hl]) (cellsM_npl cs) ho
 exact ⟨F1, hg, F4, fl, F2, F3, rfl⟩
theorem Blk.new {u W : World} {fl : List ZE} {t : TypeId} (hb : Below u.heap.size u W) (ho : ∀ e ∈ fl, e.ok W) : Blk u W.heap.size (fl.map (·.z)) (W.alloc (.cells (cellsM fl).toArray t)) := by
 have hv : Below W.heap.size W (W.alloc (.cells (cellsM fl).toArray t)) := (Below.refl _ _).alloc (Nat.le_refl _) _
 exact ⟨bel_step hb hv, hb.size, Zn.new_, fl, rng_alloc, fun e he => (ho e he).below hv, rfl⟩
/-- one fraction stored into a block -/
theorem Blk.set2 {u W : World} {g : Nat} (hr : W.rangeAt g 0 (cellsM [ZE.zero, ZE.zero])) (z : Zn W g) (hb : Below u.heap.size u W) (hg : u.heap.size ≤ g) {e f : ZE} (o : e.ok W) (p : f.ok W) : Blk u g [e.z, f.z] ((((W.setCell ⟨g, 0, none⟩ (.bool e.b)).setCell ⟨g, 1, none⟩ (.slice e.A e.n e.c)).setCell ⟨g, 2, none⟩ (.bool f.b)).setCell ⟨g, 3, none⟩ (.slice f.A f.n f.c)) :=
 Blk.set (cs := [ZE.zero, ZE.zero]) (fl := [e, f]) hr z hb hg rfl (fun x hx => by
  simp only [List.mem_cons, List.not_mem_nil, or_false] at hx
  rcases hx with rfl | rfl
  ·exact o
  ·exact p)
theorem Blk.new2 {u W : World} {e f : ZE} {t : TypeId} (hb : Below u.heap.size u W) (o : e.ok W) (p : f.ok W) : Blk u W.heap.size [e.z, f.z] (W.alloc (.cells #[.bool e.b, .slice e.A e.n e.c, .bool f.b, .slice f.A f.n f.c] t)) :=
 Blk.new (fl := [e, f]) hb (fun x hx => by
  simp only [List.mem_cons, List.not_mem_nil, or_false] at hx
  rcases hx with rfl | rfl
  ·exact o
  ·exact p)
/-- the fraction of two integers that are small enough -/
theorem newE_bz {k : Nat} {x y : Int} (hx : Bz k x) (hy : Bz k y) (h0 : y ≠ 0) (hk : k ≤ 16384) : (newE x y).2 = 0 ∧ Nf (newE x y).1 ∧ (newE x y).1 = low (if y < 0 then -x else x) y.natAbs := by
 unfold newE
 rw [if_neg h0]
 have e : sg (decide (x < 0) != decide (y < 0)) x.natAbs = if y < 0 then -x else x := by
  rcases Int.lt_or_le x 0 with h1 | h1 <;> rcases Int.lt_or_le y 0 with h2 | h2
  ·rw [decide_eq_true h1, decide_eq_true h2, if_pos h2]; simp [sg]; omega
  ·rw [decide_eq_true h1, decide_eq_false (by omega), if_neg (by omega)]; simp [sg]; omega
  ·rw [decide_eq_false (by omega), decide_eq_true h2, if_pos h2]; simp [sg]; omega
  ·rw [decide_eq_false (by omega), decide_eq_false (by omega), if_neg (by omega)]; simp [sg]; omega
 rw [e]
 have hz : Bz k (if y < 0 then -x else x) := by unfold Bz at *; split <;> omega
 generalize (if y < 0 then -x else x) = a at *
 have hp : 0 < y.natAbs := by omega
 have hf : fitsF (low a y.natAbs) := by
  constructor
  ·refine Bz.ft (k := k) ?_ hk
   show Bz k (a / (Nat.gcd a.natAbs y.natAbs : Nat))
   exact hz.ediv (Int.ofNat_dvd_left.2 (Nat.gcd_dvd_left _ _))
  ·refine Bz.ft (k := k) ?_ hk
   unfold Bz
   rw [Int.natAbs_natCast]
   exact Nat.lt_of_le_of_lt (Nat.div_le_self _ _) hy
 rw [lowE_yes hf]
 exact ⟨rfl, low_nf hp, rfl⟩
end Go.Proofs.YtglailcfgcdagaaGreat
