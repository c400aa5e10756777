/- Sampling in plain numbers: transformations with integers over one divisor. Conditions: none. -/
import Derived.Test.YtdkgbkbbbldliaaGreatZSA
import Derived.Test.YtdkgbkbbbldliaaGreatZYZ
import Derived.Test.YtdkgbkbbbldliaaGreatZSI
import Derived.Test.YtdkgbkbbbldliaaGreatZYM2
import Derived.Test.YtdkgbkbbbldliaaGreatZXA
import Derived.Test.YtdkgbkbbbldliaaGreatZHm20
set_option linter.unusedVariables false
set_option linter.unusedSimpArgs false
namespace Go.Proofs.YtdkgbkbbbldliaaGreat
open Go.RowKit Big
theorem HomR.to {w : World} {rf : List Rf} {X Y : List Int} (hX : X.length = 9) (h : HomR w rf X) (p : Pr X Y) : HomR w rf Y :=
 ⟨h.h9, h.m, h.c, by rw [h.n, p.eq], by rw [h.b]; exact not_congr (p.det hX)⟩
theorem HomR.pos {w : World} {rf : List Rf} {X : List Int} (h : HomR w rf X) (x y : Int) : posZ (nrmZ rf) x y = posZ X x y := by
 rw [h.n]
 exact posZ_pr (Pr.red X).symm x y
theorem intZ_aff3 (qs : List (Int × Nat)) : intZ (qs ++ [(0, 1), (0, 1), (1, 1)]) = qs.map (fun f => f.1 * ((comZ qs / f.2 : Nat) : Int)) ++ [0, 0, (comZ qs : Int)] := by
 have h : comZ (qs ++ [(0, 1), (0, 1), (1, 1)]) = comZ qs := by
  rw [show qs ++ [((0 : Int), 1), (0, 1), (1, 1)] = qs ++ [(0, 1)] ++ [(0, 1)] ++ [(1, 1)] by simp, Z5, Z5, Z5]
 unfold intZ
 rw [h, List.map_append]
 simp
theorem aff_pr {n : Int} (hn : n ≠ 0) {qs : List (Int × Nat)} {xs : List Int} (hl : qs.length = xs.length) (hq : ∀ i (h : i < qs.length), qs[i].1 * n = xs[i] * (qs[i].2 : Int) ∧ 0 < qs[i].2) :
  Pr (intZ (qs ++ [(0, 1), (0, 1), (1, 1)])) (xs ++ [0, 0, n]) := by
 have hC := Y4 qs fun f hf => by
  obtain ⟨i, hi, rfl⟩ := List.getElem_of_mem hf
  exact (hq i hi).2
 refine ⟨n, (comZ qs : Int), hn, by omega, ?_⟩
 rw [intZ_aff3, List.map_append, List.map_append, List.map_map]
 congr 1
 ·refine List.ext_getElem (by simpa using hl) fun i h1 h2 => ?_
  have hi : i < qs.length := by simpa using h1
  rw [List.getElem_map, List.getElem_map]
  obtain ⟨q1, q2⟩ := hq i hi
  obtain ⟨k, hk⟩ := Vw qs qs[i] (List.getElem_mem hi)
  have e : comZ qs / qs[i].2 = k := by rw [hk, Nat.mul_div_cancel_left _ q2]
  show n * (qs[i].1 * ((comZ qs / qs[i].2 : Nat) : Int)) = (comZ qs : Int) * xs[i]
  rw [e]
  have hk' : (comZ qs : Int) = (qs[i].2 : Int) * k := by rw [← Int.natCast_mul, ← hk]
  rw [hk']
  generalize qs[i].1 = p at *
  generalize (qs[i].2 : Int) = d at *
  generalize xs[i] = x at *
  grind
 ·simp [Int.mul_comm]
def Bkd (N M : List Int) (w h : Int) (C k : Nat) : Prop := ∀ i, i < k → Xt N M w h (((i % C : Nat) : Int), ((i / C : Nat) : Int)) = true
theorem Bkd.zero (N M : List Int) (w h : Int) (C : Nat) : Bkd N M w h C 0 := fun i h => by omega
theorem Bkd.next {N M : List Int} {w h : Int} {C x y : Nat} (hx : x < C) (hk : Bkd N M w h C (y * C + x)) (h1 : Xt N M w h ((x : Int), (y : Int)) = true) : Bkd N M w h C (y * C + (x + 1)) := fun i hi => by
 rcases Nat.lt_or_ge i (y * C + x) with h2 | h2
 ·exact hk i h2
 ·obtain rfl : i = y * C + x := by omega
  have e1 : (y * C + x) % C = x := by rw [Nat.add_comm, Nat.add_mul_mod_self_right, Nat.mod_eq_of_lt hx]
  have e2 : (y * C + x) / C = y := by rw [Nat.add_comm, Nat.add_mul_div_right _ _ (by omega), Nat.div_eq_of_lt hx, Nat.zero_add]
  rw [e1, e2]
  exact h1
theorem Bkd.row {N M : List Int} {w h : Int} {C y : Nat} (hk : Bkd N M w h C (y * C + C)) : Bkd N M w h C ((y + 1) * C) := by rwa [Nat.add_mul, Nat.one_mul]
theorem Bkd.all {N M : List Int} {w h : Int} {C R : Nat} (hk : Bkd N M w h C (R * C)) : (ptsB (C : Int) (R : Int)).all (Xt N M w h) = true := by
 rw [List.all_eq_true]
 intro p hp
 obtain ⟨i, hi, rfl⟩ := List.mem_map.1 hp
 rw [List.mem_range, ← Int.natCast_mul, Int.toNat_natCast, Nat.mul_comm] at hi
 have := hk i hi
 rwa [Int.natCast_emod, Int.natCast_ediv] at this
theorem bkd_no {N M : List Int} {w h : Int} {C R x y : Nat} (hx : x < C) (hy : y < R) (h1 : Xt N M w h ((x : Int), (y : Int)) = false) : (ptsB (C : Int) (R : Int)).all (Xt N M w h) = false := by
 rw [List.all_eq_false]
 exact ⟨((x : Int), (y : Int)), Ed ⟨by omega, by omega⟩ ⟨by omega, by omega⟩, by rw [h1]; decide⟩
theorem back_none {N M : List Int} {w h x y : Int} (hq : posZ N x y = none) : Xt N M w h (x, y) = false := by unfold Xt; rw [hq]
theorem back_some {N M : List Int} {w h x y : Int} {q : Int × Int} (hq : posZ N x y = some q) : Xt N M w h (x, y) = (inB w h q.1 q.2 && decide (posZ M q.1 q.2 = some (x, y))) := by unfold Xt; rw [hq]
theorem pos_isP {M : List Int} {u v x y : Int} (hx : 0 ≤ x ∧ x < 4096) (hy : 0 ≤ y ∧ y < 4096) : decide (posZ M u v = some (x, y)) = ((posP M u v).2.2 && (decide ((posP M u v).1 = x) && decide ((posP M u v).2.1 = y))) := by
 unfold posP
 cases hp : posZ M u v with
 | none => rfl
 | some p =>
  obtain ⟨a, b⟩ := p
  have h1 := clP_is (x := x) (q := a) hx
  have h2 := clP_is (x := y) (q := b) hy
  rw [Bool.eq_iff_iff]
  simp only [decide_eq_true_eq, Bool.and_eq_true, Option.some.injEq, Prod.mk.injEq, true_and]
  rw [h1, h2]
theorem pos_isR {M : List Int} {u v x y : Int} (hx : 0 ≤ x ∧ x < 4096) (hy : 0 ≤ y ∧ y < 4096) : decide (posZ M u v = some (x, y)) = ((posR M u v).2.2 && (decide ((posR M u v).1 = x) && decide ((posR M u v).2.1 = y))) := by
 unfold posR
 cases hp : posZ M u v with
 | none => rfl
 | some p =>
  obtain ⟨a, b⟩ := p
  have h1 := clR_is (x := x) (q := a) hx
  have h2 := clR_is (x := y) (q := b) hy
  rw [Bool.eq_iff_iff]
  simp only [decide_eq_true_eq, Bool.and_eq_true, Option.some.injEq, Prod.mk.injEq, true_and]
  rw [h1, h2]
theorem back_P {N M : List Int} {w h x y : Int} (hs : J9 w h = true) (hx : 0 ≤ x ∧ x < 4096) (hy : 0 ≤ y ∧ y < 4096) :
  Xt N M w h (x, y) = ((posP N x y).2.2 && (inB w h (posP N x y).1 (posP N x y).2.1 && ((posP M (posP N x y).1 (posP N x y).2.1).2.2 && (decide ((posP M (posP N x y).1 (posP N x y).2.1).1 = x) && decide ((posP M (posP N x y).1 (posP N x y).2.1).2.1 = y))))) := by
 obtain ⟨_, b1, _, b2, _⟩ := Jj.1 hs
 rw [← pos_isP hx hy]
 cases hq : posZ N x y with
 | none => rw [back_none hq]; unfold posP; rw [hq]; rfl
 | some q =>
  rw [back_some hq]
  have e : posP N x y = (clP q.1, clP q.2, true) := by unfold posP; rw [hq]
  rw [e]
  dsimp only
  rw [inB_clP b1 b2, Bool.true_and]
  cases hi : inB w h q.1 q.2
  ·rfl
  ·obtain ⟨c1, c2, c3, c4⟩ := Qd.1 hi
   rw [clP_eq b1 ⟨c1, c2⟩, clP_eq b2 ⟨c3, c4⟩]
theorem back_R {N M : List Int} {w h x y : Int} (hs : J9 w h = true) (hx : 0 ≤ x ∧ x < 4096) (hy : 0 ≤ y ∧ y < 4096) :
  Xt N M w h (x, y) = ((posR N x y).2.2 && (inB w h (posR N x y).1 (posR N x y).2.1 && ((posR M (posR N x y).1 (posR N x y).2.1).2.2 && (decide ((posR M (posR N x y).1 (posR N x y).2.1).1 = x) && decide ((posR M (posR N x y).1 (posR N x y).2.1).2.1 = y))))) := by
 obtain ⟨_, b1, _, b2, _⟩ := Jj.1 hs
 rw [← pos_isR hx hy]
 cases hq : posZ N x y with
 | none => rw [back_none hq]; unfold posR; rw [hq]; rfl
 | some q =>
  rw [back_some hq]
  have e : posR N x y = (clR q.1, clR q.2, true) := by unfold posR; rw [hq]
  rw [e]
  dsimp only
  rw [inB_clR b1 b2, Bool.true_and]
  cases hi : inB w h q.1 q.2
  ·rfl
  ·obtain ⟨c1, c2, c3, c4⟩ := Qd.1 hi
   rw [clR_eq b1 ⟨c1, c2⟩, clR_eq b2 ⟨c3, c4⟩]
/-! ### Corners -/
def crns (c r : Int) : List (Int × Int) := [(0, 0), (c, 0), (c, r), (0, r)]
def ptN (N : List Int) (p : Int × Int) : List Int × Int := ptE (mvZ N [p.1, p.2, 1])
def crnE (N : List Int) (c r : Int) : List Int × Int := if (crns c r).all (fun p => decide ((ptN N p).2 = 0)) then ((crns c r).flatMap (fun p => (ptN N p).1), 0) else (List.replicate 16 0, 24)
def crnB (ok : Bool) (N : List Int) (c r : Int) : List Int × Int := if ok then (if J9 c r then crnE N c r else (List.replicate 16 0, 23)) else (List.replicate 16 0, 1)
theorem ptN_no {N : List Int} {p : Int × Int} (h : (ptN N p).2 ≠ 0) : (ptN N p).2 = 24 := (ptE_cases _).resolve_left h
theorem Yr {N : List Int} (h : N.length = 9) (p : Int × Int) : (ptN N p).1.length = 4 := by
 unfold ptN
 rw [show mvZ N [p.1, p.2, 1] = [rowZ N [p.1, p.2, 1] 0, rowZ N [p.1, p.2, 1] 1, rowZ N [p.1, p.2, 1] 2] from rowZ_mv h rfl, Wj]
 split
 ·simp
 ·simp [frZ]
theorem crnE_no {N : List Int} {c r : Int} {p : Int × Int} (hp : p ∈ crns c r) (h : (ptN N p).2 ≠ 0) : crnE N c r = (List.replicate 16 0, 24) := by
 unfold crnE
 rw [if_neg]
 intro h1
 rw [List.all_eq_true] at h1
 exact h (of_decide_eq_true (h1 p hp))
theorem crnE_yes {N : List Int} {c r : Int} (h : ∀ p ∈ crns c r, (ptN N p).2 = 0) : crnE N c r = ((crns c r).flatMap (fun p => (ptN N p).1), 0) := by
 unfold crnE
 rw [if_pos]
 rw [List.all_eq_true]
 intro p hp
 exact decide_eq_true (h p hp)
theorem aplE_pt {w w' : World} {fs ps : List Rf} (h9 : fs.length = 9) (m : ∀ f ∈ fs, f.mg w) (hv : nrmB fs = true) {x y : Int} (hp : RfG ps [(x, 1), (y, 1)]) (mp : ∀ f ∈ ps, f.mg w') (hx : Bz 64 x) (hy : Bz 64 y) : aplE fs ps = ptN (nrmZ fs) (x, y) := by
 obtain ⟨hH, h0, _, _⟩ := Hu h9 m hv
 have hc : chkZ 40 ps = 0 := by
  rw [hp.chk mp, if_pos]
  rw [List.all_eq_true]
  intro q hq
  have h1 : (limbs 1).length ≤ 1 := (K1 1 1).2 (by decide)
  simp only [List.mem_cons, List.not_mem_nil, or_false] at hq
  rw [decide_eq_true_eq]
  unfold szQ
  rcases hq with rfl | rfl
  ·have := Qo (K := 40) hx (by omega)
   dsimp only
   omega
  ·have := Qo (K := 40) hy (by omega)
   dsimp only
   omega
 rw [hH.apl h0 hc hp.q]
 unfold ptN ptZ
 simp
structure Sz (k : Nat) (f : Int × Nat) : Prop where
 n : f.1.natAbs < 2 ^ k
 d : f.2 < 2 ^ k
theorem Sz.of_limbs {f : Int × Nat} {m : Nat} (h1 : (limbs f.1.natAbs).length ≤ m) (h2 : (limbs f.2).length ≤ m) : Sz (32 * m) f := by
 exact ⟨(G8 _ _).1 h1, (G8 _ _).1 h2⟩
theorem low_sz {n : Int} {d k : Nat} (h1 : n.natAbs < 2 ^ k) (h2 : d < 2 ^ k) : Sz k (low n d) := by
 refine ⟨?_, ?_⟩
 ·unfold low
  simp only
  refine Nat.lt_of_le_of_lt ?_ h1
  rw [Int.natAbs_ediv_of_dvd (Int.dvd_natAbs.1 (Int.ofNat_dvd.2 (Nat.gcd_dvd_left _ _))), Int.natAbs_natCast]
  exact Nat.div_le_self _ _
 ·unfold low
  exact Nat.lt_of_le_of_lt (Nat.div_le_self _ _) h2
structure Fb (w : World) (g : Nat) (b : Bool) (A : Option Addr) (k c : Nat) (xs : List Nat) (B : Option Addr) (l d : Nat) (ys : List Nat) : Prop where
 c0 : w.cell? ⟨g, 0, none⟩ = some (.bool b)
 c1 : w.cell? ⟨g, 1, none⟩ = some (.slice A k c)
 c2 : w.cell? ⟨g, 2, none⟩ = some (.bool false)
 c3 : w.cell? ⟨g, 3, none⟩ = some (.slice B l d)
 m : Mg w A c xs
 n : Mg w B d ys
theorem Fb.below {w w' : World} {g : Nat} {b : Bool} {A : Option Addr} {k c : Nat} {xs : List Nat} {B : Option Addr} {l d : Nat} {ys : List Nat} (h : Fb w g b A k c xs B l d ys) (hb : Below w.heap.size w w') : Fb w' g b A k c xs B l d ys :=
 ⟨Ka hb h.c0, Ka hb h.c1, Ka hb h.c2, Ka hb h.c3, h.m.below hb, h.n.below hb⟩
def Vp (xs : List Int) (n : Int) : List (Int × Nat) := xs.map fun x => (newE x n).1
theorem Zm {x n : Int} (hx : Bz 64 x) (hn : Bz 64 n) (h0 : n ≠ 0) : newE x n = ((newE x n).1, 0) ∧ Vf (newE x n).1 ∧ (newE x n).1.1 * n = x * ((newE x n).1.2 : Int) ∧ Sz 64 (newE x n).1 := by
 obtain ⟨h1, h2, h3⟩ := U0 hx hn h0 (by omega)
 have e : newE x n = ((newE x n).1, 0) := Prod.ext rfl h1
 refine ⟨e, Vf.of_new e, newE_cross h0 e, ?_⟩
 rw [h3]
 refine low_sz ?_ hn
 split
 ·rw [Int.natAbs_neg]; exact hx
 ·exact hx
theorem over_chk {w : World} {fs : List Rf} {xs : List Int} {n : Int} (hx : ∀ x ∈ xs, Bz 64 x) (hn : Bz 64 n) (h0 : n ≠ 0) (hG : RfG fs (Vp xs n)) (hm : ∀ f ∈ fs, f.mg w) : chkZ 40 fs = 0 := by
 rw [hG.chk hm, if_pos]
 rw [List.all_eq_true]
 intro q hq
 obtain ⟨x, hx', rfl⟩ := List.mem_map.1 hq
 obtain ⟨_, _, _, hs⟩ := Zm (hx x hx') hn h0
 rw [decide_eq_true_eq]
 unfold szQ
 have h1 := Qo (K := 40) hs.n (by omega)
 have h2 := Qo (K := 40) hs.d (by omega)
 omega
theorem over_det {a b c d e f n : Int} (hx : ∀ x ∈ [a, b, c, d, e, f], Bz 64 x) (hn : Bz 64 n) (h0 : n ≠ 0) (hd : a * e ≠ b * d) : (affX (Vp [a, b, c, d, e, f] n)).1 ≠ (affX (Vp [a, b, c, d, e, f] n)).2 := by
 obtain ⟨_, va, ca, _⟩ := Zm (hx a (by simp)) hn h0
 obtain ⟨_, vb, cb, _⟩ := Zm (hx b (by simp)) hn h0
 obtain ⟨_, vd, cd, _⟩ := Zm (hx d (by simp)) hn h0
 obtain ⟨_, ve, ce, _⟩ := Zm (hx e (by simp)) hn h0
 show (newE a n).1.1 * (newE e n).1.1 * (((newE b n).1.2 : Int) * ((newE d n).1.2 : Int)) ≠ (newE b n).1.1 * (newE d n).1.1 * (((newE a n).1.2 : Int) * ((newE e n).1.2 : Int))
 have pa := va.nf.1
 have pb := vb.nf.1
 have pd := vd.nf.1
 have pe := ve.nf.1
 generalize (newE a n).1 = A at *
 generalize (newE b n).1 = B at *
 generalize (newE d n).1 = D at *
 generalize (newE e n).1 = E at *
 intro h
 have hA : (A.2 : Int) ≠ 0 := by omega
 have hB : (B.2 : Int) ≠ 0 := by omega
 have hD : (D.2 : Int) ≠ 0 := by omega
 have hE : (E.2 : Int) ≠ 0 := by omega
 generalize (A.2 : Int) = u at *
 generalize (B.2 : Int) = v at *
 generalize (D.2 : Int) = s at *
 generalize (E.2 : Int) = t at *
 have h2 : (A.1 * n) * (E.1 * n) * (v * s) = (B.1 * n) * (D.1 * n) * (u * t) := by
  have : (A.1 * E.1 * (v * s)) * (n * n) = (B.1 * D.1 * (u * t)) * (n * n) := by rw [h]
  grind
 rw [ca, ce, cb, cd] at h2
 have h3 : (a * e) * (u * t * (v * s)) = (b * d) * (u * t * (v * s)) := by grind
 exact hd (Int.eq_of_mul_eq_mul_right (Int.mul_ne_zero (Int.mul_ne_zero hA hE) (Int.mul_ne_zero hB hD)) h3)
theorem Wu (xs : List Int) (n : Int) : (Vp xs n).length = xs.length := List.length_map _
theorem over_get {xs : List Int} {n : Int} {i : Nat} (h : i < (Vp xs n).length) (h' : i < xs.length) : (Vp xs n)[i] = (newE xs[i] n).1 := List.getElem_map _
theorem affE_over {w : World} {fs : List Rf} {a b c d e f n : Int} (hx : ∀ x ∈ [a, b, c, d, e, f], Bz 64 x) (hn : Bz 64 n) (h0 : n ≠ 0) (hd : a * e ≠ b * d) (hG : RfG fs (Vp [a, b, c, d, e, f] n)) (hm : ∀ f ∈ fs, f.mg w) :
  affE fs = resZ [a, b, c, d, e, f, 0, 0, n] ∧ le40 (redZ [a, b, c, d, e, f, 0, 0, n]) = true := by
 have hP : Pr (intZ (Vp [a, b, c, d, e, f] n ++ [(0, 1), (0, 1), (1, 1)])) ([a, b, c, d, e, f] ++ [0, 0, n]) := by
  refine aff_pr h0 (Wu _ _) fun i hi => ?_
  have hi' : i < [a, b, c, d, e, f].length := by rw [← Wu _ n]; exact hi
  rw [over_get hi hi']
  obtain ⟨_, v, cr, _⟩ := Zm (hx _ (List.getElem_mem hi')) hn h0
  exact ⟨cr, v.nf.1⟩
 refine ⟨?_, ?_⟩
 ·unfold affE
  rw [if_pos (over_chk hx hn h0 hG hm), hG.q, if_neg (over_det hx hn h0 hd)]
  exact D4 hP
 ·unfold le40
  rw [decide_eq_true_eq]
  intro z hz
  have hb : ∀ x ∈ [a, b, c, d, e, f, 0, 0, n], Bz 64 x := by
   intro x hx'
   simp only [List.mem_cons, List.not_mem_nil, or_false] at hx' hx
   rcases hx' with h | h | h | h | h | h | h | h | h
   ·exact hx x (by simp [h])
   ·exact hx x (by simp [h])
   ·exact hx x (by simp [h])
   ·exact hx x (by simp [h])
   ·exact hx x (by simp [h])
   ·exact hx x (by simp [h])
   ·subst h; exact by unfold Bz; decide
   ·subst h; exact by unfold Bz; decide
   ·subst h; exact hn
  exact Qo (redZ_bz hb z hz) (by omega)
structure HomS (w : World) (rf : List Rf) (X : List Int) : Prop where
 h9 : rf.length = 9
 m : ∀ f ∈ rf, f.mg w
 v : nrmB rf = true
 q : (oneE adjZ rf).2 = 0
 N : ∀ x y, posZ (nrmZ rf) x y = posZ X x y
 M : ∀ x y, posZ (bakZ rf) x y = posZ (adjZ X) x y
 p : Pr (nrmZ rf) X
theorem HomS.below {w w' : World} {rf : List Rf} {X : List Int} (h : HomS w rf X) (hb : Below w.heap.size w w') : HomS w' rf X := ⟨h.h9, fun f hf => (h.m f hf).below hb, h.v, h.q, h.N, h.M, h.p⟩
theorem homS {w : World} {rf : List Rf} {X : List Int} (h : HomR w rf X) (h0 : detZ X ≠ 0) (hb : ∀ z ∈ X, Bz 64 z) : HomS w rf X := by
 have hX := h.len
 obtain ⟨e1, _⟩ := h.one h0
 have hp := h.pr
 refine ⟨h.h9, h.m, h.b.2 h0, ?_, fun x y => h.pos x y, fun x y => ?_, hp⟩
 ·rw [e1]
  unfold resZ
  rw [if_pos]
  unfold le40
  rw [decide_eq_true_eq]
  intro z hz
  exact Qo (redZ_bz (D3 hX hb) z hz) (by omega)
 ·unfold bakZ
  rw [← posZ_pr (Pr.red (adjZ (nrmZ rf))) x y]
  exact posZ_pr (Pr.adj (Jf h.h9) hp) x y
theorem aff_det {a b c d e f n : Int} (h0 : n ≠ 0) (hd : a * e ≠ b * d) : detZ [a, b, c, d, e, f, 0, 0, n] ≠ 0 := by
 have : detZ [a, b, c, d, e, f, 0, 0, n] = (a * e - b * d) * n := by
  show _ = _
  unfold detZ
  grind
 rw [this]
 exact Int.mul_ne_zero (by omega) h0
/-! what hangs on the positions alone -/
theorem allP_pos {N N' : List Int} (h : ∀ x y, posZ N x y = posZ N' x y) (c r : Int) : allP N c r = allP N' c r := by unfold allP; simp only [h]
theorem smpL_pos {N N' : List Int} (h : ∀ x y, posZ N x y = posZ N' x y) (m : Bm) (c r : Int) : smpL m N c r = smpL m N' c r := by unfold smpL; congr 1; funext p; unfold atB; rw [h]
theorem back_pos {N N' M M' : List Int} (h : ∀ x y, posZ N x y = posZ N' x y) (h' : ∀ x y, posZ M x y = posZ M' x y) (w hh : Int) : Xt N M w hh = Xt N' M' w hh := by funext p; unfold Xt; simp only [h, h']
theorem smpE_pos {N N' : List Int} (h : ∀ x y, posZ N x y = posZ N' x y) (m : Bm) (c r : Int) : smpE m true N c r = smpE m true N' c r := by unfold smpE; rw [allP_pos h, smpL_pos h]
theorem wrpE_pos {N N' : List Int} (h : ∀ x y, posZ N x y = posZ N' x y) (m : Bm) (c r : Int) : wrpE m true 0 N c r = wrpE m true 0 N' c r := by unfold wrpE; rw [smpL_pos h]
theorem fthE_pos {N N' M M' : List Int} (h : ∀ x y, posZ N x y = posZ N' x y) (h' : ∀ x y, posZ M x y = posZ M' x y) (c r w hh : Int) : fthE true 0 N M c r w hh = fthE true 0 N' M' c r w hh := by unfold fthE; rw [back_pos h h']
theorem ptN_pr {N N' : List Int} (h9 : N.length = 9) (h : Pr N N') (p : Int × Int) : ptN N p = ptN N' p := ptE_pr (mvZ_len h9 rfl) (Pr.mv h9 rfl h (Pr.refl _))
theorem crnB_pr {N N' : List Int} (h9 : N.length = 9) (h : Pr N N') (c r : Int) : crnB true N c r = crnB true N' c r := by
 unfold crnB crnE
 simp only [ptN_pr h9 h]
def exA : List Int := [10, 0, 10, 0, 10, 10, 0, 0, 1]
def exB : List Int := [1, 0, 0, 0, 1, 0, 0, 0, 2]
def exC : List Int := [1, 0, 10, 0, 1, 10, 0, 0, 1]
def oneB : Bm := ⟨1, 1, [true]⟩
def exL : List Bool := smpL oneB (adjZ exA) 20 12
theorem ex_f1 : fthE true 0 exA (adjZ exA) 1 1 16 16 = (true, 0) := by decide +kernel
theorem ex_f2 : fthE true 0 exA (adjZ exA) 1 1 15 15 = (false, 0) := by decide +kernel
theorem ex_f3 : fthE true 0 exB (adjZ exB) 2 2 1 1 = (false, 0) := by decide +kernel
theorem one_ok : bmB oneB = true := by decide +kernel
theorem ex_len : exL.length = 240 := by decide +kernel
theorem ex_w : wrpE oneB true 0 (adjZ exA) 20 12 = (⟨20, 12, exL⟩, 0) := by
 unfold wrpE
 rw [one_ok]
 have : J9 20 12 = true := by decide +kernel
 rw [this]
 rfl
theorem ex_at : exL[0]? = some false ∧ exL[209]? = some false ∧ exL[210]? = some true ∧ exL[239]? = some true := by decide +kernel
theorem bm_ok : bmB ⟨20, 12, exL⟩ = true := by
 rw [W5]
 refine ⟨⟨by decide, by decide, by decide, by decide, by decide⟩, ?_⟩
 show (exL.length : Int) = 20 * 12
 rw [ex_len]
 rfl
theorem ex_s : smpE ⟨20, 12, exL⟩ true exC 1 1 = (⟨1, 1, [true]⟩, 0) := by
 unfold smpE
 rw [bm_ok]
 have h1 : J9 1 1 = true := by decide +kernel
 have h2 : allP exC 1 1 = true := by decide +kernel
 have h3 : smpL ⟨20, 12, exL⟩ exC 1 1 = [true] := by decide +kernel
 rw [h1, h2, h3]
 rfl
theorem newE_one (k : Int) (h : Bz 64 k) : newE k 1 = ((k, 1), 0) := newE_vf (f := (k, 1)) (vf_int (h.ft (by omega)))
theorem Dg (x y : Int) (hx : Bz 64 (10 * x + 10)) (hy : Bz 64 (10 * y + 10)) : ptN exA (x, y) = ([10 * x + 10, 1, 10 * y + 10, 1], 0) := by
 have e : mvZ exA [x, y, 1] = [10 * x + 10, 10 * y + 10, 1] := by
  show [_, _, _] = [_, _, _]
  congr 1
  ·omega
  ·congr 1
   ·omega
   ·congr 1
    omega
 unfold ptN
 dsimp only
 rw [e, Wj, if_neg (by decide), newE_one _ hx, newE_one _ hy]
 rfl
theorem ex_c : crnB true exA 1 1 = ([10, 1, 10, 1, 20, 1, 10, 1, 20, 1, 20, 1, 10, 1, 20, 1], 0) := by
 have h1 : J9 1 1 = true := by decide +kernel
 have a1 := Dg 0 0 (by unfold Bz; decide) (by unfold Bz; decide)
 have a2 := Dg 1 0 (by unfold Bz; decide) (by unfold Bz; decide)
 have a3 := Dg 1 1 (by unfold Bz; decide) (by unfold Bz; decide)
 have a4 := Dg 0 1 (by unfold Bz; decide) (by unfold Bz; decide)
 unfold crnB crnE crns
 simp only [if_true, h1, List.all_cons, List.all_nil, List.flatMap_cons, List.flatMap_nil, a1, a2, a3, a4]
 rfl
/-! what the functions answer at them -/
theorem HomS.f {w : World} {rf : List Rf} {X : List Int} (h : HomS w rf X) (c r a b : Int) : fthE (nrmB rf) (oneE adjZ rf).2 (nrmZ rf) (bakZ rf) c r a b = fthE true 0 X (adjZ X) c r a b := by rw [h.v, h.q, fthE_pos h.N h.M]
theorem HomS.wr {w : World} {rf : List Rf} {X : List Int} (h : HomS w rf X) (m : Bm) (c r : Int) : wrpE m (nrmB rf) (oneE adjZ rf).2 (bakZ rf) c r = wrpE m true 0 (adjZ X) c r := by rw [h.v, h.q, wrpE_pos h.M]
theorem HomS.sm {w : World} {rf : List Rf} {X : List Int} (h : HomS w rf X) (m : Bm) (c r : Int) : smpE m (nrmB rf) (nrmZ rf) c r = smpE m true X c r := by rw [h.v, smpE_pos h.N]
theorem HomS.cr {w : World} {rf : List Rf} {X : List Int} (h : HomS w rf X) (c r : Int) : crnB (nrmB rf) (nrmZ rf) c r = crnB true X c r := by rw [h.v, crnB_pr (Jf h.h9) h.p]
end Go.Proofs.YtdkgbkbbbldliaaGreat
