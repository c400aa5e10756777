/- The frame of the homographies' statements: what the arguments give the walks. Conditions: none. -/
import Derived.Test.YtdkgbkbbbldliaaGreatZYR
import Derived.Test.YtdkgbkbbbldliaaGreatRows
import Derived.ProofKit
import Derived.OpenShut
import Derived.ChangeOld
import Derived.LaidMore
import Derived.Lay
import Derived.Stop.Joined
import Derived.Stop.LaidErr
import Derived.Lib.SmallJoins
import Derived.Test.YtdkgbkbbbldliaaGreatZYH
import Derived.Test.YtdkgbkbbbldliaaGreatZYO
import Derived.Deep.Grids
import Derived.Deep.Strs
set_option linter.unusedVariables false
set_option linter.unusedSimpArgs false
namespace Go.Proofs.YtdkgbkbbbldliaaGreat
open Go.ChangeShapes Go.WideShapes Go.ChangeAt Go.RowKit Go.Deep Go.Joins
set_option maxRecDepth 100000
theorem own : ownKnob Tryz.prog.godebug = none := by kernel_rfl
theorem J5 : laidOutB Tryz.prog = true := by kernel_rfl
section
variable {H : Type} {enc : TypeId × Value → H} {W : World} {b0 base : Nat} {r : Reach} {spare : Nat → Bool} {held : Bool}
theorem rd_of_ints {k : IntKind} {zs : List Int} {x : Addr} (hc : ∀ i, i < zs.length → W.cell? (x.add i) = some (.int k (zs.getD i 0))) (n : Nat) (hn : n ≤ zs.length) {α : Type} (f : α → Value) (l : List α) (hl : l.length = n) (hf : ∀ i (h : i < l.length), f l[i] = .int k (zs.getD i 0)) : Rd f W (some x) l := by
 intro h0
 obtain ⟨b, o, s⟩ := x
 have h1 := hc 0 (by omega)
 obtain rfl : s = none := by simpa [Addr.add] using World.cell?_spot h1
 refine ⟨b, o, rfl, ?_, fun j hj => ?_⟩
 ·have h2 : W.cell? ⟨b, o, none⟩ = some (.int k (zs.getD 0 0)) := by simpa [Addr.add] using h1
  rcases Nat.lt_or_ge b W.heap.size with h3 | h3
  ·exact h3
  ·simp [World.cell?, Array.getElem?_eq_none h3] at h2
 ·rw [hf j hj]
  have h4 := hc j (by omega)
  have e : (⟨b, o, none⟩ : Addr).add j = ⟨b, o + j, none⟩ := by simp [Addr.add]
  rw [e] at h4
  exact h4
theorem list2 {α : Type} {cs : List α} (h : cs.length = 2) : ∃ c0 c1, cs = [c0, c1] := by
 match cs, h with
 | [c0, c1], _ => exact ⟨c0, c1, rfl⟩
set_option maxRecDepth 100000 in
theorem int_cells {n : Nat} {cs : List Value} {y : DataW H × List MemPlace} (hl2 : cs.length = 2) (h : DataW.trod enc Tryz.prog W base spare held n 27 cs = some y) :
  ∃ (neg : Bool) (A : Option Addr) (xs : List Nat) (c : Nat), cs = [.bool neg, .slice A xs.length c] ∧ Mg W A c xs := by
 obtain ⟨c0, c1, rfl⟩ := list2 hl2
 obtain ⟨y0, y1, m, hx, _, h0', h1'⟩ := trod_struct2 Tryz.underlying27 h
 have e0 : ([c0, c1].drop 0).take (Tryz.prog.cellsOf 4) = [c0] := by rw [show Tryz.prog.cellsOf 4 = 1 by kernel_rfl]; rfl
 have e1 : ([c0, c1].drop 1).take (Tryz.prog.cellsOf 25) = [c1] := by rw [show Tryz.prog.cellsOf 25 = 1 by kernel_rfl]; rfl
 have h0 : DataW.trod enc Tryz.prog W base spare held m 4 [c0] = some y0 := by rw [← e0]; exact h0'
 have h1 : DataW.trod enc Tryz.prog W base spare held m 25 [c1] = some y1 := by rw [← e1]; exact h1'
 obtain ⟨neg, e0, _⟩ := DataW.trod_bool Tryz.underlying4 h0
 simp only [List.cons.injEq, and_true] at e0
 subst e0
 rcases open_ints Tryz.underlying25 Tryz.underlying124 (by kernel_rfl) h1 with ⟨hcs, _⟩ | ⟨x, l, c, zs, hcs, _, hl, hm, hz, _, hcell, hwz⟩
 ·simp only [List.cons.injEq, and_true] at hcs
  subst hcs
  exact ⟨neg, none, [], 0, rfl, by simp, by omega, by intro x hx; simp at hx, Rd.nil _ _⟩
 ·simp only [List.cons.injEq, and_true] at hcs
  subst hcs
  have hzl : l ≤ zs.length := by rw [hz]; split <;> omega
  have hwf : ∀ n ∈ zs, 0 ≤ n ∧ n < 4294967296 := fun n hn => by
   have := hwz n hn
   simp [Lit.wf, IntKind.min, IntKind.max, IntKind.signed, IntKind.bits] at this
   omega
  refine ⟨neg, some x, (zs.take l).map Int.toNat, c, by simp [Nat.min_eq_left hzl], by simp [Nat.min_eq_left hzl]; exact hl, by unfold maxLen at hm; omega, ?_, ?_⟩
  ·intro n hn
   obtain ⟨z, hz1, rfl⟩ := List.mem_map.1 hn
   have := hwf z (List.mem_of_mem_take hz1)
   omega
  ·refine rd_of_ints hcell l hzl lim _ (by simp [Nat.min_eq_left hzl]) (fun i hi => ?_)
   have hi' : i < zs.length := by simp at hi; omega
   have h9 := hwf zs[i] (List.getElem_mem hi')
   have e1 : ((zs.take l).map Int.toNat)[i] = (zs[i]).toNat := by simp
   have e2 : zs.getD i 0 = zs[i] := by simp [List.getD, List.getElem?_eq_getElem hi']
   rw [e1, e2]
   unfold lim
   rw [Int.toNat_of_nonneg h9.1]
theorem list4 {α : Type} {cs : List α} (h : cs.length = 4) : ∃ c0 c1 c2 c3, cs = [c0, c1, c2, c3] := by
 match cs, h with
 | [c0, c1, c2, c3], _ => exact ⟨c0, c1, c2, c3, rfl⟩
set_option maxRecDepth 100000 in
theorem frac_cells {n : Nat} {cs : List Value} {y : DataW H × List MemPlace} (hl4 : cs.length = 4) (hf : DataW.trod enc Tryz.prog W base spare held n 29 cs = some y) :
  ∃ f : Rf, cs = Kc f.ze ∧ f.mg W := by
 obtain ⟨c0, c1, c2, c3, rfl⟩ := list4 hl4
 obtain ⟨y0, y1, m, hx, _, h0', h1'⟩ := trod_struct2 Tryz.underlying29 hf
 have e0 : (([c0, c1, c2, c3] : List Value).drop 0).take (Tryz.prog.cellsOf 27) = [c0, c1] := by rw [show Tryz.prog.cellsOf 27 = 2 by kernel_rfl]; rfl
 have e1 : (([c0, c1, c2, c3] : List Value).drop 2).take (Tryz.prog.cellsOf 27) = [c2, c3] := by rw [show Tryz.prog.cellsOf 27 = 2 by kernel_rfl]; rfl
 have h0 : DataW.trod enc Tryz.prog W base spare held m 27 [c0, c1] = some y0 := by rw [← e0]; exact h0'
 have h1 : DataW.trod enc Tryz.prog W base spare held m 27 [c2, c3] = some y1 := by rw [← e1]; exact h1'
 obtain ⟨na, A, xs, c, e2, m1⟩ := int_cells rfl h0
 obtain ⟨nb, B, ys, e, e3, m2⟩ := int_cells rfl h1
 simp only [List.cons.injEq, and_true] at e2 e3
 obtain ⟨rfl, rfl⟩ := e2
 obtain ⟨rfl, rfl⟩ := e3
 exact ⟨⟨na, A, xs, c, nb, B, ys, e⟩, rfl, m1, m2⟩
theorem zl_one (f : Rf) : zl [f] = f.ze := by simp [zl]
theorem Wg (k : Nat) : ∀ (n : Nat) (cs : List Value), cs.length = n * (4 * k) → (∀ i, i < n → ∃ fs : List Rf, fs.length = k ∧ (cs.drop (i * (4 * k))).take (4 * k) = Kc (zl fs) ∧ ∀ f ∈ fs, f.mg W) → ∃ fs : List Rf, fs.length = n * k ∧ cs = Kc (zl fs) ∧ ∀ f ∈ fs, f.mg W
 | 0, cs, hl, _ => by
  obtain rfl : cs = [] := List.eq_nil_of_length_eq_zero (by omega)
  exact ⟨[], by simp, rfl, fun f hf => by simp at hf⟩
 | n + 1, cs, hl, h => by
  obtain ⟨fs, hf1, hf2, hf3⟩ := h 0 (by omega)
  rw [Nat.zero_mul, List.drop_zero] at hf2
  have hl' : (cs.drop (4 * k)).length = n * (4 * k) := by rw [List.length_drop, hl, Nat.succ_mul]; omega
  obtain ⟨gs, hg1, hg2, hg3⟩ := Wg k n (cs.drop (4 * k)) hl' fun i hi => by
   obtain ⟨q, q1, q2, q3⟩ := h (i + 1) (by omega)
   refine ⟨q, q1, ?_, q3⟩
   have e : (i + 1) * (4 * k) = 4 * k + i * (4 * k) := by rw [Nat.add_mul, Nat.one_mul, Nat.add_comm]
   rw [List.drop_drop, ← q2, e]
  refine ⟨fs ++ gs, by rw [List.length_append, hf1, hg1, Nat.succ_mul, Nat.add_comm], ?_, fun f hf => (List.mem_append.1 hf).elim (hf3 f) (hg3 f)⟩
  rw [zl_app, Qx, ← hf2, ← hg2, List.take_append_drop]
theorem arr_cells {n m : Nat} {t : TypeId} {cs : List Value} {y : DataW H × List MemPlace} (ht : Tryz.prog.underlying t = some (.array n 29)) (hc : Tryz.prog.cellsOf t = n * 4) (h : DataW.trod enc Tryz.prog W base spare held m t cs = some y) :
  ∃ fs : List Rf, fs.length = n ∧ cs = Kc (zl fs) ∧ ∀ f ∈ fs, f.mg W := by
 obtain ⟨xs, m', _, _, hl, hxl, hi⟩ := DataW.trod_array ht h
 have h4 : Tryz.prog.cellsOf 29 = 4 := by kernel_rfl
 rw [h4] at hi
 rw [hc] at hl
 obtain ⟨fs, q1, q2, q3⟩ := Wg (W := W) 1 n cs (by omega) fun i hin => by
  have h1 := hi i hin
  rw [List.getElem?_eq_getElem (by omega)] at h1
  obtain ⟨f, hf1, hf2⟩ := frac_cells (by rw [List.length_take, List.length_drop]; have : (i + 1) * 4 ≤ n * 4 := Nat.mul_le_mul_right _ hin; omega) h1
  exact ⟨[f], rfl, by rw [zl_one]; exact hf1, fun g hg => by simp at hg; subst hg; exact hf2⟩
 exact ⟨fs, by omega, q2, q3⟩
set_option maxRecDepth 100000 in
theorem Y9 {v : Value} {d : DataW H} {p : List MemPlace} (hv : Value.okWide Tryz.prog W r b0 32 v) (h : DataW.Trod enc Tryz.prog W base spare held 32 v d p) :
  ∃ fs : List Rf, fs.length = 9 ∧ v = .agg (Kc (zl fs)).toArray ∧ ∀ f ∈ fs, f.mg W := by
 obtain ⟨cs, rfl, hsz⟩ := okWide_struct Tryz.underlying32 hv
 obtain ⟨fuel, hf⟩ := h
 obtain ⟨y0, m, _, hl, h0⟩ := trod_struct1 Tryz.underlying32 hf
 have h36 : Tryz.prog.cellsOf 30 = 36 := by kernel_rfl
 have h36' : Tryz.prog.cellsOf 32 = 36 := by kernel_rfl
 rw [h36'] at hl
 simp only [h36, List.drop_zero] at h0
 rw [List.take_of_length_le (by omega)] at h0
 obtain ⟨fs, h1, h2, h3⟩ := arr_cells Tryz.underlying30 h36 h0
 have e : cs.toList = Kc (zl fs) := h2
 exact ⟨fs, h1, by rw [← e, Array.toArray_toList], h3⟩
end
end Go.Proofs.YtdkgbkbbbldliaaGreat
/- Sampling in plain numbers: bitmaps, positions, what Sample, Warp and Faithful answer. Conditions: none. -/
namespace Go.Proofs.YtdkgbkbbbldliaaGreat
open Go.RowKit Big
structure Bm where
 w : Int
 h : Int
 d : List Bool
def noB : Bm := ⟨0, 0, []⟩
def J9 (c r : Int) : Bool := decide (1 ≤ c ∧ c ≤ 4096 ∧ 1 ≤ r ∧ r ≤ 4096 ∧ c * r ≤ 4194304)
def bmB (m : Bm) : Bool := J9 m.w m.h && decide ((m.d.length : Int) = m.w * m.h)
def inB (w h x y : Int) : Bool := decide (0 ≤ x ∧ x < w ∧ 0 ≤ y ∧ y < h)
def pixZ (m : Bm) (x y : Int) : Bool := inB m.w m.h x y && m.d.getD (y * m.w + x).toNat false
def rwZ (N : List Int) (i : Nat) (x y : Int) : Int := N.getD (3 * i) 0 * x + N.getD (3 * i + 1) 0 * y + 2 * N.getD (3 * i + 2) 0
def posZ (N : List Int) (x y : Int) : Option (Int × Int) :=
 if rwZ N 2 (2 * x + 1) (2 * y + 1) = 0 then none
 else some (Int.fdiv (rwZ N 0 (2 * x + 1) (2 * y + 1)) (rwZ N 2 (2 * x + 1) (2 * y + 1)), Int.fdiv (rwZ N 1 (2 * x + 1) (2 * y + 1)) (rwZ N 2 (2 * x + 1) (2 * y + 1)))
def ptsB (c r : Int) : List (Int × Int) := (List.range (c * r).toNat).map fun i : Nat => ((i : Int) % c, (i : Int) / c)
def atB (m : Bm) (N : List Int) (p : Int × Int) : Bool := match posZ N p.1 p.2 with
 | some q => pixZ m q.1 q.2
 | none => false
def smpL (m : Bm) (N : List Int) (c r : Int) : List Bool := (ptsB c r).map (atB m N)
def allP (N : List Int) (c r : Int) : Bool := (ptsB c r).all fun p => (posZ N p.1 p.2).isSome
def smpE (m : Bm) (ok : Bool) (N : List Int) (c r : Int) : Bm × Int :=
 if bmB m && ok then (if J9 c r then (if allP N c r then (⟨c, r, smpL m N c r⟩, 0) else (noB, 24)) else (noB, 23)) else (noB, 1)
def wrpE (m : Bm) (ok : Bool) (q : Int) (M : List Int) (c r : Int) : Bm × Int :=
 if bmB m && ok then (if J9 c r then (if q = 0 then (⟨c, r, smpL m M c r⟩, 0) else (noB, q)) else (noB, 23)) else (noB, 1)
def Xt (N M : List Int) (w h : Int) (p : Int × Int) : Bool := match posZ N p.1 p.2 with
 | none => false
 | some q => inB w h q.1 q.2 && decide (posZ M q.1 q.2 = some p)
def fthE (ok : Bool) (q : Int) (N M : List Int) (c r w h : Int) : Bool × Int :=
 if ok then (if J9 c r && J9 w h then (if q = 0 then ((ptsB c r).all (Xt N M w h), 0) else (false, q)) else (false, 23)) else (false, 1)
def clP (q : Int) : Int := if -9223372036854775808 ≤ q ∧ q ≤ 9223372036854775807 then q else -1
def clR (q : Int) : Int := if q < 0 then -1 else if 4096 < q then 4096 else q
theorem Jj {c r : Int} : J9 c r = true ↔ 1 ≤ c ∧ c ≤ 4096 ∧ 1 ≤ r ∧ r ≤ 4096 ∧ c * r ≤ 4194304 := by unfold J9; exact decide_eq_true_iff
theorem W5 {m : Bm} : bmB m = true ↔ (1 ≤ m.w ∧ m.w ≤ 4096 ∧ 1 ≤ m.h ∧ m.h ≤ 4096 ∧ m.w * m.h ≤ 4194304) ∧ (m.d.length : Int) = m.w * m.h := by
 unfold bmB
 rw [Bool.and_eq_true, Jj, decide_eq_true_iff]
theorem Qd {w h x y : Int} : inB w h x y = true ↔ 0 ≤ x ∧ x < w ∧ 0 ≤ y ∧ y < h := by unfold inB; exact decide_eq_true_iff
theorem clP_in {w q : Int} (hw : w ≤ 4096) : (0 ≤ clP q ∧ clP q < w) ↔ (0 ≤ q ∧ q < w) := by unfold clP; split <;> omega
theorem clP_eq {w q : Int} (hw : w ≤ 4096) (h : 0 ≤ q ∧ q < w) : clP q = q := by unfold clP; split <;> omega
theorem clR_in {w q : Int} (hw : w ≤ 4096) : (0 ≤ clR q ∧ clR q < w) ↔ (0 ≤ q ∧ q < w) := by unfold clR; split <;> (try split) <;> omega
theorem clR_eq {w q : Int} (hw : w ≤ 4096) (h : 0 ≤ q ∧ q < w) : clR q = q := by unfold clR; split <;> (try split) <;> omega
theorem clP_is {x q : Int} (h : 0 ≤ x ∧ x < 4096) : clP q = x ↔ q = x := by unfold clP; split <;> omega
theorem clR_is {x q : Int} (h : 0 ≤ x ∧ x < 4096) : clR q = x ↔ q = x := by unfold clR; split <;> (try split) <;> omega
theorem inB_clP {w h x y : Int} (hw : w ≤ 4096) (hh : h ≤ 4096) : inB w h (clP x) (clP y) = inB w h x y := by
 rw [Bool.eq_iff_iff, Qd, Qd]
 have h1 := clP_in (q := x) hw
 have h2 := clP_in (q := y) hh
 constructor
 ·rintro ⟨a, b, c, d⟩; obtain ⟨e, f⟩ := h1.1 ⟨a, b⟩; obtain ⟨g, i⟩ := h2.1 ⟨c, d⟩; exact ⟨e, f, g, i⟩
 ·rintro ⟨a, b, c, d⟩; obtain ⟨e, f⟩ := h1.2 ⟨a, b⟩; obtain ⟨g, i⟩ := h2.2 ⟨c, d⟩; exact ⟨e, f, g, i⟩
theorem inB_clR {w h x y : Int} (hw : w ≤ 4096) (hh : h ≤ 4096) : inB w h (clR x) (clR y) = inB w h x y := by
 rw [Bool.eq_iff_iff, Qd, Qd]
 have h1 := clR_in (q := x) hw
 have h2 := clR_in (q := y) hh
 constructor
 ·rintro ⟨a, b, c, d⟩; obtain ⟨e, f⟩ := h1.1 ⟨a, b⟩; obtain ⟨g, i⟩ := h2.1 ⟨c, d⟩; exact ⟨e, f, g, i⟩
 ·rintro ⟨a, b, c, d⟩; obtain ⟨e, f⟩ := h1.2 ⟨a, b⟩; obtain ⟨g, i⟩ := h2.2 ⟨c, d⟩; exact ⟨e, f, g, i⟩
theorem pix_clP {m : Bm} (hm : bmB m = true) (x y : Int) : pixZ m (clP x) (clP y) = pixZ m x y := by
 obtain ⟨⟨_, a, _, b, _⟩, _⟩ := W5.1 hm
 unfold pixZ
 rw [inB_clP a b]
 cases hi : inB m.w m.h x y
 ·rfl
 ·obtain ⟨c, d, e, f⟩ := Qd.1 hi
  rw [clP_eq a ⟨c, d⟩, clP_eq b ⟨e, f⟩]
theorem pix_clR {m : Bm} (hm : bmB m = true) (x y : Int) : pixZ m (clR x) (clR y) = pixZ m x y := by
 obtain ⟨⟨_, a, _, b, _⟩, _⟩ := W5.1 hm
 unfold pixZ
 rw [inB_clR a b]
 cases hi : inB m.w m.h x y
 ·rfl
 ·obtain ⟨c, d, e, f⟩ := Qd.1 hi
  rw [clR_eq a ⟨c, d⟩, clR_eq b ⟨e, f⟩]
theorem Hp (c r : Int) : (ptsB c r).length = (c * r).toNat := by simp [ptsB]
theorem Ei {c r : Int} {i : Nat} (h : i < (ptsB c r).length) : (ptsB c r)[i] = ((i : Int) % c, (i : Int) / c) := by simp [ptsB]
theorem Em {c r x y : Int} (hx : 0 ≤ x ∧ x < c) (hy : 0 ≤ y ∧ y < r) : ∃ h : (y * c + x).toNat < (ptsB c r).length, (ptsB c r)[(y * c + x).toNat] = (x, y) := by
 have h0 : 0 ≤ y * c := Int.mul_nonneg hy.1 (by omega)
 have h1 : y * c + c ≤ c * r := by
  have : (y + 1) * c ≤ r * c := Int.mul_le_mul_of_nonneg_right (by omega) (by omega)
  rw [Int.add_mul, Int.one_mul, Int.mul_comm r c] at this
  exact this
 have h2 : (y * c + x).toNat < (ptsB c r).length := by rw [Hp]; omega
 refine ⟨h2, ?_⟩
 rw [Ei h2, Int.toNat_of_nonneg (by omega)]
 have e1 : (y * c + x) % c = x := by rw [Int.add_comm, Int.add_mul_emod_self_right, Int.emod_eq_of_lt hx.1 hx.2]
 have e2 : (y * c + x) / c = y := by rw [Int.add_comm, Int.add_mul_ediv_right _ _ (by omega), Int.ediv_eq_zero_of_lt hx.1 hx.2, Int.zero_add]
 rw [e1, e2]
theorem Ed {c r x y : Int} (hx : 0 ≤ x ∧ x < c) (hy : 0 ≤ y ∧ y < r) : (x, y) ∈ ptsB c r := by
 obtain ⟨h, e⟩ := Em hx hy
 rw [← e]
 exact List.getElem_mem h
theorem rwZ_smul (k : Int) (N : List Int) (i : Nat) (x y : Int) : rwZ (N.map (k * ·)) i x y = k * rwZ N i x y := by
 have e : ∀ j, (N.map (k * ·)).getD j 0 = k * N.getD j 0 := fun j => by
  simp only [List.getD_eq_getElem?_getD, List.getElem?_map]
  cases N[j]? <;> simp
 unfold rwZ
 rw [e, e, e]
 grind
theorem fdiv_smul {k : Int} (hk : k ≠ 0) (a c : Int) : Int.fdiv (k * a) (k * c) = Int.fdiv a c := by
 rcases Int.lt_or_gt_of_ne hk with h | h
 ·have := Int.mul_fdiv_mul_of_pos a c (show 0 < -k by omega)
  rw [Int.neg_mul, Int.neg_mul, Int.neg_fdiv_neg] at this
  exact this
 ·exact Int.mul_fdiv_mul_of_pos a c h
theorem Eg {k : Int} (hk : k ≠ 0) (N : List Int) (x y : Int) : posZ (N.map (k * ·)) x y = posZ N x y := by
 unfold posZ
 simp only [rwZ_smul]
 generalize rwZ N 2 (2 * x + 1) (2 * y + 1) = c
 generalize rwZ N 0 (2 * x + 1) (2 * y + 1) = a
 generalize rwZ N 1 (2 * x + 1) (2 * y + 1) = b
 by_cases hc : c = 0
 ·rw [if_pos hc, if_pos (by rw [hc, Int.mul_zero])]
 ·rw [if_neg hc, if_neg (by intro h; rcases Int.mul_eq_zero.1 h with h | h <;> contradiction), fdiv_smul hk, fdiv_smul hk]
theorem posZ_pr {N N' : List Int} (h : Pr N N') (x y : Int) : posZ N x y = posZ N' x y := by
 obtain ⟨k, k', h1, h2, e⟩ := h
 rw [← Eg h1 N, e, Eg h2]
theorem Ej {m : Bm} {x y : Int} (h : inB m.w m.h x y = false) : pixZ m x y = false := by unfold pixZ; rw [h]; rfl
def bv (b : Bool) : Value := .bool b
structure Mb (w : World) (A : Option Addr) (c : Nat) (d : List Bool) : Prop where
 cap : d.length ≤ c
 max : c ≤ 9223372036854775807
 rd : Rd bv w A d
theorem Mb.below {w w' : World} {A : Option Addr} {c : Nat} {d : List Bool} (h : Mb w A c d) (hb : Below w.heap.size w w') : Mb w' A c d := ⟨h.cap, h.max, h.rd.below hb⟩
theorem Mb.at_ {w : World} {A : Option Addr} {c : Nat} {d : List Bool} (h : Mb w A c d) {k : Nat} (hk : k < d.length) : ∃ b o, A = some ⟨b, o, none⟩ ∧ w.cell? ⟨b, o + k, none⟩ = some (.bool d[k]) := by
 obtain ⟨b, o, e, _, hc⟩ := h.rd.at_ hk
 exact ⟨b, o, e, hc k hk⟩
theorem Mb.nil (w : World) : Mb w none 0 [] := ⟨Nat.le_refl _, by omega, Rd.nil _ _⟩
def D7 (w : World) (q : Bm × Int) (e : Ending) (w' : World) : Prop :=
 ∃ A c, e = .returned (.tuple #[.agg #[.int .i64 q.1.w, .int .i64 q.1.h, .slice A q.1.d.length c], .int .i64 q.2]) ∧ Mb w' A c q.1.d ∧ Below w.heap.size w w'
def RetTE (w : World) (q : Bool × Int) (e : Ending) (w' : World) : Prop := e = .returned (.tuple #[.bool q.1, .int .i64 q.2]) ∧ Below w.heap.size w w'
structure FilB (w : World) (g : Nat) (d : List Bool) (wr : World) : Prop where
 b : Below w.heap.size w wr
 z : Zn wr g
 hg : w.heap.size ≤ g
 r : wr.rangeAt g 0 (d.map bv)
theorem FilB.below {w wr w1 : World} {g : Nat} {d : List Bool} (h : FilB w g d wr) (hb : Below wr.heap.size wr w1) : FilB w g d w1 := ⟨Kb h.b hb, h.z.below hb, h.hg, Ke h.r hb⟩
theorem FilB.cell {w wr : World} {g : Nat} {d : List Bool} (h : FilB w g d wr) {j : Nat} (hj : j < d.length) : wr.cell? ⟨g, j, none⟩ = some (.bool d[j]) := by
 have := h.r j (.bool d[j]) (by rw [List.getElem?_map, List.getElem?_eq_getElem hj]; rfl)
 rwa [Nat.zero_add] at this
theorem FilB.set {w wr : World} {g : Nat} {d : List Bool} (h : FilB w g d wr) {j : Nat} (hj : j < d.length) (t : Bool) : FilB w g (d.set j t) (wr.setCell ⟨g, j, none⟩ (.bool t)) := by
 refine ⟨Kg h.b h.hg _ _, h.z.set_, h.hg, fun i v hv => ?_⟩
 rw [Nat.zero_add]
 rw [List.getElem?_map, List.getElem?_set] at hv
 have hc := h.cell hj
 by_cases hi : j = i
 ·subst hi
  rw [if_pos rfl, if_pos hj] at hv
  obtain rfl := Option.some.inj hv
  exact World.cell?_setCell_same _ _ _ hc
 ·rw [if_neg hi] at hv
  have := h.r i v (by rw [List.getElem?_map]; exact hv)
  rw [Nat.zero_add] at this
  exact (K0 hi).trans this
theorem FilB.mb {w wr : World} {g : Nat} {d : List Bool} {c : Nat} (h : FilB w g d wr) (hc : d.length ≤ c) (hm : c ≤ 9223372036854775807) : Mb wr (some ⟨g, 0, none⟩) c d :=
 ⟨hc, hm, fun hl => ⟨g, 0, rfl, h.z.lt, fun j hj => by rw [Nat.zero_add]; exact h.cell hj⟩⟩
def sofB (d : List Bool) (j : Nat) : List Bool := d.take j ++ List.replicate (d.length - j) false
theorem Xv (d : List Bool) (j : Nat) (hj : j ≤ d.length) : (sofB d j).length = d.length := by unfold sofB; simp; omega
theorem De (d : List Bool) (j : Nat) (hj : j < d.length) : (sofB d j).set j d[j] = sofB d (j + 1) := by
 unfold sofB
 have e5 : (d.take j).length = j := by simp; omega
 rw [List.set_append_right _ _ (by omega), e5, Nat.sub_self, show d.length - j = d.length - (j + 1) + 1 by omega, List.replicate_succ, List.set_cons_zero, List.take_succ_eq_append_getElem hj, List.append_assoc]
 rfl
theorem sofB_all (d : List Bool) : sofB d d.length = d := by unfold sofB; simp
theorem sofB_none (d : List Bool) : sofB d 0 = List.replicate d.length false := by unfold sofB; simp
end Go.Proofs.YtdkgbkbbbldliaaGreat
/- The frame of the statements on sampling: what the arguments give the walks. Conditions: none. -/
namespace Go.Proofs.YtdkgbkbbbldliaaGreat
open Go.ChangeShapes Go.WideShapes Go.ChangeAt Go.RowKit Go.Deep Go.Joins
set_option maxRecDepth 100000
section
variable {H : Type} {enc : TypeId × Value → H} {W : World} {b0 base : Nat} {r : Reach} {held : Bool}
theorem list3 {α : Type} {cs : List α} (h : cs.length = 3) : ∃ c0 c1 c2, cs = [c0, c1, c2] := by
 match cs, h with
 | [c0, c1, c2], _ => exact ⟨c0, c1, c2, rfl⟩
theorem rd_of_bools {x : Addr} {B : Nat → Bool} {c : Nat} (hc : ∀ i, i < c → W.cell? (x.add i) = some (.bool (B i))) (n : Nat) (hn : n ≤ c) : Rd bv W (some x) ((List.range n).map B) := by
 intro h0
 obtain ⟨b, o, s⟩ := x
 have hl : ((List.range n).map B).length = n := by simp
 rw [hl] at h0
 have h1 := hc 0 (by omega)
 obtain rfl : s = none := by simpa [Addr.add] using World.cell?_spot h1
 refine ⟨b, o, rfl, ?_, fun j hj => ?_⟩
 ·have h2 : W.cell? ⟨b, o, none⟩ = some (.bool (B 0)) := by simpa [Addr.add] using h1
  rcases Nat.lt_or_ge b W.heap.size with h3 | h3
  ·exact h3
  ·simp [World.cell?, Array.getElem?_eq_none h3] at h2
 ·have hj' : j < n := by simpa using hj
  have h4 := hc j (by omega)
  have e : (⟨b, o, none⟩ : Addr).add j = ⟨b, o + j, none⟩ := by simp [Addr.add]
  rw [e] at h4
  rw [h4]
  simp [bv]
theorem Di {v : Value} {d : DataW H} {p : List MemPlace} (hv : Value.okWide Tryz.prog W r b0 24 v) (h : DataW.Trod enc Tryz.prog W base (fun _ => true) held 24 v d p) :
  ∃ (m : Bm) (A : Option Addr) (c : Nat), v = .agg #[.int .i64 m.w, .int .i64 m.h, .slice A m.d.length c] ∧ Mb W A c m.d := by
 obtain ⟨cs, rfl, hsz⟩ := okWide_struct Tryz.underlying24 hv
 obtain ⟨fuel, hf⟩ := h
 obtain ⟨y0, y1, y2, k, _, hl, h0', h1', h2'⟩ := trod_struct3 Tryz.underlying24 hf
 have hl3 : cs.toList.length = 3 := by rw [show cs.toList.length = Tryz.prog.cellsOf 24 from hl]; kernel_rfl
 obtain ⟨c0, c1, c2, hcs⟩ := list3 hl3
 have hcs' : cs = #[c0, c1, c2] := by rw [← Array.toArray_toList (xs := cs), hcs]
 subst hcs'
 have n1 : Tryz.prog.cellsOf 3 = 1 := by kernel_rfl
 have n2 : Tryz.prog.cellsOf 22 = 1 := by kernel_rfl
 have h0 : DataW.trod enc Tryz.prog W base (fun _ => true) held k 3 [c0] = some y0 := by
  rw [show [c0] = ([c0, c1, c2].drop 0).take (Tryz.prog.cellsOf 3) by rw [n1]; rfl]; exact h0'
 have h1 : DataW.trod enc Tryz.prog W base (fun _ => true) held k 3 [c1] = some y1 := by
  rw [show [c1] = ([c0, c1, c2].drop 1).take (Tryz.prog.cellsOf 3) by rw [n1]; rfl]; exact h1'
 have h2 : DataW.trod enc Tryz.prog W base (fun _ => true) held k 22 [c2] = some y2 := by
  rw [show [c2] = ([c0, c1, c2].drop 2).take (Tryz.prog.cellsOf 22) by rw [n2]; rfl]; exact h2'
 obtain ⟨z0, e0, _⟩ := DataW.trod_int Tryz.underlying3 h0
 obtain ⟨z1, e1, _⟩ := DataW.trod_int Tryz.underlying3 h1
 simp only [List.cons.injEq, and_true] at e0 e1
 subst e0 e1
 rcases open_bools Tryz.underlying22 Tryz.underlying4 (by kernel_rfl) h2 with ⟨e2, _⟩ | ⟨x, l, c, B, e2, _, hlc, hm, _, hcell⟩
 ·simp only [List.cons.injEq, and_true] at e2
  subst e2
  exact ⟨⟨z0, z1, []⟩, none, 0, rfl, Mb.nil W⟩
 ·simp only [List.cons.injEq, and_true] at e2
  subst e2
  exact ⟨⟨z0, z1, (List.range l).map B⟩, some x, c, by simp, by simpa using hlc, by unfold maxLen at hm; omega, rd_of_bools hcell l hlc⟩
end
end Go.Proofs.YtdkgbkbbbldliaaGreat
