/- Homographies: walks of size and check (package). Conditions: none. -/
import Derived.Test.YtdkgbkbbbldliaaGreatZYQ
import Derived.Test.YtdkgbkbbbldliaaGreatZYK
set_option linter.unusedVariables false
set_option linter.unusedSimpArgs false
namespace Go.Proofs.YtdkgbkbbbldliaaGreat
open Go.RowKit Big
def Rf.sz (f : Rf) : Nat := max f.xs.length f.ys.length
/-- what check answers -/
def chkZ (most : Nat) (fs : List Rf) : Int := if fs.all Rf.v then (if fs.all (fun f => decide (f.sz ≤ most)) then 0 else 4) else 1
set_option maxRecDepth 100000 in
theorem Hsize_g {na nb : Bool} {k ca l cb : Nat} {A B : Option Addr} {w : World} (hk : k ≤ 9223372036854775807) (hl : l ≤ 9223372036854775807) :
  Calls Tryz.prog 109 #[.agg #[.bool na, .slice A k ca, .bool nb, .slice B l cb]] w (RetI w ((max k l : Nat) : Int)) := by
 go_enter Tryz.func109, Tryz.ntmps109
 go_wp2
 go_ret
 exact ⟨by rw [show ((max k l : Nat) : Int) = max (k : Int) l by omega]; rfl, (Below.refl _ _).alloc (Nat.le_refl _) _⟩
set_option maxRecDepth 100000 in
theorem Dr {na nb : Bool} {k ca l cb : Nat} {A B : Option Addr} {w : World} (hk : k ≤ 9223372036854775807) (hl : l ≤ 9223372036854775807) :
  Calls Tryz.prog 28 #[.agg #[.bool na, .slice A k ca, .bool nb, .slice B l cb]] w (RetI w ((max k l : Nat) : Int)) := by
 go_enter Tryz.func28, Tryz.ntmps28
 go_wp2
 go_ret
 exact ⟨by rw [show ((max k l : Nat) : Int) = max (k : Int) l by omega]; rfl, (Below.refl _ _).alloc (Nat.le_refl _) _⟩
set_option maxRecDepth 100000 in
set_option maxHeartbeats 4000000 in
theorem Hcheck_g (most : Nat) (hmo : most ≤ 9223372036854775807) (fs : List Rf) (g c : Nat) (w : World) (hc : fs.length ≤ c) (hl : fs.length ≤ 1000) (hm : c ≤ 9223372036854775807) (hfs : ∀ j (h : j < fs.length), RfAt w g (j * 4) fs[j]) :
  Calls Tryz.prog 70 #[.int .i64 most, .slice (some ⟨g, 0, none⟩) fs.length c] w (RetI w (chkZ most fs)) := by
 go_enter Tryz.func70, Tryz.ntmps70
 go_wp2
 go_loopw [11] (fun s11 wr => ∃ k : Nat, k ≤ fs.length ∧ s11 = .int .i64 k ∧ Below w.heap.size w wr ∧ Hid ((fs.take k).all Rf.v = true)) (fun s11 _ => fs.length - (intOf s11).toNat)
 case atStart => exact ⟨0, Nat.zero_le _, rfl, Below.refl _ _, by simp [Hid]⟩
 case round =>
  obtain ⟨k, hk, rfl, hbl, hv⟩ := hrel
  by_cases hkl : k < fs.length
  ·have hAt := (hfs k hkl).below hbl
   have hki : (k : Int) < (fs.length : Int) := by omega
   cases hfv : fs[k].v
   ·have hR : Hid (chkZ most fs = 1) := by
     unfold Hid chkZ
     rw [if_neg]
     rw [Bool.not_eq_true, List.all_eq_false]
     exact ⟨fs[k], List.getElem_mem hkl, by rw [hfv]; simp⟩
    generalize fs[k] = f at *
    obtain ⟨na, A, xs, ca, nb, B, ys, cb⟩ := f
    obtain ⟨c0, c1, c2, c3, m1, m2⟩ := hAt
    dsimp only at *
    have HV := hid fun (w1 : World) (h : Below wr.heap.size wr w1) => Gc (w := w1) (na := na) (nb := nb) (m1.below h) (m2.below h)
    have e : fvB na xs nb ys = false := hfv
    rw [e] at HV
    have lt0 := Kd c0
    clear m1 m2 hfv e hfs
    generalize xs.length = k1 at *
    generalize ys.length = k2 at *
    go_wp2_with fail
    refine (HV.out _ ((Below.refl _ _).alloc (Nat.le_refl _) _)).mono ?_
    rintro e' w1 ⟨rfl, h1⟩
    have hb1 : Below wr.heap.size wr w1 := ((Below.refl _ _).alloc (Nat.le_refl _) _).trans (h1.mono (by simp))
    go_wp2
    go_ret
    exact ⟨by rw [hR.out]; rfl, Kb hbl hb1⟩
   ·have hN : Hid ((fs.take (k + 1)).all Rf.v = true) := by unfold Hid at hv ⊢; rw [List.take_succ_eq_append_getElem hkl, List.all_append, hv]; simp [hfv]
    generalize fs[k] = f at *
    obtain ⟨na, A, xs, ca, nb, B, ys, cb⟩ := f
    obtain ⟨c0, c1, c2, c3, m1, m2⟩ := hAt
    dsimp only at *
    have HV := hid fun (w1 : World) (h : Below wr.heap.size wr w1) => Gc (w := w1) (na := na) (nb := nb) (m1.below h) (m2.below h)
    have e : fvB na xs nb ys = true := hfv
    rw [e] at HV
    have lt0 := Kd c0
    clear m1 m2 hfv e hfs
    generalize xs.length = k1 at *
    generalize ys.length = k2 at *
    go_wp2_with fail
    refine (HV.out _ ((Below.refl _ _).alloc (Nat.le_refl _) _)).mono ?_
    rintro e' w1 ⟨rfl, h1⟩
    have hb1 : Below wr.heap.size wr w1 := ((Below.refl _ _).alloc (Nat.le_refl _) _).trans (h1.mono (by simp))
    go_wp2
    go_roundw
    case rel => exact ⟨k + 1, by omega, by go_num, Kb hbl hb1, hN.out⟩
    case measure => simp [intOf]; omega
  ·obtain rfl : k = fs.length := by omega
   rw [List.take_length] at hv
   have hR : Hid (chkZ most fs = if fs.all (fun f => decide (f.sz ≤ most)) then 0 else 4) := by unfold Hid at hv ⊢; unfold chkZ; rw [if_pos hv]
   clear hv
   go_wp2
   go_loopw [21] (fun s21 wq => ∃ k : Nat, k ≤ fs.length ∧ s21 = .int .i64 k ∧ Below w.heap.size w wq ∧ Hid ((fs.take k).all (fun f => decide (f.sz ≤ most)) = true)) (fun s21 _ => fs.length - (intOf s21).toNat)
   case atStart => exact ⟨0, Nat.zero_le _, rfl, hbl, by simp [Hid]⟩
   case round =>
    obtain ⟨k, hk2, rfl, hbq, hv⟩ := hrel
    by_cases hkl : k < fs.length
    ·have hAt := (hfs k hkl).below hbq
     have hki : (k : Int) < (fs.length : Int) := by omega
     by_cases hfv : fs[k].sz ≤ most
     ·have hN : Hid ((fs.take (k + 1)).all (fun f => decide (f.sz ≤ most)) = true) := by unfold Hid at hv ⊢; rw [List.take_succ_eq_append_getElem hkl, List.all_append, hv]; simp [hfv]
      generalize fs[k] = f at *
      obtain ⟨na, A, xs, ca, nb, B, ys, cb⟩ := f
      obtain ⟨c0, c1, c2, c3, m1, m2⟩ := hAt
      dsimp only at *
      have HV := hid fun (w1 : World) => Hsize_g (w := w1) (na := na) (nb := nb) (k := xs.length) (l := ys.length) (A := A) (B := B) (ca := ca) (cb := cb) (Nat.le_trans m1.cap m1.max) (Nat.le_trans m2.cap m2.max)
      have e : ((max xs.length ys.length : Nat) : Int) ≤ (most : Int) := by unfold Rf.sz at hfv; dsimp only at hfv; omega
      have lt0 := Kd c0
      clear m1 m2 hfv hfs hR
      generalize max xs.length ys.length = q at *
      generalize xs.length = k1 at *
      generalize ys.length = k2 at *
      go_wp2_with fail
      refine (HV.out _).mono ?_
      rintro e' w1 ⟨rfl, h1⟩
      have hb1 : Below wr.heap.size wr w1 := ((Below.refl _ _).alloc (Nat.le_refl _) _).trans (h1.mono (by simp))
      go_wp2
      go_roundw
      case rel => exact ⟨k + 1, by omega, by go_num, Kb hbq hb1, hN.out⟩
      case measure => simp [intOf]; omega
     ·have hR2 : Hid (chkZ most fs = 4) := by
       unfold Hid at hR ⊢
       rw [hR, if_neg]
       rw [Bool.not_eq_true, List.all_eq_false]
       exact ⟨fs[k], List.getElem_mem hkl, by simp; omega⟩
      generalize fs[k] = f at *
      obtain ⟨na, A, xs, ca, nb, B, ys, cb⟩ := f
      obtain ⟨c0, c1, c2, c3, m1, m2⟩ := hAt
      dsimp only at *
      have HV := hid fun (w1 : World) => Hsize_g (w := w1) (na := na) (nb := nb) (k := xs.length) (l := ys.length) (A := A) (B := B) (ca := ca) (cb := cb) (Nat.le_trans m1.cap m1.max) (Nat.le_trans m2.cap m2.max)
      have e : (most : Int) < ((max xs.length ys.length : Nat) : Int) := by unfold Rf.sz at hfv; dsimp only at hfv; omega
      have lt0 := Kd c0
      clear m1 m2 hfv hfs hR
      generalize max xs.length ys.length = q at *
      generalize xs.length = k1 at *
      generalize ys.length = k2 at *
      go_wp2_with fail
      refine (HV.out _).mono ?_
      rintro e' w1 ⟨rfl, h1⟩
      have hb1 : Below wr.heap.size wr w1 := ((Below.refl _ _).alloc (Nat.le_refl _) _).trans (h1.mono (by simp))
      go_wp2
      go_ret
      exact ⟨by rw [hR2.out]; rfl, Kb hbq hb1⟩
    ·obtain rfl : k = fs.length := by omega
     rw [List.take_length] at hv
     have hR2 : Hid (chkZ most fs = 0) := by unfold Hid at hR hv ⊢; rw [hR, if_pos hv]
     clear hv hR
     go_wp2
     go_ret
     exact ⟨by rw [hR2.out]; rfl, hbq⟩
def Rf.ze (f : Rf) : List ZE := [⟨sg f.na (val f.xs), f.na, f.xs.length, f.xs, f.A, f.ca⟩, ⟨sg f.nb (val f.ys), f.nb, f.ys.length, f.ys, f.B, f.cb⟩]
def zl (fs : List Rf) : List ZE := fs.flatMap Rf.ze
structure Rf.mg (w : World) (f : Rf) : Prop where
 m1 : Mg w f.A f.ca f.xs
 m2 : Mg w f.B f.cb f.ys
theorem Rf.mg.below {w w' : World} {f : Rf} (h : f.mg w) (hb : Below w.heap.size w w') : f.mg w' := ⟨h.m1.below hb, h.m2.below hb⟩
theorem Ky (fs : List Rf) : (zl fs).length = 2 * fs.length := by
 induction fs with
 | nil => rfl
 | cons a l ih => simp [zl, Rf.ze] at ih ⊢; omega
theorem zl_app (a b : List Rf) : zl (a ++ b) = zl a ++ zl b := by simp [zl]
theorem zl_get : ∀ (fs : List Rf) (j : Nat) (h : j < fs.length), (zl fs)[2 * j]? = some ⟨sg fs[j].na (val fs[j].xs), fs[j].na, fs[j].xs.length, fs[j].xs, fs[j].A, fs[j].ca⟩ ∧ (zl fs)[2 * j + 1]? = some ⟨sg fs[j].nb (val fs[j].ys), fs[j].nb, fs[j].ys.length, fs[j].ys, fs[j].B, fs[j].cb⟩
 | a :: l, 0, _ => ⟨rfl, rfl⟩
 | a :: l, j + 1, h => zl_get l j (by simpa using h)
/-- an entry of an array in its box -/
theorem rf_at {w : World} {g : Nat} {fs : List Rf} (hr : w.rangeAt g 0 (Kc (zl fs))) (hm : ∀ f ∈ fs, f.mg w) (j : Nat) (hj : j < fs.length) : RfAt w g (j * 4) fs[j] := by
 have hl := Ky fs
 obtain ⟨g1, g2⟩ := zl_get fs j hj
 obtain ⟨p0, p1⟩ := Jm (zl fs) (2 * j) (by omega)
 obtain ⟨p2, p3⟩ := Jm (zl fs) (2 * j + 1) (by omega)
 rw [List.getElem?_eq_getElem (by omega)] at g1 g2
 rw [Option.some.inj g1] at p0 p1
 rw [Option.some.inj g2] at p2 p3
 have t0 := hr _ _ p0
 have t1 := hr _ _ p1
 have t2 := hr _ _ p2
 have t3 := hr _ _ p3
 rw [Nat.zero_add] at t0 t1 t2 t3
 rw [show 2 * j * 2 = j * 4 by omega] at t0 t1
 rw [show (2 * j + 1) * 2 = j * 4 + 2 by omega] at t2 t3
 have h := hm fs[j] (List.getElem_mem hj)
 exact ⟨t0, t1, t2, t3, h.m1, h.m2⟩
theorem Rf.v_parts {f : Rf} (h : f.v = true) : Jb f.na f.xs = true ∧ Jb f.nb f.ys = true ∧ f.nb = false ∧ f.ys ≠ [] ∧ Nat.gcd (val f.xs) (val f.ys) = 1 := by
 unfold Rf.v fvB at h
 simp only [Bool.and_eq_true, Bool.not_eq_true', decide_eq_true_eq] at h
 exact ⟨h.1.1.1.1, h.1.1.1.2, h.1.1.2, h.1.2, h.2⟩
theorem iz_of {b : Bool} {xs : List Nat} (ho : Ok xs) (h : Jb b xs = true) : Iz (sg b (val xs)) b xs.length xs := by
 obtain ⟨z, rfl, rfl, _⟩ := W7 ho h
 rw [Kl, Qa]
 exact ⟨rfl, rfl, rfl⟩
/-- a valid fraction's numbers -/
theorem Rf.good {w : World} {f : Rf} (h : f.v = true) (m : f.mg w) : (∀ e ∈ f.ze, e.ok w) ∧ f.ze.map (·.z) = [f.f.1, (f.f.2 : Int)] ∧ Nf f.f ∧ (limbs f.f.1.natAbs).length = f.xs.length ∧ (limbs f.f.2).length = f.ys.length := by
 obtain ⟨v1, v2, h3, h4, h5⟩ := Rf.v_parts h
 have i1 := iz_of m.m1.ok v1
 have i2 := iz_of m.m2.ok v2
 have e2 : sg f.nb (val f.ys) = (val f.ys : Int) := by rw [h3]; rfl
 refine ⟨?_, ?_, ⟨?_, ?_⟩, ?_, ?_⟩
 ·intro e he
  simp only [Rf.ze, List.mem_cons, List.not_mem_nil, or_false] at he
  rcases he with rfl | rfl
  ·exact ⟨i1, m.m1⟩
  ·exact ⟨i2, m.m2⟩
 ·simp only [Rf.ze, List.map_cons, List.map_nil, e2]; rfl
 ·show 0 < val f.ys
  obtain ⟨z, _, hz, _⟩ := W7 m.m2.ok v2
  rw [hz, Kl]
  rcases Nat.eq_zero_or_pos z.natAbs with h0 | h0
  ·rw [h0, Ko] at hz; exact absurd hz h4
  ·exact h0
 ·show Nat.gcd (sg f.na (val f.xs)).natAbs (val f.ys) = 1
  rw [Ja]; exact h5
 ·show (limbs (sg f.na (val f.xs)).natAbs).length = _
  rw [← i1.hx]
 ·show (limbs (val f.ys)).length = _
  have := i2.hx
  rw [e2, Int.natAbs_natCast] at this
  rw [← this]
theorem Ud (f : Rf) (fs : List Rf) : zl (f :: fs) = f.ze ++ zl fs := rfl
theorem Do (f : Int × Nat) (fs : List (Int × Nat)) : frZ (f :: fs) = [f.1, (f.2 : Int)] ++ frZ fs := rfl
/-- valid fractions' numbers -/
theorem Wy {w : World} : ∀ (fs : List Rf), (∀ f ∈ fs, f.v = true) → (∀ f ∈ fs, f.mg w) → (∀ e ∈ zl fs, e.ok w) ∧ (zl fs).map (·.z) = frZ (fs.map Rf.f)
 | [], _, _ => ⟨fun e he => by simp [zl] at he, rfl⟩
 | f :: fs, hv, hm => by
  obtain ⟨h1, h2⟩ := Wy fs (fun g hg => hv g (by simp [hg])) (fun g hg => hm g (by simp [hg]))
  obtain ⟨g1, g2, _⟩ := Rf.good (hv f (by simp)) (hm f (by simp))
  refine ⟨fun e he => ?_, ?_⟩
  ·rw [Ud] at he
   rcases List.mem_append.1 he with h | h
   ·exact g1 e h
   ·exact h1 e h
  ·rw [Ud, List.map_append, g2, h2, List.map_cons, Do]
theorem J8 {most : Nat} {fs : List Rf} (h : chkZ most fs = 0) : (∀ f ∈ fs, f.v = true) ∧ ∀ f ∈ fs, f.sz ≤ most := by
 unfold chkZ at h
 split at h
 ·rename_i h1
  split at h
  ·rename_i h2
   refine ⟨List.all_eq_true.1 h1, fun f hf => ?_⟩
   have := List.all_eq_true.1 h2 f hf
   simpa using this
  ·simp at h
 ·simp at h
theorem G7 {w : World} {most k : Nat} {fs : List Rf} (h : chkZ most fs = 0) (hk : 32 * most = k) (hm : ∀ f ∈ fs, f.mg w) : ∀ f ∈ fs.map Rf.f, (0 < f.2 ∧ Bz k f.1 ∧ f.2 < 2 ^ k) ∧ Nf f := by
 subst hk
 obtain ⟨h1, h2⟩ := J8 h
 intro f hf
 obtain ⟨r, hr, rfl⟩ := List.mem_map.1 hf
 obtain ⟨_, _, h3, h4, h5⟩ := Rf.good (h1 r hr) (hm r hr)
 have h6 := h2 r hr
 unfold Rf.sz at h6
 exact ⟨⟨h3.1, Bz.of_limbs (by omega), (Zy _ _).1 (by omega)⟩, h3⟩
/-- the normal form of a transformation, and whether it is valid -/
def nrmZ (fs : List Rf) : List Int := redZ (intZ (fs.map Rf.f))
def nrmB (fs : List Rf) : Bool := decide (chkZ 40 fs = 0) && le40 (nrmZ fs) && decide (detZ (nrmZ fs) ≠ 0)
/-- a matrix, if the truth value is true -/
def Hk (w : World) (b : Bool) (zs : List Int) (e : Ending) (w' : World) : Prop := ∃ l : List ZE, l.length = 9 ∧ e = .returned (.tuple #[.agg (Kc l).toArray, .bool b]) ∧ (b = true → l.map (·.z) = zs ∧ ∀ x ∈ l, x.ok w') ∧ Below w.heap.size w w'
theorem Hk.no {w W : World} {b : Bool} {zs : List Int} (hb : b = false) (h : Below w.heap.size w W) : Hk w b zs (.returned (.tuple #[.agg (Kc Kx).toArray, .bool false])) W := by
 subst hb
 exact ⟨Kx, rfl, rfl, fun h => by simp at h, h⟩
theorem Hk.yes {w W : World} {b : Bool} {zs : List Int} {l : List ZE} (hb : b = true) (hl : l.length = 9) (hz : l.map (·.z) = zs) (ho : ∀ e ∈ l, e.ok W) (h : Below w.heap.size w W) : Hk w b zs (.returned (.tuple #[.agg (Kc l).toArray, .bool true])) W := by
 subst hb
 exact ⟨l, hl, rfl, fun _ => ⟨hz, ho⟩, h⟩
theorem Dx {zs : List Int} (h : le40 zs = true) : ∀ z ∈ zs, Bz 1280 z := by
 unfold le40 at h
 intro z hz
 exact Bz.of_limbs (k := 40) (of_decide_eq_true h z hz)
theorem detZ_zero {zs : List Int} (hl : zs.length = 9) (h : ∀ z ∈ zs, z = 0) : detZ zs = 0 := by
 obtain ⟨a, b, c, d, e, f, g, i, j, rfl⟩ := nine zs hl
 rw [all9] at h
 obtain ⟨rfl, rfl, rfl, rfl, rfl, rfl, rfl, rfl, rfl⟩ := h
 rfl
end Go.Proofs.YtdkgbkbbbldliaaGreat
