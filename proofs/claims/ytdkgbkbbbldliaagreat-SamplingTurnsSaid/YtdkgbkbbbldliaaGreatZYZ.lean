/- Homographies: what functions answer at results of others. Conditions: none. -/
import Derived.Test.YtdkgbkbbbldliaaGreatZYH
import Derived.Test.YtdkgbkbbbldliaaGreatZYU
import Derived.Test.YtdkgbkbbbldliaaGreatZYW
import Derived.Test.YtdkgbkbbbldliaaGreatZHm20
import Derived.Test.YtdkgbkbbbldliaaGreatZHm22
import Derived.Test.YtdkgbkbbbldliaaGreatZYM2
set_option linter.unusedVariables false
set_option linter.unusedSimpArgs false
namespace Go.Proofs.YtdkgbkbbbldliaaGreat
open Go.RowKit Big
/-- the fractions that an array of integers holds -/
def toRf : List ZE → List Rf
 | e :: f :: l => ⟨e.b, e.A, e.xs, e.c, f.b, f.A, f.xs, f.c⟩ :: toRf l
 | _ => []
theorem ZE_self {w : World} {e : ZE} (h : e.ok w) : (⟨sg e.b (val e.xs), e.b, e.xs.length, e.xs, e.A, e.c⟩ : ZE) = e := by
 obtain ⟨⟨h1, h2, h3⟩, _⟩ := h
 obtain ⟨z, b, n, xs, A, c⟩ := e
 dsimp only at *
 have e1 : sg b (val xs) = z := by rw [h1, h2, Kl, Qa]
 rw [e1, ← h3]
theorem Wz {w : World} : ∀ (m : Nat) (l : List ZE), l.length = 2 * m → (∀ e ∈ l, e.ok w) → zl (toRf l) = l ∧ (toRf l).length = m ∧ (∀ f ∈ toRf l, f.mg w)
 | 0, l, hl, _ => by
  obtain rfl : l = [] := List.eq_nil_of_length_eq_zero (by omega)
  exact ⟨rfl, rfl, fun f hf => by simp [toRf] at hf⟩
 | m + 1, e :: f :: l, hl, ho => by
  obtain ⟨h1, h2, h3⟩ := Wz m l (by simp at hl; omega) (fun e he => ho e (by simp [he]))
  have e1 := ZE_self (ho e (by simp))
  have e2 := ZE_self (ho f (by simp))
  refine ⟨?_, by simp [toRf, h2], ?_⟩
  ·unfold toRf
   rw [Ud, h1]
   unfold Rf.ze
   dsimp only
   rw [e1, e2]
   rfl
  ·intro g hg
   unfold toRf at hg
   rcases List.mem_cons.1 hg with rfl | hg
   ·exact ⟨(ho e (by simp)).m, (ho f (by simp)).m⟩
   ·exact h3 g hg
 | m + 1, [], hl, _ => by simp at hl
 | m + 1, [_], hl, _ => by simp at hl; omega
theorem toRf_f {w : World} : ∀ (qs : List (Int × Nat)) (l : List ZE), l.map (·.z) = frZ qs → (∀ e ∈ l, e.ok w) → (toRf l).map Rf.f = qs ∧ ((∀ q ∈ qs, Vf q) → ∀ f ∈ toRf l, f.v = true)
 | [], l, h, _ => by
  obtain rfl : l = [] := by simpa [frZ] using h
  exact ⟨rfl, fun _ f hf => by simp [toRf] at hf⟩
 | q :: qs, l, h, ho => by
  rw [Do] at h
  match l, h, ho with
  | [], h, _ => simp at h
  | [_], h, _ => simp at h
  | e :: f :: l, h, ho =>
   simp only [List.map_cons, List.cons_append, List.nil_append, List.cons.injEq] at h
   obtain ⟨g1, g2, g3⟩ := h
   obtain ⟨h1, h2⟩ := toRf_f qs l g3 (fun e he => ho e (by simp [he]))
   have i1 := (ho e (by simp)).i
   have i2 := (ho f (by simp)).i
   rw [g1] at i1
   rw [g2] at i2
   have hy : f.xs = limbs q.2 := by rw [i2.hx, Int.natAbs_natCast]
   have hb : f.b = false := by rw [i2.hb]; simp
   have hfz : Fz q e.b e.n e.xs f.n f.xs := ⟨i1.hb, i1.hx, i1.hn, hy, i2.hn⟩
   refine ⟨?_, ?_⟩
   ·unfold toRf
    rw [List.map_cons, h1]
    unfold Rf.f
    dsimp only
    rw [hfz.pair]
   ·intro hv g hg
    unfold toRf at hg
    rcases List.mem_cons.1 hg with rfl | hg
    ·unfold Rf.v
     dsimp only
     rw [hb]
     exact hfz.valid (hv q (by simp))
    ·exact h2 (fun q hq => hv q (by simp [hq])) g hg
theorem homZ_fr (zs : List Int) : homZ zs = frZ (zs.map fun z => (z, 1)) := by
 induction zs with
 | nil => rfl
 | cons z zs ih =>
  rw [List.map_cons, Do, ← ih]
  rfl
theorem vf_int {z : Int} (h : fits z) : Vf (z, 1) := ⟨⟨by simp, by simp⟩, h, fits_w _ (by simp)⟩
/-- valid fractions with given numbers -/
structure RfG (fs : List Rf) (qs : List (Int × Nat)) : Prop where
 v : ∀ f ∈ fs, f.v = true
 q : fs.map Rf.f = qs
def szQ (q : Int × Nat) : Nat := max (limbs q.1.natAbs).length (limbs q.2).length
theorem RfG.sz {w : World} {fs : List Rf} {qs : List (Int × Nat)} (h : RfG fs qs) (m : ∀ f ∈ fs, f.mg w) : ∀ f ∈ fs, f.sz = szQ f.f := fun f hf => by
 obtain ⟨_, _, _, h4, h5⟩ := Rf.good (h.v f hf) (m f hf)
 unfold Rf.sz szQ
 rw [h4, h5]
theorem RfG.chk {w : World} {fs : List Rf} {qs : List (Int × Nat)} (h : RfG fs qs) (m : ∀ f ∈ fs, f.mg w) (k : Nat) : chkZ k fs = if qs.all (fun q => decide (szQ q ≤ k)) then 0 else 4 := by
 unfold chkZ
 rw [if_pos (List.all_eq_true.2 h.v)]
 have e : fs.all (fun f => decide (f.sz ≤ k)) = qs.all (fun q => decide (szQ q ≤ k)) := by
  rw [← h.q, List.all_map]
  rw [Bool.eq_iff_iff, List.all_eq_true, List.all_eq_true]
  constructor
  ·intro h1 f hf
   have := h1 f hf
   rw [h.sz m f hf] at this
   exact this
  ·intro h1 f hf
   rw [h.sz m f hf]
   exact h1 f hf
 rw [e]
theorem chk_app {k : Nat} {fs gs : List Rf} : chkZ k (fs ++ gs) = 0 ↔ chkZ k fs = 0 ∧ chkZ k gs = 0 := by
 constructor
 ·intro h
  obtain ⟨h1, h2⟩ := J8 h
  unfold chkZ
  constructor
  ·rw [if_pos (List.all_eq_true.2 fun f hf => h1 f (by simp [hf])), if_pos (List.all_eq_true.2 fun f hf => decide_eq_true (h2 f (by simp [hf])))]
  ·rw [if_pos (List.all_eq_true.2 fun f hf => h1 f (by simp [hf])), if_pos (List.all_eq_true.2 fun f hf => decide_eq_true (h2 f (by simp [hf])))]
 ·rintro ⟨h, h'⟩
  obtain ⟨h1, h2⟩ := J8 h
  obtain ⟨g1, g2⟩ := J8 h'
  unfold chkZ
  rw [if_pos (List.all_eq_true.2 fun f hf => (List.mem_append.1 hf).elim (h1 f) (g1 f)), if_pos (List.all_eq_true.2 fun f hf => decide_eq_true ((List.mem_append.1 hf).elim (h2 f) (g2 f)))]
theorem comZ_ints (zs : List Int) : comZ (zs.map fun z => (z, 1)) = 1 := by
 have : ∀ c, (zs.map fun z => (z, 1)).foldl (fun c (f : Int × Nat) => c * (f.2 / Nat.gcd c f.2)) c = c := by
  induction zs with
  | nil => intro c; rfl
  | cons z zs ih => intro c; simp only [List.map_cons, List.foldl_cons]; rw [ih]; simp
 exact this 1
theorem intZ_ints (zs : List Int) : intZ (zs.map fun z => (z, 1)) = zs := by
 unfold intZ
 rw [comZ_ints, List.map_map]
 conv => rhs; rw [← List.map_id zs]
 exact List.map_congr_left fun z _ => by simp
/-- a transformation of integers of at most 40 limbs -/
theorem hom_nrm {w : World} {fs : List Rf} {zs : List Int} (h : RfG fs (zs.map fun z => (z, 1))) (m : ∀ f ∈ fs, f.mg w) (h40 : le40 zs = true) : chkZ 40 fs = 0 ∧ nrmZ fs = redZ zs := by
 refine ⟨?_, ?_⟩
 ·rw [h.chk m, if_pos]
  rw [List.all_map, List.all_eq_true]
  intro z hz
  simp only [Function.comp, decide_eq_true_eq]
  unfold le40 at h40
  have := of_decide_eq_true h40 z hz
  unfold szQ
  have h1 : (limbs 1).length ≤ 1 := (K1 1 1).2 (by decide)
  dsimp only
  omega
 ·unfold nrmZ
  rw [h.q, intZ_ints]
theorem le40_fits {zs : List Int} (h : le40 zs = true) : ∀ z ∈ zs, fits z := fun z hz => (Dx h z hz).ft (by omega)
theorem nrmB_iff {fs : List Rf} (hc : chkZ 40 fs = 0) (h40 : le40 (nrmZ fs) = true) : nrmB fs = true ↔ detZ (nrmZ fs) ≠ 0 := by
 unfold nrmB
 rw [decide_eq_true hc, h40]
 simp
theorem Vg (zs : List Int) : (resZ zs = (homZ (redZ zs), 0) ∧ le40 (redZ zs) = true) ∨ (resZ zs = (List.replicate 18 0, 4) ∧ le40 (redZ zs) = false) := by
 unfold resZ
 cases h : le40 (redZ zs)
 ·exact Or.inr ⟨rfl, rfl⟩
 ·exact Or.inl ⟨rfl, rfl⟩
theorem D4 {zs ys : List Int} (h : Pr zs ys) : resZ zs = resZ ys := by
 unfold resZ
 rw [h.eq]
/-- what comes back as a transformation, as an argument -/
structure HomR (w : World) (fs : List Rf) (X : List Int) : Prop where
 h9 : fs.length = 9
 m : ∀ f ∈ fs, f.mg w
 c : chkZ 40 fs = 0
 n : nrmZ fs = redZ X
 b : nrmB fs = true ↔ detZ X ≠ 0
theorem HomR.below {w w' : World} {fs : List Rf} {X : List Int} (h : HomR w fs X) (hb : Below w.heap.size w w') : HomR w' fs X := ⟨h.h9, fun f hf => (h.m f hf).below hb, h.c, h.n, h.b⟩
theorem homR {w : World} {l : List ZE} {X : List Int} (h9 : X.length = 9) (h40 : le40 (redZ X) = true) (hz : l.map (·.z) = homZ (redZ X)) (ho : ∀ e ∈ l, e.ok w) : zl (toRf l) = l ∧ HomR w (toRf l) X := by
 have hr : (redZ X).length = 9 := by rw [Q4, h9]
 have hl : l.length = 2 * 9 := by rw [← List.length_map (·.z), hz, Yb, hr]
 obtain ⟨h1, h2, h3⟩ := Wz 9 l hl ho
 rw [homZ_fr] at hz
 obtain ⟨h4, h5⟩ := toRf_f _ l hz ho
 have hg : RfG (toRf l) ((redZ X).map fun z => (z, 1)) := ⟨h5 fun q hq => by
  obtain ⟨z, hz, rfl⟩ := List.mem_map.1 hq
  exact vf_int (le40_fits h40 z hz), h4⟩
 obtain ⟨h6, h7⟩ := hom_nrm hg h3 h40
 rw [redZ_red] at h7
 refine ⟨h1, h2, h3, h6, h7, ?_⟩
 rw [nrmB_iff h6 (by rw [h7]; exact h40), h7]
 have := (Pr.red X).det h9
 exact not_congr this.symm
/-- an argument that is valid -/
theorem Hu {w : World} {fs : List Rf} (h9 : fs.length = 9) (m : ∀ f ∈ fs, f.mg w) (h : nrmB fs = true) : HomR w fs (nrmZ fs) ∧ detZ (nrmZ fs) ≠ 0 ∧ redZ (nrmZ fs) = nrmZ fs ∧ le40 (nrmZ fs) = true := by
 have h0 := h
 unfold nrmB at h
 simp only [Bool.and_eq_true, decide_eq_true_eq] at h
 have e : redZ (nrmZ fs) = nrmZ fs := by unfold nrmZ; rw [redZ_red]
 exact ⟨⟨h9, m, h.1.1, e.symm, by rw [h0]; simp [h.2]⟩, h.2, e, h.1.2⟩
theorem newE_if {x y : Int} (h0 : y ≠ 0) : newE x y = lowE (if y < 0 then -x else x) y.natAbs := by
 unfold newE
 rw [if_neg h0]
 have e : sg (decide (x < 0) != decide (y < 0)) x.natAbs = if y < 0 then -x else x := by
  rcases Int.lt_or_le x 0 with h1 | h1 <;> rcases Int.lt_or_le y 0 with h2 | h2
  ·rw [decide_eq_true h1, decide_eq_true h2, if_pos h2]; simp [sg]; omega
  ·rw [decide_eq_true h1, decide_eq_false (by omega), if_neg (by omega)]; simp [sg]; omega
  ·rw [decide_eq_false (by omega), decide_eq_true h2, if_pos h2]; simp [sg]; omega
  ·rw [decide_eq_false (by omega), decide_eq_false (by omega), if_neg (by omega)]; simp [sg]; omega
 rw [e]
theorem if_abs {x y : Int} : (if y < 0 then -x else x) * y = x * (y.natAbs : Int) := by
 split
 ·rw [show (y.natAbs : Int) = -y by omega, Int.mul_neg, Int.neg_mul]
 ·rw [show (y.natAbs : Int) = y by omega]
theorem Gu {x y x' y' : Int} (h0 : y ≠ 0) (h0' : y' ≠ 0) (h : x * y' = x' * y) : newE x y = newE x' y' := by
 rw [newE_if h0, newE_if h0']
 unfold lowE
 rw [low_eq (n := if y < 0 then -x else x) (m := if y' < 0 then -x' else x') (d := y.natAbs) (e := y'.natAbs) (by omega) (by omega)]
 have e1 := if_abs (x := x) (y := y)
 have e2 := if_abs (x := x') (y := y')
 generalize (if y < 0 then -x else x) = a at *
 generalize (if y' < 0 then -x' else x') = b at *
 have h1 : (a * (y'.natAbs : Int)) * (y * y') = (b * (y.natAbs : Int)) * (y * y') := by
  have : (a * y) * (y' * (y'.natAbs : Int)) = (b * y') * (y * (y.natAbs : Int)) := by
   rw [e1, e2]
   have : (x * y') * ((y.natAbs : Int) * (y'.natAbs : Int)) = (x' * y) * ((y.natAbs : Int) * (y'.natAbs : Int)) := by rw [h]
   grind
  grind
 exact Int.eq_of_mul_eq_mul_right (Int.mul_ne_zero h0 h0') h1
theorem newE_cross {x y : Int} {f : Int × Nat} (h0 : y ≠ 0) (h : newE x y = (f, 0)) : f.1 * y = x * f.2 := by
 rw [newE_if h0] at h
 have h1 := low_cross (n := if y < 0 then -x else x) (d := y.natAbs) (by omega)
 have e1 := if_abs (x := x) (y := y)
 generalize (if y < 0 then -x else x) = a at *
 unfold lowE at h
 split at h
 ·rw [Prod.mk.injEq] at h
  rw [h.1] at h1
  have : (f.1 * y) * (y.natAbs : Int) = (x * (f.2 : Int)) * (y.natAbs : Int) := by
   have : (f.1 * (y.natAbs : Int)) * y = (a * (f.2 : Int)) * y := by rw [h1]
   grind
  exact Int.eq_of_mul_eq_mul_right (by omega) this
 ·simp at h
theorem newE_vf {f : Int × Nat} (h : Vf f) : newE f.1 (f.2 : Nat) = (f, 0) := newE_nf h.nf h.f1 h.f2
/-- a point out of its homogeneous coordinates -/
def ptE (v : List Int) : List Int × Int := match v with
 | [a, b, c] => if c = 0 then (List.replicate 4 0, 24) else (frZ [(newE a c).1, (newE b c).1], 0)
 | _ => (List.replicate 4 0, 0)
theorem Wj (a b c : Int) : ptE [a, b, c] = if c = 0 then (List.replicate 4 0, 24) else (frZ [(newE a c).1, (newE b c).1], 0) := rfl
theorem ptE_pr {v v' : List Int} (hv : v.length = 3) (h : Pr v v') : ptE v = ptE v' := by
 obtain ⟨x', y', z', rfl⟩ := Xc v' (h.len ▸ hv)
 obtain ⟨x, y, z, rfl⟩ := Xc v hv
 obtain ⟨k, k', h1, h2, e1, e2, e3⟩ := h.cells
 have hz : z = 0 ↔ z' = 0 := by
  constructor
  ·rintro rfl
   rw [Int.mul_zero] at e3
   exact (Int.mul_eq_zero.1 e3.symm).resolve_left h2
  ·rintro rfl
   rw [Int.mul_zero] at e3
   exact (Int.mul_eq_zero.1 e3).resolve_left h1
 rw [Wj, Wj]
 by_cases h0 : z = 0
 ·rw [if_pos h0, if_pos (hz.1 h0)]
 ·have h0' : z' ≠ 0 := fun h => h0 (hz.2 h)
  rw [if_neg h0, if_neg h0']
  have c1 : x * z' = x' * z := by
   have : (x * z') * (k * k') = (x' * z) * (k * k') := by
    have : (k * x) * (k' * z') = (k' * x') * (k * z) := by rw [e1, e3]
    grind
   exact Int.eq_of_mul_eq_mul_right (Int.mul_ne_zero h1 h2) this
  have c2 : y * z' = y' * z := by
   have : (y * z') * (k * k') = (y' * z) * (k * k') := by
    have : (k * y) * (k' * z') = (k' * y') * (k * z) := by rw [e2, e3]
    grind
   exact Int.eq_of_mul_eq_mul_right (Int.mul_ne_zero h1 h2) this
  rw [Gu h0 h0' c1, Gu h0 h0' c2]
theorem ptZ_len (f g : Int × Nat) : (ptZ f g).length = 3 := rfl
theorem ptE_cases (v : List Int) : (ptE v).2 = 0 ∨ (ptE v).2 = 24 := by
 unfold ptE
 split
 ·split
  ·exact Or.inr rfl
  ·exact Or.inl rfl
 ·exact Or.inl rfl
theorem rowZ_mv {m v : List Int} (hm : m.length = 9) (hv : v.length = 3) : mvZ m v = [rowZ m v 0, rowZ m v 1, rowZ m v 2] := by
 obtain ⟨a, b, c, d, e, f, g, h, i, rfl⟩ := nine m hm
 obtain ⟨x, y, z, rfl⟩ := Xc v hv
 rfl
theorem HomR.len {w : World} {fs : List Rf} {X : List Int} (h : HomR w fs X) : X.length = 9 := by
 rw [← Q4, ← h.n]; exact Jf h.h9
theorem HomR.pr {w : World} {fs : List Rf} {X : List Int} (h : HomR w fs X) : Pr (nrmZ fs) X := by rw [h.n]; exact (Pr.red X).symm
theorem HomR.one {w : World} {fs : List Rf} {X : List Int} (h : HomR w fs X) (h0 : detZ X ≠ 0) : oneE adjZ fs = resZ (adjZ X) ∧ oneE id fs = resZ X := by
 unfold oneE
 rw [if_pos (h.b.2 h0), if_pos (h.b.2 h0)]
 exact ⟨D4 (Pr.adj (Jf h.h9) h.pr), D4 h.pr⟩
theorem HomR.two {w w' : World} {fs gs : List Rf} {X Y : List Int} (h : HomR w fs X) (h' : HomR w' gs Y) (h0 : detZ X ≠ 0) (h0' : detZ Y ≠ 0) : twoE fs gs = resZ (mulZ X Y) := by
 unfold twoE
 rw [h.b.2 h0, h'.b.2 h0']
 simp only [Bool.and_self, if_true]
 exact D4 (Pr.mul (Jf h.h9) (Jf h'.h9) h.pr h'.pr)
theorem HomR.apl {w : World} {fs ps : List Rf} {X : List Int} (h : HomR w fs X) (h0 : detZ X ≠ 0) (hc : chkZ 40 ps = 0) {x y : Int × Nat} (hp : ps.map Rf.f = [x, y]) : aplE fs ps = ptE (mvZ X (ptZ x y)) := by
 unfold aplE
 rw [if_pos (h.b.2 h0), if_pos hc, hp]
 dsimp only
 rw [← ptE_pr (mvZ_len (Jf h.h9) (ptZ_len x y)) (Pr.mv (Jf h.h9) (ptZ_len x y) h.pr (Pr.refl _)), rowZ_mv (Jf h.h9) (ptZ_len x y)]
 rfl
/-- images of small points under small matrices are small enough -/
theorem mvZ_bz {k l : Nat} {m v : List Int} (hm : m.length = 9) (hv : v.length = 3) (h : ∀ x ∈ m, Bz k x) (h' : ∀ x ∈ v, Bz l x) : ∀ x ∈ mvZ m v, Bz (k + l + 2) x := by
 obtain ⟨a, b, c, d, e, f, g, p, i, rfl⟩ := nine m hm
 obtain ⟨x, y, z, rfl⟩ := Xc v hv
 obtain ⟨h1, h2, h3, h4, h5, h6, h7, h8, h9⟩ := all9.1 h
 have k1 := h' x (by simp)
 have k2 := h' y (by simp)
 have k3 := h' z (by simp)
 intro t ht
 simp only [mvZ, List.mem_cons, List.not_mem_nil, or_false] at ht
 rcases ht with rfl | rfl | rfl
 ·exact .dot h1 h2 h3 k1 k2 k3
 ·exact .dot h4 h5 h6 k1 k2 k3
 ·exact .dot h7 h8 h9 k1 k2 k3
/-! ### what composes -/
end Go.Proofs.YtdkgbkbbbldliaaGreat
