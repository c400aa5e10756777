/- Homographies: what functions answer at results of others. Conditions: none. -/
import Derived.Test.YtgnfobnkhjlbbaaZYH
import Derived.Test.YtgnfobnkhjlbbaaZYU
import Derived.Test.YtgnfobnkhjlbbaaZYV
import Derived.Test.YtgnfobnkhjlbbaaZHm16
import Derived.Test.YtgnfobnkhjlbbaaZHm20
import Derived.Test.YtgnfobnkhjlbbaaZHm22
import Derived.Test.YtgnfobnkhjlbbaaZYN
set_option linter.unusedVariables false
set_option linter.unusedSimpArgs false
namespace Go.Proofs.Ytgnfobnkhjlbbaa
open Go.RowKit Big

/-- the fractions that an array of integers holds -/
def toRf : List ZE → List Rf
  | e :: f :: l => ⟨e.b, e.A, e.xs, e.c, f.b, f.A, f.xs, f.c⟩ :: toRf l
  | _ => []
theorem ZE_self {w : World} {e : ZE} (h : e.ok w) : (⟨sg e.b (val e.xs), e.b, e.xs.length, e.xs, e.A, e.c⟩ : ZE) = e := by
  obtain ⟨⟨h1, h2, h3⟩, _⟩ := h
  obtain ⟨z, b, n, xs, A, c⟩ := e
  dsimp only at *
  have e1 : sg b (val xs) = z := by rw [h1, h2, val_limbs, sg_self]
  rw [e1, ← h3]
theorem toRf_zl {w : World} : ∀ (m : Nat) (l : List ZE), l.length = 2 * m → (∀ e ∈ l, e.ok w) → zl (toRf l) = l ∧ (toRf l).length = m ∧ (∀ f ∈ toRf l, f.mg w)
  | 0, l, hl, _ => by
    obtain rfl : l = [] := List.eq_nil_of_length_eq_zero (by omega)
    exact ⟨rfl, rfl, fun f hf => by simp [toRf] at hf⟩
  | m + 1, e :: f :: l, hl, ho => by
    obtain ⟨h1, h2, h3⟩ := toRf_zl m l (by simp at hl; omega) (fun e he => ho e (by simp [he]))
    have e1 := ZE_self (ho e (by simp))
    have e2 := ZE_self (ho f (by simp))
    refine ⟨?_, by simp [toRf, h2], ?_⟩
    · unfold toRf
      rw [zl_cons, h1]
      unfold Rf.ze
      dsimp only
      rw [e1, e2]
      rfl
    · intro g hg
      unfold toRf at hg
      rcases List.mem_cons.1 hg with rfl | hg
      · exact ⟨(ho e (by simp)).m, (ho f (by simp)).m⟩
      · exact h3 g hg
  | m + 1, [], hl, _ => by simp at hl
  | m + 1, [_], hl, _ => by simp at hl; omega
theorem toRf_f {w : World} : ∀ (qs : List (Int × Nat)) (l : List ZE), l.map (·.z) = frZ qs → (∀ e ∈ l, e.ok w) → (toRf l).map Rf.f = qs ∧ ((∀ q ∈ qs, Vf q) → ∀ f ∈ toRf l, f.v = true)
  | [], l, h, _ => by
    obtain rfl : l = [] := by simpa [frZ] using h
    exact ⟨rfl, fun _ f hf => by simp [toRf] at hf⟩
  | q :: qs, l, h, ho => by
    rw [frZ_cons] at h
    match l, h, ho with
    | [], h, _ => simp at h
    | [_], h, _ => simp at h
    | e :: f :: l, h, ho =>
      simp only [List.map_cons, List.cons_append, List.nil_append, List.cons.injEq] at h
      obtain ⟨g1, g2, g3⟩ := h
      obtain ⟨h1, h2⟩ := toRf_f qs l g3 (fun e he => ho e (by simp [he]))
      have i1 := (ho e (by simp)).i
      have i2 := (ho f (by simp)).i
      rw [g1] at i1
      rw [g2] at i2
      have hy : f.xs = limbs q.2 := by rw [i2.hx, Int.natAbs_natCast]
      have hb : f.b = false := by rw [i2.hb]; simp
      have hfz : Fz q e.b e.n e.xs f.n f.xs := ⟨i1.hb, i1.hx, i1.hn, hy, i2.hn⟩
      refine ⟨?_, ?_⟩
      · unfold toRf
        rw [List.map_cons, h1]
        unfold Rf.f
        dsimp only
        rw [hfz.pair]
      · intro hv g hg
        unfold toRf at hg
        rcases List.mem_cons.1 hg with rfl | hg
        · unfold Rf.v
          dsimp only
          rw [hb]
          exact hfz.valid (hv q (by simp))
        · exact h2 (fun q hq => hv q (by simp [hq])) g hg
theorem homZ_fr (zs : List Int) : homZ zs = frZ (zs.map fun z => (z, 1)) := by
  induction zs with
  | nil => rfl
  | cons z zs ih =>
    rw [List.map_cons, frZ_cons, ← ih]
    rfl
theorem vf_int {z : Int} (h : fits z) : Vf (z, 1) := ⟨⟨by simp, by simp⟩, h, fits_w _ (by simp)⟩
/-- valid fractions with given numbers -/
structure RfG (fs : List Rf) (qs : List (Int × Nat)) : Prop where
  v : ∀ f ∈ fs, f.v = true
  q : fs.map Rf.f = qs
def szQ (q : Int × Nat) : Nat := max (limbs q.1.natAbs).length (limbs q.2).length
theorem RfG.sz {w : World} {fs : List Rf} {qs : List (Int × Nat)} (h : RfG fs qs) (m : ∀ f ∈ fs, f.mg w) : ∀ f ∈ fs, f.sz = szQ f.f := fun f hf => by
  obtain ⟨_, _, _, h4, h5⟩ := Rf.good (h.v f hf) (m f hf)
  unfold Rf.sz szQ
  rw [h4, h5]
theorem RfG.chk {w : World} {fs : List Rf} {qs : List (Int × Nat)} (h : RfG fs qs) (m : ∀ f ∈ fs, f.mg w) (k : Nat) : chkZ k fs = if qs.all (fun q => decide (szQ q ≤ k)) then 0 else 4 := by
  unfold chkZ
  rw [if_pos (List.all_eq_true.2 h.v)]
  have e : fs.all (fun f => decide (f.sz ≤ k)) = qs.all (fun q => decide (szQ q ≤ k)) := by
    rw [← h.q, List.all_map]
    rw [Bool.eq_iff_iff, List.all_eq_true, List.all_eq_true]
    constructor
    · intro h1 f hf
      have := h1 f hf
      rw [h.sz m f hf] at this
      exact this
    · intro h1 f hf
      rw [h.sz m f hf]
      exact h1 f hf
  rw [e]
theorem chk_good {fs : List Rf} {k : Nat} (h : chkZ k fs = 0) : RfG fs (fs.map Rf.f) := ⟨(chk_parts h).1, rfl⟩
theorem chk_not1 {fs : List Rf} {k : Nat} (h : ∀ f ∈ fs, f.v = true) : chkZ k fs ≠ 1 := by
  unfold chkZ
  rw [if_pos (List.all_eq_true.2 h)]
  split <;> decide
theorem chk_cases (k : Nat) (fs : List Rf) : chkZ k fs = 0 ∨ chkZ k fs = 1 ∨ chkZ k fs = 4 := by
  unfold chkZ
  split
  · split
    · exact Or.inl rfl
    · exact Or.inr (Or.inr rfl)
  · exact Or.inr (Or.inl rfl)
theorem chk_le {k l : Nat} {fs : List Rf} (h : chkZ k fs = 0) (hk : k ≤ l) : chkZ l fs = 0 := by
  obtain ⟨h1, h2⟩ := chk_parts h
  unfold chkZ
  rw [if_pos (List.all_eq_true.2 h1), if_pos (List.all_eq_true.2 fun f hf => decide_eq_true (Nat.le_trans (h2 f hf) hk))]
theorem chk_app {k : Nat} {fs gs : List Rf} : chkZ k (fs ++ gs) = 0 ↔ chkZ k fs = 0 ∧ chkZ k gs = 0 := by
  constructor
  · intro h
    obtain ⟨h1, h2⟩ := chk_parts h
    unfold chkZ
    constructor
    · rw [if_pos (List.all_eq_true.2 fun f hf => h1 f (by simp [hf])), if_pos (List.all_eq_true.2 fun f hf => decide_eq_true (h2 f (by simp [hf])))]
    · rw [if_pos (List.all_eq_true.2 fun f hf => h1 f (by simp [hf])), if_pos (List.all_eq_true.2 fun f hf => decide_eq_true (h2 f (by simp [hf])))]
  · rintro ⟨h, h'⟩
    obtain ⟨h1, h2⟩ := chk_parts h
    obtain ⟨g1, g2⟩ := chk_parts h'
    unfold chkZ
    rw [if_pos (List.all_eq_true.2 fun f hf => (List.mem_append.1 hf).elim (h1 f) (g1 f)), if_pos (List.all_eq_true.2 fun f hf => decide_eq_true ((List.mem_append.1 hf).elim (h2 f) (g2 f)))]
theorem comZ_ints (zs : List Int) : comZ (zs.map fun z => (z, 1)) = 1 := by
  have : ∀ c, (zs.map fun z => (z, 1)).foldl (fun c (f : Int × Nat) => c * (f.2 / Nat.gcd c f.2)) c = c := by
    induction zs with
    | nil => intro c; rfl
    | cons z zs ih => intro c; simp only [List.map_cons, List.foldl_cons]; rw [ih]; simp
  exact this 1
theorem intZ_ints (zs : List Int) : intZ (zs.map fun z => (z, 1)) = zs := by
  unfold intZ
  rw [comZ_ints, List.map_map]
  conv => rhs; rw [← List.map_id zs]
  exact List.map_congr_left fun z _ => by simp
/-- a transformation of integers of at most 40 limbs -/
theorem hom_nrm {w : World} {fs : List Rf} {zs : List Int} (h : RfG fs (zs.map fun z => (z, 1))) (m : ∀ f ∈ fs, f.mg w) (h40 : le40 zs = true) : chkZ 40 fs = 0 ∧ nrmZ fs = redZ zs := by
  refine ⟨?_, ?_⟩
  · rw [h.chk m, if_pos]
    rw [List.all_map, List.all_eq_true]
    intro z hz
    simp only [Function.comp, decide_eq_true_eq]
    unfold le40 at h40
    have := of_decide_eq_true h40 z hz
    unfold szQ
    have h1 : (limbs 1).length ≤ 1 := (limbs_len_iff 1 1).2 (by decide)
    dsimp only
    omega
  · unfold nrmZ
    rw [h.q, intZ_ints]
theorem le40_red {zs : List Int} (h : le40 zs = true) : le40 (redZ zs) = true := by
  have h1 := redZ_bz (k := 1280) (le40_bz h)
  unfold le40
  rw [decide_eq_true_eq]
  intro z hz
  exact limbs_lt40 (h1 z hz) (by omega)
theorem le40_fits {zs : List Int} (h : le40 zs = true) : ∀ z ∈ zs, fits z := fun z hz => (le40_bz h z hz).ft (by omega)
theorem nrmB_iff {fs : List Rf} (hc : chkZ 40 fs = 0) (h40 : le40 (nrmZ fs) = true) : nrmB fs = true ↔ detZ (nrmZ fs) ≠ 0 := by
  unfold nrmB
  rw [decide_eq_true hc, h40]
  simp
theorem resZ_cases (zs : List Int) : (resZ zs = (homZ (redZ zs), 0) ∧ le40 (redZ zs) = true) ∨ (resZ zs = (List.replicate 18 0, 4) ∧ le40 (redZ zs) = false) := by
  unfold resZ
  cases h : le40 (redZ zs)
  · exact Or.inr ⟨rfl, rfl⟩
  · exact Or.inl ⟨rfl, rfl⟩
theorem resZ_pr {zs ys : List Int} (h : Pr zs ys) : resZ zs = resZ ys := by
  unfold resZ
  rw [h.eq]
/-- what comes back as a transformation, as an argument -/
structure HomR (w : World) (fs : List Rf) (X : List Int) : Prop where
  h9 : fs.length = 9
  m : ∀ f ∈ fs, f.mg w
  c : chkZ 40 fs = 0
  n : nrmZ fs = redZ X
  b : nrmB fs = true ↔ detZ X ≠ 0
theorem HomR.below {w w' : World} {fs : List Rf} {X : List Int} (h : HomR w fs X) (hb : Below w.heap.size w w') : HomR w' fs X := ⟨h.h9, fun f hf => (h.m f hf).below hb, h.c, h.n, h.b⟩
theorem homR {w : World} {l : List ZE} {X : List Int} (h9 : X.length = 9) (h40 : le40 (redZ X) = true) (hz : l.map (·.z) = homZ (redZ X)) (ho : ∀ e ∈ l, e.ok w) : zl (toRf l) = l ∧ HomR w (toRf l) X := by
  have hr : (redZ X).length = 9 := by rw [redZ_len, h9]
  have hl : l.length = 2 * 9 := by rw [← List.length_map (·.z), hz, homZ_len, hr]
  obtain ⟨h1, h2, h3⟩ := toRf_zl 9 l hl ho
  rw [homZ_fr] at hz
  obtain ⟨h4, h5⟩ := toRf_f _ l hz ho
  have hg : RfG (toRf l) ((redZ X).map fun z => (z, 1)) := ⟨h5 fun q hq => by
    obtain ⟨z, hz, rfl⟩ := List.mem_map.1 hq
    exact vf_int (le40_fits h40 z hz), h4⟩
  obtain ⟨h6, h7⟩ := hom_nrm hg h3 h40
  rw [redZ_red] at h7
  refine ⟨h1, h2, h3, h6, h7, ?_⟩
  rw [nrmB_iff h6 (by rw [h7]; exact h40), h7]
  have := (Pr.red X).det h9
  exact not_congr this.symm
/-- an argument that is valid -/
theorem nrm_homR {w : World} {fs : List Rf} (h9 : fs.length = 9) (m : ∀ f ∈ fs, f.mg w) (h : nrmB fs = true) : HomR w fs (nrmZ fs) ∧ detZ (nrmZ fs) ≠ 0 ∧ redZ (nrmZ fs) = nrmZ fs ∧ le40 (nrmZ fs) = true := by
  have h0 := h
  unfold nrmB at h
  simp only [Bool.and_eq_true, decide_eq_true_eq] at h
  have e : redZ (nrmZ fs) = nrmZ fs := by unfold nrmZ; rw [redZ_red]
  exact ⟨⟨h9, m, h.1.1, e.symm, by rw [h0]; simp [h.2]⟩, h.2, e, h.1.2⟩
end Go.Proofs.Ytgnfobnkhjlbbaa
/- Homographies: what functions answer, up to a factor; the facts of the laws. Conditions: none. -/
set_option linter.unusedVariables false
set_option linter.unusedSimpArgs false
namespace Go.Proofs.Ytgnfobnkhjlbbaa
open Go.RowKit Big

theorem newE_if {x y : Int} (h0 : y ≠ 0) : newE x y = lowE (if y < 0 then -x else x) y.natAbs := by
  unfold newE
  rw [if_neg h0]
  have e : sg (decide (x < 0) != decide (y < 0)) x.natAbs = if y < 0 then -x else x := by
    rcases Int.lt_or_le x 0 with h1 | h1 <;> rcases Int.lt_or_le y 0 with h2 | h2
    · rw [decide_eq_true h1, decide_eq_true h2, if_pos h2]; simp [sg]; omega
    · rw [decide_eq_true h1, decide_eq_false (by omega), if_neg (by omega)]; simp [sg]; omega
    · rw [decide_eq_false (by omega), decide_eq_true h2, if_pos h2]; simp [sg]; omega
    · rw [decide_eq_false (by omega), decide_eq_false (by omega), if_neg (by omega)]; simp [sg]; omega
  rw [e]
theorem if_abs {x y : Int} : (if y < 0 then -x else x) * y = x * (y.natAbs : Int) := by
  split
  · rw [show (y.natAbs : Int) = -y by omega, Int.mul_neg, Int.neg_mul]
  · rw [show (y.natAbs : Int) = y by omega]
theorem newE_scale {x y x' y' : Int} (h0 : y ≠ 0) (h0' : y' ≠ 0) (h : x * y' = x' * y) : newE x y = newE x' y' := by
  rw [newE_if h0, newE_if h0']
  unfold lowE
  rw [low_eq (n := if y < 0 then -x else x) (m := if y' < 0 then -x' else x') (d := y.natAbs) (e := y'.natAbs) (by omega) (by omega)]
  have e1 := if_abs (x := x) (y := y)
  have e2 := if_abs (x := x') (y := y')
  generalize (if y < 0 then -x else x) = a at *
  generalize (if y' < 0 then -x' else x') = b at *
  have h1 : (a * (y'.natAbs : Int)) * (y * y') = (b * (y.natAbs : Int)) * (y * y') := by
    have : (a * y) * (y' * (y'.natAbs : Int)) = (b * y') * (y * (y.natAbs : Int)) := by
      rw [e1, e2]
      have : (x * y') * ((y.natAbs : Int) * (y'.natAbs : Int)) = (x' * y) * ((y.natAbs : Int) * (y'.natAbs : Int)) := by rw [h]
      grind
    grind
  exact Int.eq_of_mul_eq_mul_right (Int.mul_ne_zero h0 h0') h1
theorem newE_cross {x y : Int} {f : Int × Nat} (h0 : y ≠ 0) (h : newE x y = (f, 0)) : f.1 * y = x * f.2 := by
  rw [newE_if h0] at h
  have h1 := low_cross (n := if y < 0 then -x else x) (d := y.natAbs) (by omega)
  have e1 := if_abs (x := x) (y := y)
  generalize (if y < 0 then -x else x) = a at *
  unfold lowE at h
  split at h
  · rw [Prod.mk.injEq] at h
    rw [h.1] at h1
    have : (f.1 * y) * (y.natAbs : Int) = (x * (f.2 : Int)) * (y.natAbs : Int) := by
      have : (f.1 * (y.natAbs : Int)) * y = (a * (f.2 : Int)) * y := by rw [h1]
      grind
    exact Int.eq_of_mul_eq_mul_right (by omega) this
  · simp at h
theorem newE_vf {f : Int × Nat} (h : Vf f) : newE f.1 (f.2 : Nat) = (f, 0) := newE_nf h.nf h.f1 h.f2
/-- a point out of its homogeneous coordinates -/
def ptE (v : List Int) : List Int × Int := match v with
  | [a, b, c] => if c = 0 then (List.replicate 4 0, 24) else (frZ [(newE a c).1, (newE b c).1], 0)
  | _ => (List.replicate 4 0, 0)
theorem ptE_three (a b c : Int) : ptE [a, b, c] = if c = 0 then (List.replicate 4 0, 24) else (frZ [(newE a c).1, (newE b c).1], 0) := rfl
theorem ptE_pr {v v' : List Int} (hv : v.length = 3) (h : Pr v v') : ptE v = ptE v' := by
  obtain ⟨x', y', z', rfl⟩ := three3 v' (h.len ▸ hv)
  obtain ⟨x, y, z, rfl⟩ := three3 v hv
  obtain ⟨k, k', h1, h2, e1, e2, e3⟩ := h.cells
  have hz : z = 0 ↔ z' = 0 := by
    constructor
    · rintro rfl
      rw [Int.mul_zero] at e3
      exact (Int.mul_eq_zero.1 e3.symm).resolve_left h2
    · rintro rfl
      rw [Int.mul_zero] at e3
      exact (Int.mul_eq_zero.1 e3).resolve_left h1
  rw [ptE_three, ptE_three]
  by_cases h0 : z = 0
  · rw [if_pos h0, if_pos (hz.1 h0)]
  · have h0' : z' ≠ 0 := fun h => h0 (hz.2 h)
    rw [if_neg h0, if_neg h0']
    have c1 : x * z' = x' * z := by
      have : (x * z') * (k * k') = (x' * z) * (k * k') := by
        have : (k * x) * (k' * z') = (k' * x') * (k * z) := by rw [e1, e3]
        grind
      exact Int.eq_of_mul_eq_mul_right (Int.mul_ne_zero h1 h2) this
    have c2 : y * z' = y' * z := by
      have : (y * z') * (k * k') = (y' * z) * (k * k') := by
        have : (k * y) * (k' * z') = (k' * y') * (k * z) := by rw [e2, e3]
        grind
      exact Int.eq_of_mul_eq_mul_right (Int.mul_ne_zero h1 h2) this
    rw [newE_scale h0 h0' c1, newE_scale h0 h0' c2]
theorem ptZ_len (f g : Int × Nat) : (ptZ f g).length = 3 := rfl
/-- a point's own coordinates come back -/
theorem ptE_pt {f g : Int × Nat} (hf : Vf f) (hg : Vf g) : ptE (ptZ f g) = (frZ [f, g], 0) := by
  have h1 := hf.nf.1
  have h2 := hg.nf.1
  have h3 : (f.2 : Int) * g.2 ≠ 0 := Int.mul_ne_zero (by omega) (by omega)
  unfold ptZ
  rw [ptE_three, if_neg h3]
  rw [newE_scale (x' := f.1) (y' := (f.2 : Int)) h3 (by omega) (by grind), newE_scale (x := g.1 * f.2) (x' := g.1) (y' := (g.2 : Int)) h3 (by omega) (by grind), newE_vf hf, newE_vf hg]
/-- the image's coordinates stand for the vector -/
theorem ptE_ok {k : Nat} {v : List Int} (hv : v.length = 3) (hb : ∀ z ∈ v, Bz k z) (hk : k ≤ 16384) {l : List Int} (h : ptE v = (l, 0)) : ∃ f g, l = frZ [f, g] ∧ Vf f ∧ Vf g ∧ Pr v (ptZ f g) := by
  obtain ⟨x, y, z, rfl⟩ := three3 v hv
  rw [ptE_three] at h
  by_cases h0 : z = 0
  · subst h0
    simp at h
  · rw [if_neg h0, Prod.mk.injEq] at h
    have b1 := newE_bz (hb x (by simp)) (hb z (by simp)) h0 hk
    have b2 := newE_bz (hb y (by simp)) (hb z (by simp)) h0 hk
    have e1 : newE x z = ((newE x z).1, 0) := Prod.ext rfl b1.1
    have e2 : newE y z = ((newE y z).1, 0) := Prod.ext rfl b2.1
    have c1 := newE_cross h0 e1
    have c2 := newE_cross h0 e2
    refine ⟨_, _, h.1.symm, Vf.of_new e1, Vf.of_new e2, ?_⟩
    have p1 := (Vf.of_new e1).nf.1
    have p2 := (Vf.of_new e2).nf.1
    generalize (newE x z).1 = f at *
    generalize (newE y z).1 = g at *
    refine ⟨(f.2 : Int) * g.2, z, Int.mul_ne_zero (by omega) (by omega), h0, ?_⟩
    simp only [ptZ, List.map_cons, List.map_nil, List.cons.injEq, and_true]
    refine ⟨?_, ?_, ?_⟩ <;> grind
theorem ptE_cases (v : List Int) : (ptE v).2 = 0 ∨ (ptE v).2 = 24 := by
  unfold ptE
  split
  · split
    · exact Or.inr rfl
    · exact Or.inl rfl
  · exact Or.inl rfl
theorem rowZ_mv {m v : List Int} (hm : m.length = 9) (hv : v.length = 3) : mvZ m v = [rowZ m v 0, rowZ m v 1, rowZ m v 2] := by
  obtain ⟨a, b, c, d, e, f, g, h, i, rfl⟩ := nine m hm
  obtain ⟨x, y, z, rfl⟩ := three3 v hv
  rfl
theorem HomR.len {w : World} {fs : List Rf} {X : List Int} (h : HomR w fs X) : X.length = 9 := by
  rw [← redZ_len, ← h.n]; exact nrmZ_len h.h9
theorem HomR.pr {w : World} {fs : List Rf} {X : List Int} (h : HomR w fs X) : Pr (nrmZ fs) X := by rw [h.n]; exact (Pr.red X).symm
theorem HomR.one {w : World} {fs : List Rf} {X : List Int} (h : HomR w fs X) (h0 : detZ X ≠ 0) : oneE adjZ fs = resZ (adjZ X) ∧ oneE id fs = resZ X := by
  unfold oneE
  rw [if_pos (h.b.2 h0), if_pos (h.b.2 h0)]
  exact ⟨resZ_pr (Pr.adj (nrmZ_len h.h9) h.pr), resZ_pr h.pr⟩
theorem HomR.two {w w' : World} {fs gs : List Rf} {X Y : List Int} (h : HomR w fs X) (h' : HomR w' gs Y) (h0 : detZ X ≠ 0) (h0' : detZ Y ≠ 0) : twoE fs gs = resZ (mulZ X Y) := by
  unfold twoE
  rw [h.b.2 h0, h'.b.2 h0']
  simp only [Bool.and_self, if_true]
  exact resZ_pr (Pr.mul (nrmZ_len h.h9) (nrmZ_len h'.h9) h.pr h'.pr)
theorem HomR.eqb {w w' : World} {fs gs : List Rf} {X Y : List Int} (h : HomR w fs X) (h' : HomR w' gs Y) (h0 : detZ X ≠ 0) (h0' : detZ Y ≠ 0) (hp : Pr X Y) : eqB fs gs = true := by
  unfold eqB
  rw [h.b.2 h0, h'.b.2 h0', h.n, h'.n, hp.eq, decide_eq_true rfl]
  rfl
theorem HomR.apl {w : World} {fs ps : List Rf} {X : List Int} (h : HomR w fs X) (h0 : detZ X ≠ 0) (hc : chkZ 40 ps = 0) {x y : Int × Nat} (hp : ps.map Rf.f = [x, y]) : aplE fs ps = ptE (mvZ X (ptZ x y)) := by
  unfold aplE
  rw [if_pos (h.b.2 h0), if_pos hc, hp]
  dsimp only
  rw [← ptE_pr (mvZ_len (nrmZ_len h.h9) (ptZ_len x y)) (Pr.mv (nrmZ_len h.h9) (ptZ_len x y) h.pr (Pr.refl _)), rowZ_mv (nrmZ_len h.h9) (ptZ_len x y)]
  rfl
theorem aplE_err {fs ps : List Rf} (h2 : ps.length = 2) : (aplE fs ps).2 = 0 ∨ (aplE fs ps).2 = 1 ∨ (aplE fs ps).2 = 4 ∨ (aplE fs ps).2 = 24 := by
  unfold aplE
  split
  · split
    · split
      · split
        · exact Or.inr (Or.inr (Or.inr rfl))
        · exact Or.inl rfl
      · exact Or.inl rfl
    · rcases chk_cases 40 ps with h | h | h
      · exact Or.inl h
      · exact Or.inr (Or.inl h)
      · exact Or.inr (Or.inr (Or.inl h))
  · exact Or.inr (Or.inl rfl)
theorem aplE_zero {fs ps : List Rf} (h2 : ps.length = 2) (h : (aplE fs ps).2 = 0) : nrmB fs = true ∧ chkZ 40 ps = 0 ∧ ∃ x y, ps.map Rf.f = [x, y] := by
  have hx : ∃ x y, ps.map Rf.f = [x, y] := by
    obtain ⟨a, b, rfl⟩ := two_of h2
    exact ⟨_, _, rfl⟩
  unfold aplE at h
  split at h
  · rename_i h1
    split at h
    · rename_i h3
      exact ⟨h1, h3, hx⟩
    · rename_i h3
      exact absurd h h3
  · simp at h
/-- images of small points under small matrices are small enough -/
theorem mvZ_bz {k l : Nat} {m v : List Int} (hm : m.length = 9) (hv : v.length = 3) (h : ∀ x ∈ m, Bz k x) (h' : ∀ x ∈ v, Bz l x) : ∀ x ∈ mvZ m v, Bz (k + l + 2) x := by
  obtain ⟨a, b, c, d, e, f, g, p, i, rfl⟩ := nine m hm
  obtain ⟨x, y, z, rfl⟩ := three3 v hv
  obtain ⟨h1, h2, h3, h4, h5, h6, h7, h8, h9⟩ := all9.1 h
  have k1 := h' x (by simp)
  have k2 := h' y (by simp)
  have k3 := h' z (by simp)
  intro t ht
  simp only [mvZ, List.mem_cons, List.not_mem_nil, or_false] at ht
  rcases ht with rfl | rfl | rfl
  · exact .dot h1 h2 h3 k1 k2 k3
  · exact .dot h4 h5 h6 k1 k2 k3
  · exact .dot h7 h8 h9 k1 k2 k3
/-- what Apply answers stands for the image -/
theorem apl_image {w : World} {fs ps : List Rf} (h9 : fs.length = 9) (h2 : ps.length = 2) (m : ∀ f ∈ ps, f.mg w) {l : List Int} (h : aplE fs ps = (l, 0)) :
    ∃ x y f g, ps.map Rf.f = [x, y] ∧ l = frZ [f, g] ∧ Vf f ∧ Vf g ∧ Pr (mvZ (nrmZ fs) (ptZ x y)) (ptZ f g) ∧ chkZ 40 ps = 0 ∧ nrmB fs = true := by
  obtain ⟨hb, hc, x, y, hxy⟩ := aplE_zero h2 (by rw [h])
  have hl := nrmZ_len h9
  have hm : ∀ f ∈ fs, f.mg w → True := fun _ _ _ => trivial
  obtain ⟨b1, b2⟩ := nrmB_bz hb
  have hbz := chk_bz (k := 1280) hc (by omega) m
  rw [hxy] at hbz
  have p1 := (hbz x (by simp)).1
  have p2 := (hbz y (by simp)).1
  have e : aplE fs ps = ptE (mvZ (nrmZ fs) (ptZ x y)) := by
    unfold aplE
    rw [if_pos hb, if_pos hc, hxy]
    dsimp only
    rw [rowZ_mv hl (ptZ_len x y)]
    rfl
  rw [e] at h
  obtain ⟨f, g, q1, q2, q3, q4⟩ := ptE_ok (mvZ_len hl (ptZ_len x y)) (mvZ_bz (k := 1280) (l := 2 * 1280) hl (ptZ_len x y) b1 (ptZ_bz p1.2.1 p1.2.2 p2.2.1 p2.2.2)) (by omega) h
  exact ⟨x, y, f, g, hxy, q1, q2, q3, q4, hc, hb⟩
/-! ### what composes -/
theorem redZ_id9 : redZ id9 = id9 := by decide
theorem le40_id9 : le40 id9 = true := by
  unfold le40
  rw [decide_eq_true_eq]
  intro z hz
  refine limbs_lt40 (k := 1) ?_ (by omega)
  simp only [id9, List.mem_cons, List.not_mem_nil, or_false] at hz
  rcases hz with rfl | rfl | rfl | rfl | rfl | rfl | rfl | rfl | rfl <;> decide
theorem resZ_id9 : resZ id9 = (homZ id9, 0) := by
  unfold resZ
  rw [redZ_id9, if_pos le40_id9]
theorem detZ_id9 : detZ id9 ≠ 0 := by decide
theorem grp_inv {w w' : World} {fs gs : List Rf} {X : List Int} (h : HomR w fs X) (h' : HomR w' gs (adjZ X)) (h0 : detZ X ≠ 0) : twoE fs gs = (homZ id9, 0) ∧ twoE gs fs = (homZ id9, 0) := by
  have h1 : detZ (adjZ X) ≠ 0 := by rw [detZ_adj h.len]; exact Int.mul_ne_zero h0 h0
  have hi := Pr.inv h.len h0
  rw [h.two h' h0 h1, h'.two h h1 h0, ← resZ_id9]
  exact ⟨resZ_pr hi.1, resZ_pr hi.2⟩
theorem grp_one {w w' : World} {fs gs : List Rf} {X : List Int} (h : HomR w fs X) (h' : HomR w' gs id9) (h0 : detZ X ≠ 0) : twoE fs gs = resZ X := by
  rw [h.two h' h0 detZ_id9, show id9 = one9 from rfl, mulZ_one h.len]
theorem grp_assoc {w1 w2 w3 w4 w5 : World} {fs gs hs ab bc : List Rf} {X Y Z : List Int} (hf : HomR w1 fs X) (hg : HomR w2 gs Y) (hh : HomR w3 hs Z) (h1 : HomR w4 ab (mulZ X Y)) (h2 : HomR w5 bc (mulZ Y Z)) (x0 : detZ X ≠ 0) (y0 : detZ Y ≠ 0) (z0 : detZ Z ≠ 0) : twoE ab hs = twoE fs bc := by
  have a0 : detZ (mulZ X Y) ≠ 0 := by rw [detZ_mul hf.len hg.len]; exact Int.mul_ne_zero x0 y0
  have b0 : detZ (mulZ Y Z) ≠ 0 := by rw [detZ_mul hg.len hh.len]; exact Int.mul_ne_zero y0 z0
  rw [h1.two hh a0 z0, hf.two h2 x0 b0, mulZ_assoc hf.len hg.len hh.len]
theorem grp_apply {w1 w2 w3 w4 w5 : World} {fs gs ab ps qs : List Rf} {X Y : List Int} (hf : HomR w1 fs X) (hg : HomR w2 gs Y) (h1 : HomR w3 ab (mulZ X Y)) (x0 : detZ X ≠ 0) (y0 : detZ Y ≠ 0)
    (p2 : ps.length = 2) (q2 : qs.length = 2) (mp : ∀ f ∈ ps, f.mg w4) (mq : ∀ f ∈ qs, f.mg w5) {l : List Int} (hl : aplE gs ps = (l, 0)) (hq : frZ (qs.map Rf.f) = l) (h0 : (aplE fs qs).2 = 0) : aplE ab ps = aplE fs qs := by
  have a0 : detZ (mulZ X Y) ≠ 0 := by rw [detZ_mul hf.len hg.len]; exact Int.mul_ne_zero x0 y0
  obtain ⟨x, y, f, g, e1, e2, vf, vg, hp, hc, _⟩ := apl_image hg.h9 p2 mp hl
  obtain ⟨_, hc2, f', g', e3⟩ := aplE_zero q2 h0
  rw [e3, e2] at hq
  have hq' : f' = f ∧ g' = g := by
    simp only [frZ, List.flatMap_cons, List.flatMap_nil, List.cons_append, List.nil_append, List.append_nil, List.cons.injEq, and_true] at hq
    exact ⟨Prod.ext hq.1 (by omega), Prod.ext hq.2.2.1 (by omega)⟩
  obtain ⟨rfl, rfl⟩ := hq'
  rw [h1.apl a0 hc e1, hf.apl x0 hc2 e3, mvZ_mul hf.len hg.len (ptZ_len x y)]
  refine ptE_pr (mvZ_len hf.len (mvZ_len hg.len (ptZ_len x y))) (Pr.mv hf.len (mvZ_len hg.len (ptZ_len x y)) (Pr.refl _) (Pr.trans ?_ hp))
  exact Pr.mv hg.len (ptZ_len x y) hg.pr.symm (Pr.refl _)
end Go.Proofs.Ytgnfobnkhjlbbaa
/- Homographies: the facts of the laws on four points. Conditions: none. -/
set_option linter.unusedVariables false
set_option linter.unusedSimpArgs false
namespace Go.Proofs.Ytgnfobnkhjlbbaa
open Go.RowKit Big

/-- the matrix of two frames -/
def fpM (qs qs' : List (Int × Nat)) : List Int := mulZ (frmZ (ptsZ qs')) (adjZ (frmZ (ptsZ qs)))
theorem fpM_len {qs qs' : List (Int × Nat)} (h : qs.length = 8) (h' : qs'.length = 8) : (fpM qs qs').length = 9 := mulZ_len (frmZ_len (ptsZ_len h')) (adjZ_len (frmZ_len (ptsZ_len h)))
theorem fpE_err (fs gs : List Rf) : (fpE fs gs).2 = 0 ∨ (fpE fs gs).2 = 1 ∨ (fpE fs gs).2 = 4 ∨ (fpE fs gs).2 = 24 := by
  unfold fpE
  split
  · split
    · rcases resZ_cases (mulZ (redZ (frmZ (ptsZ (gs.map Rf.f)))) (adjZ (redZ (frmZ (ptsZ (fs.map Rf.f)))))) with ⟨h, _⟩ | ⟨h, _⟩ <;> rw [h]
      · exact Or.inl rfl
      · exact Or.inr (Or.inr (Or.inl rfl))
    · exact Or.inr (Or.inr (Or.inr rfl))
  · rcases chk_cases 8 (fs ++ gs) with h | h | h
    · exact Or.inl h
    · exact Or.inr (Or.inl h)
    · exact Or.inr (Or.inr (Or.inl h))
theorem fpE_res {fs gs : List Rf} (h8 : fs.length = 8) (h8' : gs.length = 8) (hc : chkZ 8 (fs ++ gs) = 0) (hP : frmB (ptsZ (fs.map Rf.f)) = true) (hQ : frmB (ptsZ (gs.map Rf.f)) = true) : fpE fs gs = resZ (fpM (fs.map Rf.f) (gs.map Rf.f)) := by
  unfold fpE
  rw [if_pos hc, hP, hQ]
  simp only [Bool.and_self, if_true]
  have l1 := frmZ_len (ptsZ_len (qs := fs.map Rf.f) (by simpa using h8))
  have l2 := frmZ_len (ptsZ_len (qs := gs.map Rf.f) (by simpa using h8'))
  exact resZ_pr (Pr.mul (by rw [redZ_len, l2]) (adjZ_len (by rw [redZ_len, l1])) (Pr.red _).symm (Pr.adj (by rw [redZ_len, l1]) (Pr.red _).symm))
theorem fpE_zero {fs gs : List Rf} (h8 : fs.length = 8) (h8' : gs.length = 8) (h : (fpE fs gs).2 = 0) : chkZ 8 (fs ++ gs) = 0 ∧ frmB (ptsZ (fs.map Rf.f)) = true ∧ frmB (ptsZ (gs.map Rf.f)) = true ∧ fpE fs gs = resZ (fpM (fs.map Rf.f) (gs.map Rf.f)) := by
  have h0 := h
  unfold fpE at h
  split at h
  · rename_i hc
    split at h
    · rename_i hb
      simp only [Bool.and_eq_true] at hb
      exact ⟨hc, hb.1, hb.2, fpE_res h8 h8' hc hb.1 hb.2⟩
    · simp at h
  · rename_i hc
    exact absurd h hc
theorem pts_at {qs : List (Int × Nat)} (h : qs.length = 8) : ptAt (ptsZ qs) 0 = ptZ (qs[0]'(by omega)) (qs[1]'(by omega)) ∧ ptAt (ptsZ qs) 1 = ptZ (qs[2]'(by omega)) (qs[3]'(by omega)) ∧ ptAt (ptsZ qs) 2 = ptZ (qs[4]'(by omega)) (qs[5]'(by omega)) ∧ ptAt (ptsZ qs) 3 = ptZ (qs[6]'(by omega)) (qs[7]'(by omega)) := by
  obtain ⟨a, b, c, d, e, f, g, i, rfl⟩ := eight qs h
  exact ⟨rfl, rfl, rfl, rfl⟩
theorem fpM_det {qs qs' : List (Int × Nat)} (h : qs.length = 8) (h' : qs'.length = 8) (hP : frmB (ptsZ qs) = true) (hQ : frmB (ptsZ qs') = true) : detZ (fpM qs qs') ≠ 0 := by
  have l1 := ptsZ_len h
  have l2 := ptsZ_len h'
  obtain ⟨e1, g1⟩ := frmZ_fr4 l1
  obtain ⟨e2, g2⟩ := frmZ_fr4 l2
  have d1 := fr4_det (ptAt_len l1 (i := 0) (by omega)) (ptAt_len l1 (i := 1) (by omega)) (ptAt_len l1 (i := 2) (by omega)) (g1.1 hP)
  have d2 := fr4_det (ptAt_len l2 (i := 0) (by omega)) (ptAt_len l2 (i := 1) (by omega)) (ptAt_len l2 (i := 2) (by omega)) (g2.1 hQ)
  rw [← e1] at d1
  rw [← e2] at d2
  unfold fpM
  rw [detZ_mul (frmZ_len l2) (adjZ_len (frmZ_len l1)), detZ_adj (frmZ_len l1)]
  exact Int.mul_ne_zero d2 (Int.mul_ne_zero d1 d1)
/-- the matrix maps each point to its image -/
theorem fpM_maps {qs qs' : List (Int × Nat)} (h : qs.length = 8) (h' : qs'.length = 8) (hP : frmB (ptsZ qs) = true) (hQ : frmB (ptsZ qs') = true) {j : Nat} (hj : j < 4) :
    Pr (mvZ (fpM qs qs') (ptZ (qs[2 * j]'(by omega)) (qs[2 * j + 1]'(by omega)))) (ptZ (qs'[2 * j]'(by omega)) (qs'[2 * j + 1]'(by omega))) := by
  have l1 := ptsZ_len h
  have l2 := ptsZ_len h'
  obtain ⟨e1, g1⟩ := frmZ_fr4 l1
  obtain ⟨e2, g2⟩ := frmZ_fr4 l2
  obtain ⟨p0, p1, p2, p3⟩ := pts_at h
  obtain ⟨q0, q1, q2, q3⟩ := pts_at h'
  have hm := maps4 (ptAt_len l1 (i := 0) (by omega)) (ptAt_len l1 (i := 1) (by omega)) (ptAt_len l1 (i := 2) (by omega)) (ptAt_len l1 (i := 3) (by omega)) (ptAt_len l2 (i := 0) (by omega)) (ptAt_len l2 (i := 1) (by omega)) (ptAt_len l2 (i := 2) (by omega)) (ptAt_len l2 (i := 3) (by omega)) (g1.1 hP) (g2.1 hQ)
  rw [← e1, ← e2, p0, p1, p2, p3, q0, q1, q2, q3] at hm
  match j, hj with
  | 0, _ => exact hm.1
  | 1, _ => exact hm.2.1
  | 2, _ => exact hm.2.2.1
  | 3, _ => exact hm.2.2.2
theorem fpM_back {qs qs' : List (Int × Nat)} (h : qs.length = 8) (h' : qs'.length = 8) (hP : frmB (ptsZ qs) = true) : Pr (adjZ (fpM qs qs')) (fpM qs' qs) := by
  have l1 := ptsZ_len h
  have l2 := ptsZ_len h'
  obtain ⟨e1, g1⟩ := frmZ_fr4 l1
  have d1 := fr4_det (ptAt_len l1 (i := 0) (by omega)) (ptAt_len l1 (i := 1) (by omega)) (ptAt_len l1 (i := 2) (by omega)) (g1.1 hP)
  rw [← e1] at d1
  unfold fpM
  rw [adjZ_mul (frmZ_len l2) (adjZ_len (frmZ_len l1)), adjZ_adj (frmZ_len l1), mulZ_smul (frmZ_len l1) (adjZ_len (frmZ_len l2))]
  exact Pr.of_smul d1 rfl
theorem vf_of {q : Int × Nat} {k : Nat} (h : Bz k q.1) (h' : q.2 < 2 ^ k) (hk : k ≤ 16384) (n : Nf q) : Vf q := ⟨n, h.ft hk, Bz.ft (bz_nat h') hk⟩
/-- the stage's theorem -/
theorem maps_apl {w w' : World} {rf fs gs : List Rf} (h8 : fs.length = 8) (h8' : gs.length = 8) (hH : HomR w' rf (fpM (fs.map Rf.f) (gs.map Rf.f))) (h : (fpE fs gs).2 = 0) (mg : ∀ f ∈ gs, f.mg w) {j : Nat} (hj : j < 4) :
    aplE rf [fs[2 * j]'(by omega), fs[2 * j + 1]'(by omega)] = (frZ [(gs[2 * j]'(by omega)).f, (gs[2 * j + 1]'(by omega)).f], 0) := by
  obtain ⟨hc, hP, hQ, _⟩ := fpE_zero h8 h8' h
  obtain ⟨c1, c2⟩ := chk_app.1 hc
  have hq : (fs.map Rf.f).length = 8 := by simpa using h8
  have hq' : (gs.map Rf.f).length = 8 := by simpa using h8'
  have hp : chkZ 40 [fs[2 * j]'(by omega), fs[2 * j + 1]'(by omega)] = 0 := by
    obtain ⟨a1, a2⟩ := chk_parts c1
    unfold chkZ
    have m1 : fs[2 * j]'(by omega) ∈ fs := List.getElem_mem _
    have m2 : fs[2 * j + 1]'(by omega) ∈ fs := List.getElem_mem _
    have s1 := a2 _ m1
    have s2 := a2 _ m2
    simp only [List.all_cons, List.all_nil, Bool.and_true, a1 _ m1, a1 _ m2, Bool.and_self, if_true]
    rw [decide_eq_true (by omega), decide_eq_true (by omega)]
    rfl
  rw [hH.apl (fpM_det hq hq' hP hQ) hp (x := (fs[2 * j]'(by omega)).f) (y := (fs[2 * j + 1]'(by omega)).f) rfl]
  have hm := fpM_maps hq hq' hP hQ hj
  simp only [List.getElem_map] at hm
  rw [ptE_pr (mvZ_len (fpM_len hq hq') (ptZ_len _ _)) hm]
  have hbz := chk_bz (k := 256) c2 (by omega) mg
  have v1 := hbz (gs[2 * j]'(by omega)).f (List.mem_map.2 ⟨_, List.getElem_mem _, rfl⟩)
  have v2 := hbz (gs[2 * j + 1]'(by omega)).f (List.mem_map.2 ⟨_, List.getElem_mem _, rfl⟩)
  exact ptE_pt (vf_of v1.1.2.1 v1.1.2.2 (by omega) v1.2) (vf_of v2.1.2.1 v2.1.2.2 (by omega) v2.2)
theorem maps_back {w : World} {rf fs gs : List Rf} (h8 : fs.length = 8) (h8' : gs.length = 8) (hH : HomR w rf (fpM (fs.map Rf.f) (gs.map Rf.f))) (h : (fpE fs gs).2 = 0) : oneE adjZ rf = fpE gs fs ∧ nrmB rf = true := by
  obtain ⟨hc, hP, hQ, _⟩ := fpE_zero h8 h8' h
  obtain ⟨c1, c2⟩ := chk_app.1 hc
  have hq : (fs.map Rf.f).length = 8 := by simpa using h8
  have hq' : (gs.map Rf.f).length = 8 := by simpa using h8'
  have d := fpM_det hq hq' hP hQ
  rw [(hH.one d).1, fpE_res h8' h8 (chk_app.2 ⟨c2, c1⟩) hQ hP]
  exact ⟨resZ_pr (fpM_back hq hq' hP), hH.b.2 d⟩
/-- a transformation is restored -/
theorem uni_fp {w : World} {hs fs gs : List Rf} (h9 : hs.length = 9) (h8 : fs.length = 8) (h8' : gs.length = 8) (m : ∀ f ∈ fs, f.mg w) (hg : ∀ g ∈ gs, g.v = true)
    (ha : ∀ j (hj : j < 4), aplE hs [fs[2 * j]'(by omega), fs[2 * j + 1]'(by omega)] = (frZ [(gs[2 * j]'(by omega)).f, (gs[2 * j + 1]'(by omega)).f], 0)) :
    (fpE fs gs).2 ≠ 1 ∧ nrmB hs = true ∧ ((fpE fs gs).2 = 0 → Pr (fpM (fs.map Rf.f) (gs.map Rf.f)) (nrmZ hs)) := by
  have hq : (fs.map Rf.f).length = 8 := by simpa using h8
  have hq' : (gs.map Rf.f).length = 8 := by simpa using h8'
  have im : ∀ j (hj : j < 4), Pr (mvZ (nrmZ hs) (ptZ (fs[2 * j]'(by omega)).f (fs[2 * j + 1]'(by omega)).f)) (ptZ (gs[2 * j]'(by omega)).f (gs[2 * j + 1]'(by omega)).f) ∧ (fs[2 * j]'(by omega)).v = true ∧ (fs[2 * j + 1]'(by omega)).v = true ∧ nrmB hs = true := fun j hj => by
    obtain ⟨x, y, f, g, e1, e2, vf, vg, hp, hc, hb⟩ := apl_image h9 rfl (fun f hf => by
      simp only [List.mem_cons, List.not_mem_nil, or_false] at hf
      rcases hf with rfl | rfl
      · exact m _ (List.getElem_mem _)
      · exact m _ (List.getElem_mem _)) (ha j hj)
    simp only [List.map_cons, List.map_nil, List.cons.injEq, and_true] at e1
    obtain ⟨rfl, rfl⟩ := e1
    have e3 : (gs[2 * j]'(by omega)).f = f ∧ (gs[2 * j + 1]'(by omega)).f = g := by
      simp only [frZ, List.flatMap_cons, List.flatMap_nil, List.cons_append, List.nil_append, List.append_nil, List.cons.injEq, and_true] at e2
      exact ⟨Prod.ext e2.1 (by omega), Prod.ext e2.2.2.1 (by omega)⟩
    obtain ⟨a1, a2⟩ := chk_parts hc
    rw [e3.1, e3.2]
    exact ⟨hp, a1 _ (by simp), a1 _ (by simp), hb⟩
  have hfv : ∀ f ∈ fs, f.v = true := fun f hf => by
    obtain ⟨i, hi, rfl⟩ := List.getElem_of_mem hf
    have hj : i / 2 < 4 := by omega
    rcases Nat.mod_two_eq_zero_or_one i with h2 | h2
    · have e : i = 2 * (i / 2) := by omega
      have := (im (i / 2) hj).2.1
      generalize i / 2 = j at *
      subst e
      exact this
    · have e : i = 2 * (i / 2) + 1 := by omega
      have := (im (i / 2) hj).2.2.1
      generalize i / 2 = j at *
      subst e
      exact this
  have hc1 : chkZ 8 (fs ++ gs) ≠ 1 := chk_not1 fun f hf => (List.mem_append.1 hf).elim (hfv f) (hg f)
  have hb := (im 0 (by omega)).2.2.2
  refine ⟨?_, hb, ?_⟩
  · unfold fpE
    split
    · split
      · rcases resZ_cases (mulZ (redZ (frmZ (ptsZ (gs.map Rf.f)))) (adjZ (redZ (frmZ (ptsZ (fs.map Rf.f)))))) with ⟨h, _⟩ | ⟨h, _⟩ <;> rw [h] <;> simp
      · simp
    · exact hc1
  · intro h0
    obtain ⟨_, hP, hQ, _⟩ := fpE_zero h8 h8' h0
    have l1 := ptsZ_len hq
    have l2 := ptsZ_len hq'
    obtain ⟨e1, g1⟩ := frmZ_fr4 l1
    obtain ⟨e2, g2⟩ := frmZ_fr4 l2
    obtain ⟨p0, p1, p2, p3⟩ := pts_at hq
    obtain ⟨q0, q1, q2, q3⟩ := pts_at hq'
    have i0 := (im 0 (by omega)).1
    have i1 := (im 1 (by omega)).1
    have i2 := (im 2 (by omega)).1
    have i3 := (im 3 (by omega)).1
    simp only [List.getElem_map] at p0 p1 p2 p3 q0 q1 q2 q3
    rw [← p0, ← q0] at i0
    rw [← p1, ← q1] at i1
    rw [← p2, ← q2] at i2
    rw [← p3, ← q3] at i3
    have hu := unique4 (nrmZ_len h9) (ptAt_len l1 (i := 0) (by omega)) (ptAt_len l1 (i := 1) (by omega)) (ptAt_len l1 (i := 2) (by omega)) (ptAt_len l1 (i := 3) (by omega)) (ptAt_len l2 (i := 0) (by omega)) (ptAt_len l2 (i := 1) (by omega)) (ptAt_len l2 (i := 2) (by omega)) (ptAt_len l2 (i := 3) (by omega)) (nrmB_bz hb).2 (g1.1 hP) i0 i1 i2 i3
    rw [← e1, ← e2] at hu
    exact hu
end Go.Proofs.Ytgnfobnkhjlbbaa
