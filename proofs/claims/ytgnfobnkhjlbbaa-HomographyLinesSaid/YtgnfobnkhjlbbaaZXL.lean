/- Sizes of results on fractions; the laws of a field on what the functions answer. Conditions: none. -/
import Derived.Test.YtgnfobnkhjlbbaaZYN
import Derived.Test.YtgnfobnkhjlbbaaZYZ
set_option linter.unusedVariables false
set_option linter.unusedSimpArgs false
namespace Go.Proofs.Ytgnfobnkhjlbbaa
open Go.RowKit Big

/-- both numbers lie under 2 ^ k -/
structure Sz (k : Nat) (f : Int × Nat) : Prop where
  n : f.1.natAbs < 2 ^ k
  d : f.2 < 2 ^ k
theorem fits_bits {z : Int} {k : Nat} (h : z.natAbs < 2 ^ k) (hk : k ≤ 16384) : fits z := by
  unfold fits
  exact limbs_of_bits h (by omega)
theorem Sz.vf {k : Nat} {f : Int × Nat} (h : Sz k f) (hk : k ≤ 16384) (n : Nf f) : Vf f := ⟨n, fits_bits h.n hk, fits_bits (by rw [Int.natAbs_natCast]; exact h.d) hk⟩
theorem Sz.of_limbs {f : Int × Nat} {m : Nat} (h1 : (limbs f.1.natAbs).length ≤ m) (h2 : (limbs f.2).length ≤ m) : Sz (32 * m) f := by
  exact ⟨(limbs_bits _ _).1 h1, (limbs_bits _ _).1 h2⟩
theorem low_sz {n : Int} {d k : Nat} (h1 : n.natAbs < 2 ^ k) (h2 : d < 2 ^ k) : Sz k (low n d) := by
  refine ⟨?_, ?_⟩
  · unfold low
    simp only
    refine Nat.lt_of_le_of_lt ?_ h1
    rw [Int.natAbs_ediv_of_dvd (Int.dvd_natAbs.1 (Int.ofNat_dvd.2 (Nat.gcd_dvd_left _ _))), Int.natAbs_natCast]
    exact Nat.div_le_self _ _
  · unfold low
    exact Nat.lt_of_le_of_lt (Nat.div_le_self _ _) h2
theorem mul_bits {a b k l : Nat} (h1 : a < 2 ^ k) (h2 : b < 2 ^ l) : a * b < 2 ^ (k + l) := by
  rw [Nat.pow_add]
  exact Nat.mul_lt_mul'' h1 h2
theorem sum_sz {f g : Int × Nat} {k l : Nat} (hf : Sz k f) (hg : Sz l g) : (f.1 * g.2 + g.1 * f.2).natAbs < 2 ^ (k + l + 1) ∧ (f.1 * g.2 - g.1 * f.2).natAbs < 2 ^ (k + l + 1) ∧ f.2 * g.2 < 2 ^ (k + l + 1) := by
  have h1 := mul_bits hf.n hg.d
  have h2 := mul_bits hg.n hf.d
  have h3 := mul_bits hf.d hg.d
  have e1 : (f.1 * (g.2 : Int)).natAbs = f.1.natAbs * g.2 := by rw [Int.natAbs_mul, Int.natAbs_natCast]
  have e2 : (g.1 * (f.2 : Int)).natAbs = g.1.natAbs * f.2 := by rw [Int.natAbs_mul, Int.natAbs_natCast]
  rw [Nat.add_comm l k] at h2
  rw [Nat.pow_succ]
  generalize 2 ^ (k + l) = P at *
  omega
theorem fsub_sz {f g : Int × Nat} {k l : Nat} (hf : Sz k f) (hg : Sz l g) : Sz (k + l + 1) (fsub f g) := low_sz (sum_sz hf hg).2.1 (sum_sz hf hg).2.2
theorem fmul_sz {f g : Int × Nat} {k l : Nat} (hf : Sz k f) (hg : Sz l g) : Sz (k + l) (fmul f g) :=
  low_sz (by rw [Int.natAbs_mul]; exact mul_bits hf.n hg.n) (mul_bits hf.d hg.d)
theorem lowE_sz {n : Int} {d k : Nat} (h : Sz k (low n d)) (hk : k ≤ 16384) : lowE n d = (low n d, 0) :=
  lowE_yes ⟨fits_bits h.n hk, fits_bits (by rw [Int.natAbs_natCast]; exact h.d) hk⟩
theorem subE_sz {f g : Int × Nat} {k l : Nat} (hf : Sz k f) (hg : Sz l g) (hk : k + l + 1 ≤ 16384) : subE f g = (fsub f g, 0) := lowE_sz (fsub_sz hf hg) hk
theorem mulE_sz {f g : Int × Nat} {k l : Nat} (hf : Sz k f) (hg : Sz l g) (hk : k + l ≤ 16384) : mulE f g = (fmul f g, 0) := lowE_sz (fmul_sz hf hg) hk
/-- a fraction in its box -/
structure Fb (w : World) (g : Nat) (b : Bool) (A : Option Addr) (k c : Nat) (xs : List Nat) (B : Option Addr) (l d : Nat) (ys : List Nat) : Prop where
  c0 : w.cell? ⟨g, 0, none⟩ = some (.bool b)
  c1 : w.cell? ⟨g, 1, none⟩ = some (.slice A k c)
  c2 : w.cell? ⟨g, 2, none⟩ = some (.bool false)
  c3 : w.cell? ⟨g, 3, none⟩ = some (.slice B l d)
  m : Mg w A c xs
  n : Mg w B d ys
theorem Fb.below {w w' : World} {g : Nat} {b : Bool} {A : Option Addr} {k c : Nat} {xs : List Nat} {B : Option Addr} {l d : Nat} {ys : List Nat} (h : Fb w g b A k c xs B l d ys) (hb : Below w.heap.size w w') : Fb w' g b A k c xs B l d ys :=
  ⟨keep_cell hb h.c0, keep_cell hb h.c1, keep_cell hb h.c2, keep_cell hb h.c3, h.m.below hb, h.n.below hb⟩
end Go.Proofs.Ytgnfobnkhjlbbaa
/- Homographies, plain: three points on a line. Conditions: none. -/
namespace Go.Proofs.Ytgnfobnkhjlbbaa
open Go.RowKit Big

def sbF (x y : Rf) : (Int × Nat) × Int := opR subE x.na x.xs x.nb x.ys y.na y.xs y.nb y.ys
def mlC (f g : Int × Nat) : (Int × Nat) × Int := opR mulE (decide (f.1 < 0)) (limbs f.1.natAbs) false (limbs f.2) (decide (g.1 < 0)) (limbs g.1.natAbs) false (limbs g.2)
/-- what flat answers -/
def flatB (ax ay bx bz cx cy : Rf) : Bool := decide ((mlC (sbF bx ax).1 (sbF cy ay).1).2 = 0) && decide ((mlC (sbF bz ay).1 (sbF cx ax).1).2 = 0) && (decide ((mlC (sbF bx ax).1 (sbF cy ay).1).1.1 = (mlC (sbF bz ay).1 (sbF cx ax).1).1.1) && decide (((mlC (sbF bx ax).1 (sbF cy ay).1).1.2 : Int) = ((mlC (sbF bz ay).1 (sbF cx ax).1).1.2 : Int)))
theorem fz_self (f : Int × Nat) : Fz f (decide (f.1 < 0)) (limbs f.1.natAbs).length (limbs f.1.natAbs) (limbs f.2).length (limbs f.2) := ⟨rfl, rfl, rfl, rfl, rfl⟩
theorem lowE_ok {n : Int} {d : Nat} (h : (lowE n d).1.2 ≠ 0 ∨ (lowE n d).2 = 0) : lowE n d = (low n d, 0) := by
  unfold lowE at h ⊢
  split at h
  · rename_i hf; rw [if_pos hf]
  · rcases h with h | h
    · exact absurd rfl h
    · simp at h
theorem mlC_ok {f g : Int × Nat} (h : (mlC f g).2 = 0) : mlC f g = (low (f.1 * g.1) (f.2 * g.2), 0) ∧ f.2 ≠ 0 ∧ g.2 ≠ 0 := by
  unfold mlC opR at h ⊢
  rw [val_limbs, val_limbs, val_limbs, val_limbs, sg_self, sg_self] at h ⊢
  split at h
  · rename_i hv
    rw [if_pos hv]
    simp only [Bool.and_eq_true] at hv
    have nz : ∀ (b : Bool) (xs : List Nat) (n : Nat), fvB b xs false (limbs n) = true → n ≠ 0 := by
      intro b xs n hb hn
      subst hn
      unfold fvB at hb
      simp [limbs_zero] at hb
    exact ⟨lowE_ok (Or.inr h), nz _ _ _ hv.1, nz _ _ _ hv.2⟩
  · simp at h
theorem sbF_ok {x y : Rf} (h : (sbF x y).1.2 ≠ 0) : x.v = true ∧ y.v = true ∧ sbF x y = (low (x.f.1 * y.f.2 - y.f.1 * x.f.2) (x.f.2 * y.f.2), 0) := by
  unfold sbF opR at h ⊢
  split at h
  · rename_i hv
    rw [if_pos hv]
    simp only [Bool.and_eq_true] at hv
    exact ⟨hv.1, hv.2, lowE_ok (Or.inl h)⟩
  · exact absurd rfl h
theorem line_alg {a1 a2 a3 a4 b1 b2 b3 b4 c1 c2 c3 c4 : Int} : detZ ([a1 * a4, a3 * a2, a2 * a4] ++ [b1 * b4, b3 * b2, b2 * b4] ++ [c1 * c4, c3 * c2, c2 * c4]) = (b1 * a2 - a1 * b2) * (c3 * a4 - a3 * c4) * (b4 * c2) - (b3 * a4 - a3 * b4) * (c1 * a2 - a1 * c2) * (b2 * c4) := by
  simp only [List.cons_append, List.nil_append, detZ]
  grind
/-- the common form: two fractions with their cross equations -/
theorem low_x {n m : Int} {d e : Nat} (hd : d ≠ 0) (he : e ≠ 0) (h : low n d = low m e) : n * e = m * d := by
  have h1 := low_cross (n := n) (d := d) (by omega)
  have h2 := low_cross (n := m) (d := e) (by omega)
  have h3 := (low_nf (n := m) (d := e) (by omega)).1
  rw [h] at h1
  have h4 : (n * e - m * d) * ((low m e).2 : Int) = 0 := by
    generalize low m e = f at *
    grind
  rcases Int.mul_eq_zero.1 h4 with h5 | h5 <;> omega
theorem line_cancel {p1 p2 q1 q2 r1 r2 s1 s2 P Q R S a2 a4 b2 b4 c2 c4 : Int} (hp : p2 ≠ 0) (hq : q2 ≠ 0) (hr : r2 ≠ 0) (hs : s2 ≠ 0) (hx : p1 * q1 * (r2 * s2) = r1 * s1 * (p2 * q2))
    (h1 : p1 * (b2 * a2) = P * p2) (h2 : q1 * (c4 * a4) = Q * q2) (h3 : r1 * (b4 * a4) = R * r2) (h4 : s1 * (c2 * a2) = S * s2) : P * Q * (b4 * c2) - R * S * (b2 * c4) = 0 := by
  have e1 : (P * p2) * (Q * q2) = (p1 * (b2 * a2)) * (q1 * (c4 * a4)) := by rw [h1, h2]
  have e2 : (R * r2) * (S * s2) = (r1 * (b4 * a4)) * (s1 * (c2 * a2)) := by rw [h3, h4]
  have e : (P * Q * (b4 * c2) - R * S * (b2 * c4)) * (p2 * q2 * (r2 * s2)) = 0 := by
    have g1 : (P * Q * (b4 * c2) - R * S * (b2 * c4)) * (p2 * q2 * (r2 * s2)) = ((P * p2) * (Q * q2)) * (b4 * c2 * (r2 * s2)) - ((R * r2) * (S * s2)) * (b2 * c4 * (p2 * q2)) := by grind
    rw [g1, e1, e2]
    have g2 : p1 * (b2 * a2) * (q1 * (c4 * a4)) * (b4 * c2 * (r2 * s2)) = (b2 * a2 * (c4 * a4) * (b4 * c2)) * (p1 * q1 * (r2 * s2)) := by grind
    have g3 : r1 * (b4 * a4) * (s1 * (c2 * a2)) * (b2 * c4 * (p2 * q2)) = (b2 * a2 * (c4 * a4) * (b4 * c2)) * (r1 * s1 * (p2 * q2)) := by grind
    rw [g2, g3, hx]
    omega
  have hn : p2 * q2 * (r2 * s2) ≠ 0 := Int.mul_ne_zero (Int.mul_ne_zero hp hq) (Int.mul_ne_zero hr hs)
  exact (Int.mul_eq_zero.1 e).resolve_right hn
theorem line_back {p1 p2 q1 q2 r1 r2 s1 s2 P Q R S a2 a4 b2 b4 c2 c4 : Int} (ha : a2 ≠ 0) (ha' : a4 ≠ 0) (hb : b2 ≠ 0) (hb' : b4 ≠ 0) (hc : c2 ≠ 0) (hc' : c4 ≠ 0) (hx : P * Q * (b4 * c2) - R * S * (b2 * c4) = 0)
    (h1 : p1 * (b2 * a2) = P * p2) (h2 : q1 * (c4 * a4) = Q * q2) (h3 : r1 * (b4 * a4) = R * r2) (h4 : s1 * (c2 * a2) = S * s2) : p1 * q1 * (r2 * s2) = r1 * s1 * (p2 * q2) := by
  have e1 : (P * p2) * (Q * q2) = (p1 * (b2 * a2)) * (q1 * (c4 * a4)) := by rw [h1, h2]
  have e2 : (R * r2) * (S * s2) = (r1 * (b4 * a4)) * (s1 * (c2 * a2)) := by rw [h3, h4]
  have e : (p1 * q1 * (r2 * s2) - r1 * s1 * (p2 * q2)) * (b2 * a2 * (c4 * a4) * (b4 * c2)) = 0 := by
    have g1 : (p1 * q1 * (r2 * s2) - r1 * s1 * (p2 * q2)) * (b2 * a2 * (c4 * a4) * (b4 * c2)) = ((p1 * (b2 * a2)) * (q1 * (c4 * a4))) * (b4 * c2 * (r2 * s2)) - ((r1 * (b4 * a4)) * (s1 * (c2 * a2))) * (b2 * c4 * (p2 * q2)) := by grind
    rw [g1, ← e1, ← e2]
    have g2 : P * p2 * (Q * q2) * (b4 * c2 * (r2 * s2)) - R * r2 * (S * s2) * (b2 * c4 * (p2 * q2)) = (P * Q * (b4 * c2) - R * S * (b2 * c4)) * (p2 * q2 * (r2 * s2)) := by grind
    rw [g2, hx, Int.zero_mul]
  have hn : b2 * a2 * (c4 * a4) * (b4 * c2) ≠ 0 := Int.mul_ne_zero (Int.mul_ne_zero (Int.mul_ne_zero hb ha) (Int.mul_ne_zero hc' ha')) (Int.mul_ne_zero hb' hc)
  have := (Int.mul_eq_zero.1 e).resolve_right hn
  omega
/-- flat says: on a line -/
theorem flat_line {ax ay bx bz cx cy : Rf} (h : flatB ax ay bx bz cx cy = true) : (ax.v = true ∧ ay.v = true ∧ bx.v = true ∧ bz.v = true ∧ cx.v = true ∧ cy.v = true) ∧
    (ax.f.2 ≠ 0 → ay.f.2 ≠ 0 → bx.f.2 ≠ 0 → bz.f.2 ≠ 0 → cx.f.2 ≠ 0 → cy.f.2 ≠ 0 → detZ (ptZ ax.f ay.f ++ ptZ bx.f bz.f ++ ptZ cx.f cy.f) = 0) := by
  unfold flatB at h
  simp only [Bool.and_eq_true, decide_eq_true_eq] at h
  obtain ⟨⟨h1, h2⟩, h3, h4⟩ := h
  obtain ⟨e1, n1, n2⟩ := mlC_ok h1
  obtain ⟨e2, n3, n4⟩ := mlC_ok h2
  obtain ⟨v1, v2, p1⟩ := sbF_ok n1
  obtain ⟨v3, v4, p2⟩ := sbF_ok n2
  obtain ⟨v5, v6, p3⟩ := sbF_ok n3
  obtain ⟨v7, v8, p4⟩ := sbF_ok n4
  refine ⟨⟨v2, v4, v1, v5, v7, v3⟩, fun a2 a4 b2 b4 c2 c4 => ?_⟩
  rw [e1, e2] at h3 h4
  dsimp only at h3 h4
  rw [p1] at n1
  rw [p2] at n2
  rw [p3] at n3
  rw [p4] at n4
  rw [p1, p2, p3, p4] at h3 h4
  dsimp only at h3 h4 n1 n2 n3 n4
  have hx := low_x (Nat.mul_ne_zero n1 n2) (Nat.mul_ne_zero n3 n4) (Prod.ext h3 (by exact_mod_cast h4))
  have c1 := low_cross (n := bx.f.1 * ax.f.2 - ax.f.1 * bx.f.2) (d := bx.f.2 * ax.f.2) (Nat.pos_of_ne_zero (Nat.mul_ne_zero b2 a2))
  have c2' := low_cross (n := cy.f.1 * ay.f.2 - ay.f.1 * cy.f.2) (d := cy.f.2 * ay.f.2) (Nat.pos_of_ne_zero (Nat.mul_ne_zero c4 a4))
  have c3 := low_cross (n := bz.f.1 * ay.f.2 - ay.f.1 * bz.f.2) (d := bz.f.2 * ay.f.2) (Nat.pos_of_ne_zero (Nat.mul_ne_zero b4 a4))
  have c4' := low_cross (n := cx.f.1 * ax.f.2 - ax.f.1 * cx.f.2) (d := cx.f.2 * ax.f.2) (Nat.pos_of_ne_zero (Nat.mul_ne_zero c2 a2))
  unfold ptZ
  rw [line_alg]
  generalize low (bx.f.1 * ax.f.2 - ax.f.1 * bx.f.2) (bx.f.2 * ax.f.2) = p at *
  generalize low (cy.f.1 * ay.f.2 - ay.f.1 * cy.f.2) (cy.f.2 * ay.f.2) = q at *
  generalize low (bz.f.1 * ay.f.2 - ay.f.1 * bz.f.2) (bz.f.2 * ay.f.2) = r at *
  generalize low (cx.f.1 * ax.f.2 - ax.f.1 * cx.f.2) (cx.f.2 * ax.f.2) = s at *
  generalize bx.f.1 * ax.f.2 - ax.f.1 * bx.f.2 = P at *
  generalize cy.f.1 * ay.f.2 - ay.f.1 * cy.f.2 = Q at *
  generalize bz.f.1 * ay.f.2 - ay.f.1 * bz.f.2 = R at *
  generalize cx.f.1 * ax.f.2 - ax.f.1 * cx.f.2 = S at *
  exact line_cancel (p1 := p.1) (p2 := p.2) (q1 := q.1) (q2 := q.2) (r1 := r.1) (r2 := r.2) (s1 := s.1) (s2 := s.2) (a2 := ax.f.2) (a4 := ay.f.2) (by omega) (by omega) (by omega) (by omega) (by simpa using hx) (by simpa using c1) (by simpa using c2') (by simpa using c3) (by simpa using c4')
theorem mlC_vf {f g : Int × Nat} (vf : Vf f) (vg : Vf g) : mlC f g = mulE f g := by
  have h1 := (fz_self f).valid vf
  have h2 := (fz_self g).valid vg
  unfold mlC opR
  rw [h1, h2, val_limbs, val_limbs, val_limbs, val_limbs, sg_self, sg_self]
  rfl
theorem sbF_vf {x y : Rf} (hx : x.v = true) (hy : y.v = true) : sbF x y = subE x.f y.f := by
  show (if x.v && y.v then subE x.f y.f else ((0, 0), 1)) = _
  rw [hx, hy]; rfl
/-- points on a line with short numbers: flat says so -/
theorem line_flat {k : Nat} (hk : 2 * (2 * k + 1) ≤ 16384) {ax ay bx bz cx cy : Rf} (va : ax.v = true) (vb : ay.v = true) (vc : bx.v = true) (vd : bz.v = true) (ve : cx.v = true) (vf : cy.v = true)
    (sa : Sz k ax.f) (sb : Sz k ay.f) (sc : Sz k bx.f) (sd : Sz k bz.f) (se : Sz k cx.f) (sf : Sz k cy.f) (a2 : ax.f.2 ≠ 0) (a4 : ay.f.2 ≠ 0) (b2 : bx.f.2 ≠ 0) (b4 : bz.f.2 ≠ 0) (c2 : cx.f.2 ≠ 0) (c4 : cy.f.2 ≠ 0)
    (h : detZ (ptZ ax.f ay.f ++ ptZ bx.f bz.f ++ ptZ cx.f cy.f) = 0) : flatB ax ay bx bz cx cy = true := by
  have e1 := subE_sz sc sa (by omega)
  have e2 := subE_sz sf sb (by omega)
  have e3 := subE_sz sd sb (by omega)
  have e4 := subE_sz se sa (by omega)
  have z1 := fsub_sz sc sa
  have z2 := fsub_sz sf sb
  have z3 := fsub_sz sd sb
  have z4 := fsub_sz se sa
  have n1 : Nf (fsub bx.f ax.f) := low_nf (Nat.pos_of_ne_zero (Nat.mul_ne_zero b2 a2))
  have n2 : Nf (fsub cy.f ay.f) := low_nf (Nat.pos_of_ne_zero (Nat.mul_ne_zero c4 a4))
  have n3 : Nf (fsub bz.f ay.f) := low_nf (Nat.pos_of_ne_zero (Nat.mul_ne_zero b4 a4))
  have n4 : Nf (fsub cx.f ax.f) := low_nf (Nat.pos_of_ne_zero (Nat.mul_ne_zero c2 a2))
  have m1 := mulE_sz z1 z2 (by omega)
  have m2 := mulE_sz z3 z4 (by omega)
  have hl : fmul (fsub bx.f ax.f) (fsub cy.f ay.f) = fmul (fsub bz.f ay.f) (fsub cx.f ax.f) := by
    unfold ptZ at h
    rw [line_alg] at h
    have c1 := low_cross (n := bx.f.1 * ax.f.2 - ax.f.1 * bx.f.2) (d := bx.f.2 * ax.f.2) (Nat.pos_of_ne_zero (Nat.mul_ne_zero b2 a2))
    have c2' := low_cross (n := cy.f.1 * ay.f.2 - ay.f.1 * cy.f.2) (d := cy.f.2 * ay.f.2) (Nat.pos_of_ne_zero (Nat.mul_ne_zero c4 a4))
    have c3 := low_cross (n := bz.f.1 * ay.f.2 - ay.f.1 * bz.f.2) (d := bz.f.2 * ay.f.2) (Nat.pos_of_ne_zero (Nat.mul_ne_zero b4 a4))
    have c4' := low_cross (n := cx.f.1 * ax.f.2 - ax.f.1 * cx.f.2) (d := cx.f.2 * ax.f.2) (Nat.pos_of_ne_zero (Nat.mul_ne_zero c2 a2))
    unfold fsub at n1 n2 n3 n4 ⊢
    generalize low (bx.f.1 * ax.f.2 - ax.f.1 * bx.f.2) (bx.f.2 * ax.f.2) = p at *
    generalize low (cy.f.1 * ay.f.2 - ay.f.1 * cy.f.2) (cy.f.2 * ay.f.2) = q at *
    generalize low (bz.f.1 * ay.f.2 - ay.f.1 * bz.f.2) (bz.f.2 * ay.f.2) = r at *
    generalize low (cx.f.1 * ax.f.2 - ax.f.1 * cx.f.2) (cx.f.2 * ax.f.2) = s at *
    generalize bx.f.1 * ax.f.2 - ax.f.1 * bx.f.2 = P at *
    generalize cy.f.1 * ay.f.2 - ay.f.1 * cy.f.2 = Q at *
    generalize bz.f.1 * ay.f.2 - ay.f.1 * bz.f.2 = R at *
    generalize cx.f.1 * ax.f.2 - ax.f.1 * cx.f.2 = S at *
    refine low_eq (Nat.mul_pos n1.1 n2.1) (Nat.mul_pos n3.1 n4.1) ?_
    have := line_back (p1 := p.1) (p2 := p.2) (q1 := q.1) (q2 := q.2) (r1 := r.1) (r2 := r.2) (s1 := s.1) (s2 := s.2) (a2 := ax.f.2) (a4 := ay.f.2) (b2 := bx.f.2) (b4 := bz.f.2) (c2 := cx.f.2) (c4 := cy.f.2) (by omega) (by omega) (by omega) (by omega) (by omega) (by omega) h (by simpa using c1) (by simpa using c2') (by simpa using c3) (by simpa using c4')
    simpa using this
  have hA : mlC (sbF bx ax).1 (sbF cy ay).1 = (fmul (fsub bx.f ax.f) (fsub cy.f ay.f), 0) := by
    rw [sbF_vf vc va, sbF_vf vf vb, e1, e2, mlC_vf (z1.vf (by omega) n1) (z2.vf (by omega) n2), m1]
  have hB : mlC (sbF bz ay).1 (sbF cx ax).1 = (fmul (fsub bz.f ay.f) (fsub cx.f ax.f), 0) := by
    rw [sbF_vf vd vb, sbF_vf ve va, e3, e4, mlC_vf (z3.vf (by omega) n3) (z4.vf (by omega) n4), m2]
  unfold flatB
  rw [hA, hB, hl]
  simp
end Go.Proofs.Ytgnfobnkhjlbbaa
/- Homographies, plain: images of points on a line. Conditions: none. -/
namespace Go.Proofs.Ytgnfobnkhjlbbaa
open Go.RowKit Big

theorem frZ_two {x y f g : Int × Nat} (h : frZ [x, y] = frZ [f, g]) : x = f ∧ y = g := by
  have h1 : [x.1, (x.2 : Int), y.1, (y.2 : Int)] = [f.1, (f.2 : Int), g.1, (g.2 : Int)] := h
  simp only [List.cons.injEq, and_true] at h1
  exact ⟨Prod.ext h1.1 (by omega), Prod.ext h1.2.2.1 (by omega)⟩
theorem ptE_sz {k : Nat} {v : List Int} (hv : v.length = 3) (hb : ∀ z ∈ v, Bz k z) (hk : k ≤ 16384) {f g : Int × Nat} (h : ptE v = (frZ [f, g], 0)) : Sz k f ∧ Sz k g := by
  obtain ⟨x, y, z, rfl⟩ := three3 v hv
  rw [ptE_three] at h
  by_cases h0 : z = 0
  · subst h0
    simp at h
  · rw [if_neg h0, Prod.mk.injEq] at h
    obtain ⟨rfl, rfl⟩ := frZ_two h.1
    have b1 := newE_bz (hb x (by simp)) (hb z (by simp)) h0 hk
    have b2 := newE_bz (hb y (by simp)) (hb z (by simp)) h0 hk
    have hs : ∀ u : Int, Bz k u → Bz k z → Sz k (low (if z < 0 then -u else u) z.natAbs) := fun u hu hz => low_sz (by have hu' : u.natAbs < 2 ^ k := hu; split <;> simpa using hu') hz
    exact ⟨by rw [b1.2.2]; exact hs _ (hb x (by simp)) (hb z (by simp)), by rw [b2.2.2]; exact hs _ (hb y (by simp)) (hb z (by simp))⟩
theorem chk_smallN {k : Nat} {fs : List Rf} (hv : ∀ f ∈ fs, f.v = true) (h : ∀ f ∈ fs, f.xs.length ≤ k ∧ f.ys.length ≤ k) : chkZ k fs = 0 := by
  unfold chkZ
  rw [if_pos (List.all_eq_true.2 hv), if_pos]
  refine List.all_eq_true.2 fun f hf => ?_
  have := h f hf
  exact decide_eq_true (Nat.max_le.2 this)
theorem apl_sz {w : World} {fs ps : List Rf} (h9 : fs.length = 9) (h2 : ps.length = 2) (mf : ∀ f ∈ fs, f.mg w) (m : ∀ f ∈ ps, f.mg w) (s2 : ∀ f ∈ fs, f.xs.length ≤ 2 ∧ f.ys.length ≤ 2) (s8 : ∀ f ∈ ps, f.xs.length ≤ 8 ∧ f.ys.length ≤ 8) {l : List Int} (h : aplE fs ps = (l, 0)) :
    ∃ x y f g, ps.map Rf.f = [x, y] ∧ l = frZ [f, g] ∧ Vf f ∧ Vf g ∧ Pr (mvZ (nrmZ fs) (ptZ x y)) (ptZ f g) ∧ Sz 1155 f ∧ Sz 1155 g := by
  obtain ⟨x, y, f, g, hxy, rfl, vf, vg, hpr, hc, hb⟩ := apl_image h9 h2 m h
  have hl := nrmZ_len h9
  have hcf : chkZ 40 fs = 0 := by
    unfold nrmB at hb
    simp only [Bool.and_eq_true, decide_eq_true_eq] at hb
    exact hb.1.1
  have c2 := chk_smallN (chk_parts hcf).1 s2
  have c8 := chk_smallN (chk_parts hc).1 s8
  have z2 := chk_bz (k := 64) c2 (by omega) mf
  have z8 := chk_bz (k := 256) c8 (by omega) m
  rw [hxy] at z8
  have p1 := (z8 x (by simp)).1
  have p2 := (z8 y (by simp)).1
  have e : aplE fs ps = ptE (mvZ (nrmZ fs) (ptZ x y)) := by
    unfold aplE
    rw [if_pos hb, if_pos hc, hxy]
    dsimp only
    rw [rowZ_mv hl (ptZ_len x y)]
    rfl
  rw [e] at h
  have bi := intZ_bz (k := 64) (l := fs.map Rf.f) fun f hf => (z2 f hf).1.2
  rw [List.length_map, h9] at bi
  have bn : ∀ z ∈ nrmZ fs, Bz 641 z := redZ_bz bi
  obtain ⟨sf, sg_⟩ := ptE_sz (mvZ_len hl (ptZ_len x y)) (mvZ_bz (k := 641) (l := 2 * 256) hl (ptZ_len x y) bn (ptZ_bz p1.2.1 p1.2.2 p2.2.1 p2.2.2)) (by omega) h
  exact ⟨x, y, f, g, hxy, rfl, vf, vg, hpr, sf, sg_⟩
/-- a pair of fractions that a function handed back -/
theorem back_two {w : World} {px py : Rf} {f g : Int × Nat} (hz : (zl [px, py]).map (·.z) = frZ [f, g]) (ok : ∀ e ∈ zl [px, py], e.ok w) (vf : Vf f) (vg : Vf g) : px.f = f ∧ py.f = g ∧ px.v = true ∧ py.v = true := by
  obtain ⟨h1, h2⟩ := toRf_f [f, g] (zl [px, py]) hz ok
  have h3 := h2 (by intro q hq; simp only [List.mem_cons, List.not_mem_nil, or_false] at hq; rcases hq with rfl | rfl <;> assumption)
  have e : toRf (zl [px, py]) = [px, py] := rfl
  rw [e] at h1 h3
  simp only [List.map_cons, List.map_nil, List.cons.injEq, and_true] at h1
  exact ⟨h1.1, h1.2, h3 px (by simp), h3 py (by simp)⟩
/-- three points on a line, three images: on a line -/
theorem lines_law {w w1 w2 w3 : World} {hs : List Rf} {ax ay bx bz cx cy px py qx qy rx ry : Rf} (h9 : hs.length = 9) (mh : ∀ f ∈ hs, f.mg w) (ma : ∀ f ∈ [ax, ay], f.mg w) (mb : ∀ f ∈ [bx, bz], f.mg w) (mc : ∀ f ∈ [cx, cy], f.mg w)
    (s2 : ∀ f ∈ hs, f.xs.length ≤ 2 ∧ f.ys.length ≤ 2) (sa : ∀ f ∈ [ax, ay], f.xs.length ≤ 8 ∧ f.ys.length ≤ 8) (sb : ∀ f ∈ [bx, bz], f.xs.length ≤ 8 ∧ f.ys.length ≤ 8) (sc : ∀ f ∈ [cx, cy], f.xs.length ≤ 8 ∧ f.ys.length ≤ 8)
    (hfl : flatB ax ay bx bz cx cy = true) {lp lq lr : List Int} (ep : aplE hs [ax, ay] = (lp, 0)) (eq : aplE hs [bx, bz] = (lq, 0)) (er : aplE hs [cx, cy] = (lr, 0))
    (zp : (zl [px, py]).map (·.z) = lp) (zq : (zl [qx, qy]).map (·.z) = lq) (zr : (zl [rx, ry]).map (·.z) = lr) (op : ∀ e ∈ zl [px, py], e.ok w1) (oq : ∀ e ∈ zl [qx, qy], e.ok w2) (or_ : ∀ e ∈ zl [rx, ry], e.ok w3) : flatB px py qx qy rx ry = true := by
  have hl := nrmZ_len h9
  obtain ⟨hv, hd⟩ := flat_line hfl
  have nz : ∀ {x : Rf}, x.v = true → x.mg w → x.f.2 ≠ 0 := fun h m => by have := (Rf.good h m).2.2.1.1; omega
  have hd := hd (nz hv.1 (ma _ (by simp))) (nz hv.2.1 (ma _ (by simp))) (nz hv.2.2.1 (mb _ (by simp))) (nz hv.2.2.2.1 (mb _ (by simp))) (nz hv.2.2.2.2.1 (mc _ (by simp))) (nz hv.2.2.2.2.2 (mc _ (by simp)))
  obtain ⟨x1, y1, f1, g1, a1, rfl, vf1, vg1, r1, t1, u1⟩ := apl_sz h9 rfl mh ma s2 sa ep
  obtain ⟨x2, y2, f2, g2, a2, rfl, vf2, vg2, r2, t2, u2⟩ := apl_sz h9 rfl mh mb s2 sb eq
  obtain ⟨x3, y3, f3, g3, a3, rfl, vf3, vg3, r3, t3, u3⟩ := apl_sz h9 rfl mh mc s2 sc er
  simp only [List.map_cons, List.map_nil, List.cons.injEq, and_true] at a1 a2 a3
  obtain ⟨rfl, rfl⟩ := a1
  obtain ⟨rfl, rfl⟩ := a2
  obtain ⟨rfl, rfl⟩ := a3
  obtain ⟨rfl, rfl, v1, v2⟩ := back_two zp op vf1 vg1
  obtain ⟨rfl, rfl, v3, v4⟩ := back_two zq oq vf2 vg2
  obtain ⟨rfl, rfl, v5, v6⟩ := back_two zr or_ vf3 vg3
  refine line_flat (k := 1155) (by omega) v1 v2 v3 v4 v5 v6 t1 u1 t2 u2 t3 u3 (by have := vf1.nf.1; omega) (by have := vg1.nf.1; omega) (by have := vf2.nf.1; omega) (by have := vg2.nf.1; omega) (by have := vf3.nf.1; omega) (by have := vg3.nf.1; omega) ?_
  rw [← Pr.line (mvZ_len hl (ptZ_len _ _)) (mvZ_len hl (ptZ_len _ _)) (mvZ_len hl (ptZ_len _ _)) r1 r2 r3, detZ_mv hl (ptZ_len _ _) (ptZ_len _ _) (ptZ_len _ _), hd, Int.mul_zero]
end Go.Proofs.Ytgnfobnkhjlbbaa
