/- Plain facts on texts and digits: they restore the number. Conditions: none. -/
import Derived.Test.YtgnfobnkhjlbbaaZYD
import Derived.Test.YtgnfobnkhjlbbaaZNtA
import Derived.Test.YtgnfobnkhjlbbaaZYM
import Derived.Test.YtgnfobnkhjlbbaaZYB
import Derived.Shelf.Strings.Cut
import Derived.Test.YtgnfobnkhjlbbaaZYI
set_option linter.unusedVariables false
set_option linter.unusedSimpArgs false
namespace Go.Proofs.Ytgnfobnkhjlbbaa
open Go.RowKit Big Go.Lib
end Go.Proofs.Ytgnfobnkhjlbbaa
/- The reference: walks of short, longer. Conditions: none. -/
namespace Go.Proofs.Ytgnfobnkhjlbbaa
open Go.RowKit Big
end Go.Proofs.Ytgnfobnkhjlbbaa
/- The reference: walks of FromDigits, Digits. Conditions: none. -/
namespace Go.Proofs.Ytgnfobnkhjlbbaa
open Go.RowKit Big
end Go.Proofs.Ytgnfobnkhjlbbaa
/- The reference: the walk of Digits. Conditions: none. -/
namespace Go.Proofs.Ytgnfobnkhjlbbaa
open Go.RowKit Big
theorem Mg.far {w : World} {A : Option Addr} {c : Nat} {xs : List Nat} (h : Mg w A c xs) (hl : 0 < xs.length) : ∀ p, A = some p → p.block < w.heap.size := by
  intro p hp
  obtain ⟨b, o, e, hB, _⟩ := h.rd hl
  rw [e] at hp
  injection hp with hp
  subst hp
  exact hB
end Go.Proofs.Ytgnfobnkhjlbbaa
/- Texts of fractions: what Format and Parse answer. Conditions: none. -/
namespace Go.Proofs.Ytgnfobnkhjlbbaa
open Go.RowKit Big Go.Lib
end Go.Proofs.Ytgnfobnkhjlbbaa
/- Valid fractions and what the functions answer at them; the examples' numbers. Conditions: none. -/
namespace Go.Proofs.Ytgnfobnkhjlbbaa
open Go.RowKit Big

/-- in lowest terms, both numbers of at most 512 limbs -/
structure Vf (f : Int × Nat) : Prop where
  nf : Nf f
  f1 : fits f.1
  f2 : fits (f.2 : Nat)
theorem Fz.valid {f : Int × Nat} {b : Bool} {k l : Nat} {xs ys : List Nat} (h : Fz f b k xs l ys) (v : Vf f) : fvB b xs false ys = true := by
  obtain ⟨rfl, rfl, rfl, rfl, rfl⟩ := h
  unfold fvB
  have v1 := validB_z v.f1
  have v2 := validB_z (z := (f.2 : Int)) v.f2
  rw [Int.natAbs_natCast, show decide ((f.2 : Int) < 0) = false by simp] at v2
  have h0 := v.nf.1
  have h1 : limbs f.2 ≠ [] := fun h => by have := limbs_eq_nil.1 h; omega
  rw [v1, v2, val_limbs, val_limbs, decide_eq_true h1, decide_eq_true v.nf.2]
  rfl
theorem Fz.pair {f : Int × Nat} {b : Bool} {k l : Nat} {xs ys : List Nat} (h : Fz f b k xs l ys) : (sg b (val xs), val ys) = f := by
  obtain ⟨rfl, rfl, rfl, rfl, rfl⟩ := h
  rw [val_limbs, val_limbs, sg_self]
theorem Vf.of_low {n : Int} {d : Nat} {p : Int × Nat} (hd : 0 < d) (h : lowE n d = (p, 0)) : Vf p := by
  unfold lowE at h
  split at h
  · rename_i hf
    rw [Prod.mk.injEq] at h
    rw [← h.1]
    exact ⟨low_nf hd, hf.1, hf.2⟩
  · simp at h
theorem Vf.of_new {x y : Int} {p : Int × Nat} (h : newE x y = (p, 0)) : Vf p := by
  unfold newE at h
  split at h
  · simp at h
  · exact Vf.of_low (by omega) h
theorem fits_w (z : Int) (h : z.natAbs < 4294967296) : fits z := by
  have := (limbs_len_iff z.natAbs 1).2 (by simpa using h)
  unfold fits; omega
theorem new_lit {x y : Int} {n : Int} {d : Nat} (hy : y ≠ 0) (h : low (sg (decide (x < 0) != decide (y < 0)) x.natAbs) y.natAbs = (n, d)) (h1 : n.natAbs < 4294967296) (h2 : d < 4294967296) : newE x y = ((n, d), 0) := by
  unfold newE
  rw [if_neg hy, lowE_yes, h]
  rw [h]
  exact ⟨fits_w _ h1, fits_w _ (by simpa using h2)⟩
theorem n_1_2 : newE 1 2 = ((1, 2), 0) := new_lit (by decide) (by decide) (by decide) (by decide)
theorem n_0_1 : newE 0 1 = ((0, 1), 0) := new_lit (by decide) (by decide) (by decide) (by decide)
theorem n_1_1 : newE 1 1 = ((1, 1), 0) := new_lit (by decide) (by decide) (by decide) (by decide)
end Go.Proofs.Ytgnfobnkhjlbbaa
