/- Package fraction: the walk of product. Conditions: none. -/
import Derived.Test.YtgnfobnkhjlbbaaZYK
import Derived.Deep.RegionLaw
set_option linter.unusedVariables false
set_option linter.unusedSimpArgs false
namespace Go.Proofs.Ytgnfobnkhjlbbaa
open Go.RowKit Big
end Go.Proofs.Ytgnfobnkhjlbbaa
/- Package fraction: valid, sum and product of one or two fractions; walks of Valid, Add, Mul. Conditions: none. -/
set_option linter.unusedVariables false
set_option linter.unusedSimpArgs false
namespace Go.Proofs.Ytgnfobnkhjlbbaa
open Go.RowKit Big
theorem rfat1 {na nb : Bool} {xs ys : List Nat} {A B : Option Addr} {ca cb : Nat} {u : World} (ma : Mg u A ca xs) (mb : Mg u B cb ys) :
    ∀ j (h : j < [(⟨na, A, xs, ca, nb, B, ys, cb⟩ : Rf)].length), RfAt (u.alloc (.cells #[.bool na, .slice A xs.length ca, .bool nb, .slice B ys.length cb] 26)) u.heap.size (j * 4) [(⟨na, A, xs, ca, nb, B, ys, cb⟩ : Rf)][j] := fun j h => by
  obtain ⟨p, _, _⟩ := box_keep (w := u) (Below.refl _ (u.alloc (.cells #[.bool na, .slice A xs.length ca, .bool nb, .slice B ys.length cb] 26)))
  match j, h with
  | 0, _ => exact ⟨(p 0).trans rfl, (p 1).trans rfl, (p 2).trans rfl, (p 3).trans rfl, ma.alloc, mb.alloc⟩
theorem RetB.up {u w' : World} {o : Obj} {b : Bool} {e : Ending} (h : RetB (u.alloc o) b e w') : RetB u b e w' := ⟨h.1, ((Below.refl _ _).alloc (Nat.le_refl _) _).trans (h.2.mono (by simp))⟩
theorem RetFE.up {u w' : World} {o : Obj} {q : (Int × Nat) × Int} {e : Ending} (h : RetFE (u.alloc o) q e w') : RetFE u q e w' := by
  obtain ⟨A, c, B, d, h1, h2, h3, h4⟩ := h
  exact ⟨A, c, B, d, h1, h2, h3, ((Below.refl _ _).alloc (Nat.le_refl _) _).trans (h4.mono (by simp))⟩
theorem Frvalid1 {na nb : Bool} {xs ys : List Nat} {A B : Option Addr} {ca cb : Nat} {u : World} (ma : Mg u A ca xs) (mb : Mg u B cb ys) :
    Calls Try.prog 61 #[.slice (some ⟨u.heap.size, 0, none⟩) 1 1] (u.alloc (.cells #[.bool na, .slice A xs.length ca, .bool nb, .slice B ys.length cb] 26)) (RetB u (fvB na xs nb ys)) := by
  refine (Frvalid_any [(⟨na, A, xs, ca, nb, B, ys, cb⟩ : Rf)] u.heap.size 1 _ (by simp) (by simp) (by omega) (rfat1 ma mb)).mono fun e w' h => ?_
  have := RetB.up h
  simpa [Rf.v] using this
theorem Fz.raw {f : Int × Nat} {b : Bool} {k l : Nat} {xs ys : List Nat} (h : Fz f b k xs l ys) (nf : Nf f) (h1 : k ≤ 512) (h2 : l ≤ 512) : fvB b xs false ys = true ∧ (sg b (val xs), val ys) = f := by
  obtain ⟨rfl, rfl, rfl, rfl, rfl⟩ := h
  obtain ⟨n, d⟩ := f
  have hd : 0 < d := nf.1
  have hg : Nat.gcd n.natAbs d = 1 := nf.2
  refine ⟨?_, by simp [val_limbs, sg_self]⟩
  unfold fvB
  have v1 := validB_z (z := n) h1
  have v2 := validB_z (z := (d : Int)) (by unfold fits; simpa using h2)
  rw [show decide ((d : Int) < 0) = false by simp, Int.natAbs_natCast] at v2
  rw [v1, v2]
  have : limbs d ≠ [] := fun h => by have := limbs_eq_nil.1 h; omega
  simp [val_limbs, this, hg]
section
variable {na nc : Bool} {f g : Int × Nat} {xs ys us vs : List Nat} {A B C D : Option Addr} {ca cb cc cd ka la kb lb : Nat} {u : World} (hf : Fz f na ka xs la ys) (hg : Fz g nc kb us lb vs) (nf : Nf f) (ng : Nf g)
  (ma : Mg u A ca xs) (mb : Mg u B cb ys) (mc : Mg u C cc us) (md : Mg u D cd vs) (h1 : ka ≤ 512) (h2 : la ≤ 512) (h3 : kb ≤ 512) (h4 : lb ≤ 512)
include hf hg nf ng h1 h2 h3 h4
include ma mb mc md
end

set_option maxHeartbeats 1000000 in
theorem FrValid_any {na nb : Bool} {xs ys : List Nat} {A B : Option Addr} {c d : Nat} {w : World} (ha : Mg w A c xs) (hb : Mg w B d ys) :
    Calls Try.prog 42 #[.agg #[.bool na, .slice A xs.length c, .bool nb, .slice B ys.length d]] w (RetB w (fvB na xs nb ys)) := by
  have HX := hid fun (w1 : World) (h : Below w.heap.size w w1) => Frvalid1 (na := na) (nb := nb) (u := w1) (ha.below h) (hb.below h)
  generalize fvB na xs nb ys = r at *
  clear ha hb
  generalize xs.length = k at *
  generalize ys.length = l at *
  go_enter Try.func42, Try.ntmps42
  go_wp2_with fail
  have h0 : Below w.heap.size w (w.alloc (.cells #[.bool na, .slice A k c, .bool nb, .slice B l d] 26)) := (Below.refl _ _).alloc (Nat.le_refl _) _
  have HX2 := HX.out _ h0
  simp only [World.size_alloc] at HX2
  refine HX2.mono ?_
  rintro e w1 ⟨rfl, h1⟩
  go_wp2
  go_ret
  exact ⟨rfl, h0.trans (h1.mono (by simp))⟩
end Go.Proofs.Ytgnfobnkhjlbbaa
