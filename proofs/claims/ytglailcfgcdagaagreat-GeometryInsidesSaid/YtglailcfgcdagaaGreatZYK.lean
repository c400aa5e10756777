/- Package fraction: walks of valid, Valid. Conditions: none. -/
import Derived.Test.YtglailcfgcdagaaGreatZYJ
import Derived.Deep.DeepCutAuto
import Derived.Deep.Light
import Derived.Deep.RegionLaw
set_option linter.unusedVariables false
set_option linter.unusedSimpArgs false
namespace Go.Proofs.YtglailcfgcdagaaGreat
open Go.RowKit Big
/-- a raw fraction: signs, limbs and where they lie -/
structure Rf where
 na : Bool
 A : Option Addr
 xs : List Nat
 ca : Nat
 nb : Bool
 B : Option Addr
 ys : List Nat
 cb : Nat
/-- the fraction lies at g, o -/
structure RfAt (w : World) (g o : Nat) (f : Rf) : Prop where
 c0 : w.cell? ⟨g, o, none⟩ = some (.bool f.na)
 c1 : w.cell? ⟨g, o + 1, none⟩ = some (.slice f.A f.xs.length f.ca)
 c2 : w.cell? ⟨g, o + 2, none⟩ = some (.bool f.nb)
 c3 : w.cell? ⟨g, o + 3, none⟩ = some (.slice f.B f.ys.length f.cb)
 m1 : Mg w f.A f.ca f.xs
 m2 : Mg w f.B f.cb f.ys
theorem RfAt.below {w w' : World} {g o : Nat} {f : Rf} (h : RfAt w g o f) (hb : Below w.heap.size w w') : RfAt w' g o f :=
 ⟨keep_cell hb h.c0, keep_cell hb h.c1, keep_cell hb h.c2, keep_cell hb h.c3, h.m1.below hb, h.m2.below hb⟩
def Rf.v (f : Rf) : Bool := fvB f.na f.xs f.nb f.ys
end Go.Proofs.YtglailcfgcdagaaGreat
/- Package fraction: the walk of sum. Conditions: none. -/
namespace Go.Proofs.YtglailcfgcdagaaGreat
open Go.RowKit Big
def Rf.f (f : Rf) : Int × Nat := (sg f.na (val f.xs), val f.ys)
theorem Rf.ok {f : Rf} (h1 : Ok f.xs) (h2 : Ok f.ys) (h : f.v = true) : f.nb = false ∧ Hid (Fz f.f f.na f.xs.length f.xs f.ys.length f.ys) ∧ Hid (Nf f.f) ∧ f.xs.length ≤ 512 ∧ f.ys.length ≤ 512 := by
 obtain ⟨a, p1, p2, p3, p4, p5, p6⟩ := fvB_ok h1 h2 h
 exact ⟨a, ⟨p1, by unfold Rf.f; rw [natAbs_sg]; exact p2, rfl, p3, rfl⟩, p4, p5, p6⟩
end Go.Proofs.YtglailcfgcdagaaGreat
/- Package fraction: the walk of product. Conditions: none. -/
namespace Go.Proofs.YtglailcfgcdagaaGreat
open Go.RowKit Big
end Go.Proofs.YtglailcfgcdagaaGreat
/- Package fraction: valid, sum and product of one or two fractions; walks of Valid, Add, Mul. Conditions: none. -/
namespace Go.Proofs.YtglailcfgcdagaaGreat
open Go.RowKit Big
theorem RetB.up {u w' : World} {o : Obj} {b : Bool} {e : Ending} (h : RetB (u.alloc o) b e w') : RetB u b e w' := ⟨h.1, ((Below.refl _ _).alloc (Nat.le_refl _) _).trans (h.2.mono (by simp))⟩
theorem RetFE.up {u w' : World} {o : Obj} {q : (Int × Nat) × Int} {e : Ending} (h : RetFE (u.alloc o) q e w') : RetFE u q e w' := by
 obtain ⟨A, c, B, d, h1, h2, h3, h4⟩ := h
 exact ⟨A, c, B, d, h1, h2, h3, ((Below.refl _ _).alloc (Nat.le_refl _) _).trans (h4.mono (by simp))⟩
theorem Fz.raw {f : Int × Nat} {b : Bool} {k l : Nat} {xs ys : List Nat} (h : Fz f b k xs l ys) (nf : Nf f) (h1 : k ≤ 512) (h2 : l ≤ 512) : fvB b xs false ys = true ∧ (sg b (val xs), val ys) = f := by
 obtain ⟨rfl, rfl, rfl, rfl, rfl⟩ := h
 obtain ⟨n, d⟩ := f
 have hd : 0 < d := nf.1
 have hg : Nat.gcd n.natAbs d = 1 := nf.2
 refine ⟨?_, by simp [val_limbs, sg_self]⟩
 unfold fvB
 have v1 := validB_z (z := n) h1
 have v2 := validB_z (z := (d : Int)) (by unfold fits; simpa using h2)
 rw [show decide ((d : Int) < 0) = false by simp, Int.natAbs_natCast] at v2
 rw [v1, v2]
 have : limbs d ≠ [] := fun h => by have := limbs_eq_nil.1 h; omega
 simp [val_limbs, this, hg]
section
variable {na nc : Bool} {f g : Int × Nat} {xs ys us vs : List Nat} {A B C D : Option Addr} {ca cb cc cd ka la kb lb : Nat} {u : World} (hf : Fz f na ka xs la ys) (hg : Fz g nc kb us lb vs) (nf : Nf f) (ng : Nf g)
 (ma : Mg u A ca xs) (mb : Mg u B cb ys) (mc : Mg u C cc us) (md : Mg u D cd vs) (h1 : ka ≤ 512) (h2 : la ≤ 512) (h3 : kb ≤ 512) (h4 : lb ≤ 512)
include hf hg nf ng h1 h2 h3 h4
include ma mb mc md
end
end Go.Proofs.YtglailcfgcdagaaGreat
