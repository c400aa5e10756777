/- The reference: walks of Valid, limb. Conditions: none. -/
import Derived.Test.YtgnfobnkhjlbbaaZYE
import Derived.Test.YtgnfobnkhjlbbaaZNtA
set_option linter.unusedVariables false
set_option linter.unusedSimpArgs false
namespace Go.Proofs.Ytgnfobnkhjlbbaa
open Go.RowKit Big
end Go.Proofs.Ytgnfobnkhjlbbaa
/- The reference: walks of Trim, signed, limit. Conditions: none. -/
namespace Go.Proofs.Ytgnfobnkhjlbbaa
open Go.RowKit Big
theorem RetZE.alloc {w w' : World} {z err : Int} {e : Ending} (h : RetZE w z err e w') (o : Obj) : RetZE w z err e (w'.alloc o) := by
  obtain ⟨A, c, h1, h2, h3⟩ := h
  exact ⟨A, c, h1, h2.alloc, h3.alloc h3.size _⟩
theorem RetZ.alloc {w w' : World} {z : Int} {e : Ending} (h : RetZ w z e w') (o : Obj) : RetZ w z e (w'.alloc o) := by
  obtain ⟨A, c, h1, h2, h3⟩ := h
  exact ⟨A, c, h1, h2.alloc, h3.alloc h3.size _⟩
/-- limbs in new memory -/
def RetNF (w : World) (n : Nat) (e : Ending) (w' : World) : Prop :=
  ∃ A c, e = .returned (.slice A (limbs n).length c) ∧ Mg w' A c (limbs n) ∧ Below w.heap.size w w' ∧ Hid (∀ p, A = some p → w.heap.size ≤ p.block)
theorem RetNF.any {w w' : World} {n : Nat} {e : Ending} (h : RetNF w n e w') : RetN w n e w' := by
  obtain ⟨A, c, h1, h2, h3, _⟩ := h; exact ⟨A, c, h1, h2, h3⟩
end Go.Proofs.Ytgnfobnkhjlbbaa
/- The reference: walks of order, plus, minus. Conditions: none. -/
namespace Go.Proofs.Ytgnfobnkhjlbbaa
open Go.RowKit Big
end Go.Proofs.Ytgnfobnkhjlbbaa
/- The reference: walks of times, half. Conditions: none. -/
namespace Go.Proofs.Ytgnfobnkhjlbbaa
open Go.RowKit Big
end Go.Proofs.Ytgnfobnkhjlbbaa
/- The reference: the walk of half. Conditions: none. -/
namespace Go.Proofs.Ytgnfobnkhjlbbaa
open Go.RowKit Big
end Go.Proofs.Ytgnfobnkhjlbbaa
/- The reference: walks of bit, divide. Conditions: none. -/
namespace Go.Proofs.Ytgnfobnkhjlbbaa
open Go.RowKit Big
end Go.Proofs.Ytgnfobnkhjlbbaa
/- The reference: walks of Neg, Cmp, Mul, Add. Conditions: none. -/
namespace Go.Proofs.Ytgnfobnkhjlbbaa
open Go.RowKit Big
section
variable (A B : Option Addr) (c d n m : Nat) (w : World) (ha : Mg w A c (limbs n)) (hb : Mg w B d (limbs m)) (hs : (limbs n).length ≤ 1048576) (ht : (limbs m).length ≤ 1048576)
include ha hs
include hb ht
end
end Go.Proofs.Ytgnfobnkhjlbbaa
/- The reference: walks of Sub, GCD. Conditions: none. -/
namespace Go.Proofs.Ytgnfobnkhjlbbaa
open Go.RowKit Big
theorem gA {a b t G : Nat} (h : Nat.gcd a b * 2 ^ t = G) (ha : a % 2 = 0) (hb : b % 2 = 0) : Nat.gcd (a / 2) (b / 2) * 2 ^ (t + 1) = G := by
  have e := gcd_both (a / 2) (b / 2)
  rw [show 2 * (a / 2) = a by omega, show 2 * (b / 2) = b by omega] at e
  rw [← h, e, Nat.pow_succ, Nat.mul_comm 2 (Nat.gcd _ _), Nat.mul_assoc, Nat.mul_comm 2]
end Go.Proofs.Ytgnfobnkhjlbbaa
/- The reference: the walk of DivMod. Conditions: none. -/
namespace Go.Proofs.Ytgnfobnkhjlbbaa
open Go.RowKit Big
end Go.Proofs.Ytgnfobnkhjlbbaa
/- Package bigint and the reference give the same results. Conditions: none. -/
namespace Go.Proofs.Ytgnfobnkhjlbbaa
open Go.RowKit Big

theorem RetZE.g {w w' : World} {z err : Int} {b : Bool} {n : Nat} {L : List Nat} {e : Ending} (h : RetZE w z err e w') (I : Iz z b n L) : GZE w b n L err e w' := by
  obtain ⟨rfl, rfl, rfl⟩ := I; exact h
theorem RetZ.g {w w' : World} {z : Int} {b : Bool} {n : Nat} {L : List Nat} {e : Ending} (h : RetZ w z e w') (I : Iz z b n L) : GZ w b n L e w' := by
  obtain ⟨rfl, rfl, rfl⟩ := I; exact h
theorem RetDM.g {w w' : World} {z r err : Int} {b b' : Bool} {n n' : Nat} {L L' : List Nat} {e : Ending} (h : RetDM w z r err e w') (I : Iz z b n L) (I' : Iz r b' n' L') : GDM w b n L b' n' L' err e w' := by
  obtain ⟨rfl, rfl, rfl⟩ := I; obtain ⟨rfl, rfl, rfl⟩ := I'; exact h
end Go.Proofs.Ytgnfobnkhjlbbaa
/- The reference: walks of FromInt, ToInt. Conditions: none. -/
namespace Go.Proofs.Ytgnfobnkhjlbbaa
open Go.RowKit Big
end Go.Proofs.Ytgnfobnkhjlbbaa
/- The contracts of the reference on integers once more, the sign, the length and the limbs of each integer under names of their own. Conditions: none. -/
namespace Go.Proofs.Ytgnfobnkhjlbbaa
open Go.RowKit Big
section
variable {x y z r err : Int} {b b' b2 b3 : Bool} {n n' n2 n3 : Nat} {xs ys zs rs : List Nat} {A B : Option Addr} {c d : Nat} {w : World}
variable (hx : Iz x b n xs) (hy : Iz y b' n' ys)
include hx hy
section
variable (hz : Iz z b2 n2 zs) (he : fitE r = (z, err)) (ha : Mg w A c xs) (hb : Mg w B d ys) (fx : fits x) (fy : fits y)
include hz he ha hb fx fy
end
end
end Go.Proofs.Ytgnfobnkhjlbbaa
