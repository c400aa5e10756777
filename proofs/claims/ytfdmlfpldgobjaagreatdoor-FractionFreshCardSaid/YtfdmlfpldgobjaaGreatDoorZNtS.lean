/- Sizes of results on fractions; the laws of a field on what the functions answer. Conditions: none. -/
import Derived.Test.YtfdmlfpldgobjaaGreatDoorZYS
set_option linter.unusedVariables false
set_option linter.unusedSimpArgs false
namespace Go.Proofs.YtfdmlfpldgobjaaGreatDoor
open Go.RowKit Big
/-- both numbers lie under 2 ^ k -/
structure Sz (k : Nat) (f : Int × Nat) : Prop where
 n : f.1.natAbs < 2 ^ k
 d : f.2 < 2 ^ k
theorem fits_bits {z : Int} {k : Nat} (h : z.natAbs < 2 ^ k) (hk : k ≤ 16384) : fits z := by
 unfold fits
 exact limbs_of_bits h (by omega)
theorem Sz.vf {k : Nat} {f : Int × Nat} (h : Sz k f) (hk : k ≤ 16384) (n : Nf f) : Vf f := ⟨n, fits_bits h.n hk, fits_bits (by rw [Int.natAbs_natCast]; exact h.d) hk⟩
/-- a fraction in its box -/
structure Fb (w : World) (g : Nat) (b : Bool) (A : Option Addr) (k c : Nat) (xs : List Nat) (B : Option Addr) (l d : Nat) (ys : List Nat) : Prop where
 c0 : w.cell? ⟨g, 0, none⟩ = some (.bool b)
 c1 : w.cell? ⟨g, 1, none⟩ = some (.slice A k c)
 c2 : w.cell? ⟨g, 2, none⟩ = some (.bool false)
 c3 : w.cell? ⟨g, 3, none⟩ = some (.slice B l d)
 m : Mg w A c xs
 n : Mg w B d ys
theorem Fb.below {w w' : World} {g : Nat} {b : Bool} {A : Option Addr} {k c : Nat} {xs : List Nat} {B : Option Addr} {l d : Nat} {ys : List Nat} (h : Fb w g b A k c xs B l d ys) (hb : Below w.heap.size w w') : Fb w' g b A k c xs B l d ys :=
 ⟨keep_cell hb h.c0, keep_cell hb h.c1, keep_cell hb h.c2, keep_cell hb h.c3, h.m.below hb, h.n.below hb⟩
end Go.Proofs.YtfdmlfpldgobjaaGreatDoor
