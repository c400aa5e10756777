/- Integers in boxes; sizes of floors and rounded numbers. Conditions: none. -/
import Derived.Test.YtfhbigfbeppinaaGreatDoorZFrM
import Derived.Test.YtfhbigfbeppinaaGreatDoorZNtT
set_option linter.unusedVariables false
set_option linter.unusedSimpArgs false
namespace Go.Proofs.YtfhbigfbeppinaaGreatDoor
open Go.RowKit Big

/-- an integer in its box -/
structure Ib (w : World) (g : Nat) (b : Bool) (A : Option Addr) (k c : Nat) (xs : List Nat) : Prop where
  c0 : w.cell? ⟨g, 0, none⟩ = some (.bool b)
  c1 : w.cell? ⟨g, 1, none⟩ = some (.slice A k c)
  m : Mg w A c xs
theorem Ib.below {w w' : World} {g : Nat} {b : Bool} {A : Option Addr} {k c : Nat} {xs : List Nat} (h : Ib w g b A k c xs) (hb : Below w.heap.size w w') : Ib w' g b A k c xs := ⟨keep_cell hb h.c0, keep_cell hb h.c1, h.m.below hb⟩
theorem nf_int (n : Int) : Nf (n, 1) := ⟨by simp, by simp⟩
theorem new_int {n : Int} {k : Nat} (h : n.natAbs < 2 ^ k) (hk : k ≤ 16384) : newE n 1 = ((n, 1), 0) := by
  have := newE_nf (nf_int n) (fits_bits h hk) (fits_bits (k := 1) (by simp) (by omega))
  simpa using this
theorem sz_int {n : Int} {k : Nat} (h : n.natAbs < 2 ^ k) (hk : 0 < k) : Sz k (n, 1) := ⟨h, Nat.one_lt_two_pow (by omega)⟩
theorem flr_abs {x : Int × Nat} {k : Nat} (hd : 0 < x.2) (h : Sz k x) : (flrF x).natAbs < 2 ^ k := Nat.lt_of_le_of_lt (emod_abs (n := x.1) hd).2.2 h.n
theorem rnd_bits {x : Int × Nat} {k : Nat} (hd : 0 < x.2) (h : Sz k x) : (rndF x).natAbs < 2 ^ (k + 2) := by
  have h1 := (emod_abs (n := 2 * x.1 + x.2) (d := 2 * x.2) (by omega)).2.2
  have e : ((2 * x.2 : Nat) : Int) = 2 * (x.2 : Int) := by push_cast; rfl
  rw [e] at h1
  have h2 := h.n
  have h3 := h.d
  rw [Nat.pow_add]
  unfold rndF
  generalize 2 ^ k = P at *
  omega
end Go.Proofs.YtfhbigfbeppinaaGreatDoor
