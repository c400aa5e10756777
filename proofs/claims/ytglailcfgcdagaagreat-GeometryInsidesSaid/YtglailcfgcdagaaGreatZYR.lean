/- Homographies: walks of size and check (package). Conditions: none. -/
import Derived.Test.YtglailcfgcdagaaGreatZYQ
import Derived.Test.YtglailcfgcdagaaGreatZYK
set_option linter.unusedVariables false
set_option linter.unusedSimpArgs false
namespace Go.Proofs.YtglailcfgcdagaaGreat
open Go.RowKit Big
end Go.Proofs.YtglailcfgcdagaaGreat
/- Arrays of fractions of which nothing is known. Conditions: none. -/
namespace Go.Proofs.YtglailcfgcdagaaGreat
open Go.RowKit Big
structure Rf.mg (w : World) (f : Rf) : Prop where
 m1 : Mg w f.A f.ca f.xs
 m2 : Mg w f.B f.cb f.ys
theorem Rf.mg.below {w w' : World} {f : Rf} (h : f.mg w) (hb : Below w.heap.size w w') : f.mg w' := ⟨h.m1.below hb, h.m2.below hb⟩
/-- a matrix, if the truth value is true -/
def RetMat (w : World) (b : Bool) (zs : List Int) (e : Ending) (w' : World) : Prop := ∃ l : List ZE, l.length = 9 ∧ e = .returned (.tuple #[.agg (cellsM l).toArray, .bool b]) ∧ (b = true → l.map (·.z) = zs ∧ ∀ x ∈ l, x.ok w') ∧ Below w.heap.size w w'
theorem RetMat.no {w W : World} {b : Bool} {zs : List Int} (hb : b = false) (h : Below w.heap.size w W) : RetMat w b zs (.returned (.tuple #[.agg (cellsM zeros9).toArray, .bool false])) W := by
 subst hb
 exact ⟨zeros9, rfl, rfl, fun h => by simp at h, h⟩
end Go.Proofs.YtglailcfgcdagaaGreat
