/- Homographies: walk of frame (package). Conditions: none. -/
import Derived.Test.YtdkgbkbbbldliaaGreatZYW
import Derived.Test.YtdkgbkbbbldliaaGreatZYR
import Derived.Test.YtdkgbkbbbldliaaGreatZYH
import Derived.Test.YtdkgbkbbbldliaaGreatZYS
import Derived.Test.YtdkgbkbbbldliaaGreatZYU
import Derived.Test.YtdkgbkbbbldliaaGreatZYT
import Derived.Test.YtdkgbkbbbldliaaGreatZHm10
import Derived.Test.YtdkgbkbbbldliaaGreatZAr10
set_option linter.unusedVariables false
set_option linter.unusedSimpArgs false
namespace Go.Proofs.YtdkgbkbbbldliaaGreat
open Go.RowKit Big
def zeros12 : List ZE := List.replicate 12 ZE.zero
/-- the four cells of a fraction of an array -/
theorem Wb {w : World} {g : Nat} {fs : List Rf} (hr : w.rangeAt g 0 (Kc (zl fs))) (j : Nat) (hj : j < fs.length) : w.cell? ⟨g, j * 4, none⟩ = some (.bool fs[j].na) ∧ w.cell? ⟨g, j * 4 + 1, none⟩ = some (.slice fs[j].A fs[j].xs.length fs[j].ca) ∧ w.cell? ⟨g, j * 4 + 2, none⟩ = some (.bool fs[j].nb) ∧ w.cell? ⟨g, j * 4 + 3, none⟩ = some (.slice fs[j].B fs[j].ys.length fs[j].cb) := by
 have hl := Ky fs
 obtain ⟨g1, g2⟩ := zl_get fs j hj
 obtain ⟨p0, p1⟩ := Jm (zl fs) (2 * j) (by omega)
 obtain ⟨p2, p3⟩ := Jm (zl fs) (2 * j + 1) (by omega)
 rw [List.getElem?_eq_getElem (by omega)] at g1 g2
 rw [Option.some.inj g1] at p0 p1
 rw [Option.some.inj g2] at p2 p3
 have t0 := hr _ _ p0
 have t1 := hr _ _ p1
 have t2 := hr _ _ p2
 have t3 := hr _ _ p3
 rw [Nat.zero_add] at t0 t1 t2 t3
 rw [show 2 * j * 2 = j * 4 by omega] at t0 t1
 rw [show (2 * j + 1) * 2 = j * 4 + 2 by omega] at t2 t3
 exact ⟨t0, t1, t2, t3⟩
/-- what Affine answers -/
def affX (qs : List (Int × Nat)) : Int × Int := match qs with
 | [a, b, _, d, e, _] => (a.1 * e.1 * ((b.2 : Int) * d.2), b.1 * d.1 * ((a.2 : Int) * e.2))
 | _ => (0, 0)
def affE (fs : List Rf) : List Int × Int :=
 if chkZ 40 fs = 0 then
  (if (affX (fs.map Rf.f)).1 = (affX (fs.map Rf.f)).2 then (List.replicate 18 0, 24) else resZ (intZ (fs.map Rf.f ++ [(0, 1), (0, 1), (1, 1)])))
 else (List.replicate 18 0, chkZ 40 fs)
def Rf.val (f : Rf) : Value := .agg #[.bool f.na, .slice f.A f.xs.length f.ca, .bool f.nb, .slice f.B f.ys.length f.cb]
end Go.Proofs.YtdkgbkbbbldliaaGreat
