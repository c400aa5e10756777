/- Plain facts on the chapter's examples. Conditions: none. -/
import Derived.Test.YtkfpcohdbbhmaaaDoorBi26
import Derived.Test.YtkfpcohdbbhmaaaDoorNtA
import Derived.Test.YtkfpcohdbbhmaaaDoorBiD
set_option linter.unusedVariables false
set_option linter.unusedSimpArgs false
namespace Go.Proofs.YtkfpcohdbbhmaaaDoor
open Go.RowKit Big

theorem fits_lt (z : Int) (k : Nat) (hk : k ≤ 512) (h : z.natAbs < 4294967296 ^ k) : fits z := by
  unfold fits
  have := (limbs_len_iff z.natAbs k).2 h
  omega
theorem fits_100 : fits (2 ^ 100) := fits_lt _ 4 (by omega) (by decide)
theorem fits_word (z : Int) (h : z.natAbs < 4294967296) : fits z := fits_lt _ 1 (by omega) (by simpa using h)
theorem fitE_100 : fitE (2 ^ 100) = (2 ^ 100, 0) := fitE_yes fits_100
theorem par_m12 : parE [45, 49, 50] = (-12, 0) := by decide +kernel
theorem par_m0 : parE [45, 48] = (0, 9) := by decide +kernel
theorem dg_1000 : dgE 900 1000 = ([1, 100], 0) := by
  have e : digs 900 1000 = [100, 1] := by rw [digs_pos (by omega) (by omega), digs_pos (by omega) (by omega)]; simp [digs_zero]
  simp [dgE, e]
theorem dm_q : dmQ (-7) 2 = -4 := by decide
theorem dm_r : dmR (-7) 2 = 1 := by decide
theorem fm_6 : fmtZ 6 = [54] := by decide +kernel
theorem fm_m4 : fmtZ (-4) = [45, 52] := by decide +kernel
theorem fm_1 : fmtZ 1 = [49] := by decide +kernel
theorem fm_100 : fmtZ (2 ^ 100) = [49, 50, 54, 55, 54, 53, 48, 54, 48, 48, 50, 50, 56, 50, 50, 57, 52, 48, 49, 52, 57, 54, 55, 48, 51, 50, 48, 53, 51, 55, 54] := by decide +kernel

end Go.Proofs.YtkfpcohdbbhmaaaDoor
