/- Geometry: two arrays of three points are compared. Conditions: none. -/
import Derived.Test.YtglailcfgcdagaaGreatZGo1
import Derived.Laws.StructEq
set_option linter.unusedVariables false
set_option linter.unusedSimpArgs false
namespace Go.Proofs.YtglailcfgcdagaaGreat
open Go.RowKit Big
theorem eqPt (d : Nat) (a0 a1 b0 b1 : Int) (w : World) : (Op.equalIn (d + 2) 24 (.agg #[.int .i64 a0, .int .i64 a1]) (.agg #[.int .i64 b0, .int .i64 b1])).run Tryz.prog w = .ok (decide (a0 = b0) && decide (a1 = b1)) w := by
 have u3 := Tryz.underlying3
 have a3 := Tryz.isAgg3
 have z3 := Tryz.sizeOf3
 have hS : Tryz.prog.underlying 24 = some (.struct (Tryz.prog.fieldsOf 24)) := by kernel_rfl
 have hp : Tryz.prog.stoodInHeld 24 = false := by kernel_rfl
 rw [run_equalIn_agg w (d + 1) 24 _ _ hS hp]
 simp only [Program.fieldsOf, Tryz.underlying24]
 go_simp
 by_cases h1 : a0 = b0 <;> by_cases h2 : a1 = b1 <;> simp [h1, h2]
theorem eq3Pt (d : Nat) (a0 a1 a2 a3 a4 a5 b0 b1 b2 b3 b4 b5 : Int) (w : World) :
  (Op.equalIn (d + 2 + 1) 38 (.agg #[.int .i64 a0, .int .i64 a1, .int .i64 a2, .int .i64 a3, .int .i64 a4, .int .i64 a5]) (.agg #[.int .i64 b0, .int .i64 b1, .int .i64 b2, .int .i64 b3, .int .i64 b4, .int .i64 b5])).run Tryz.prog w =
   .ok ((decide (a0 = b0) && decide (a1 = b1)) && ((decide (a2 = b2) && decide (a3 = b3)) && (decide (a4 = b4) && decide (a5 = b5)))) w := by
 have u31 := Tryz.underlying38
 have a23 := Tryz.isAgg24
 have z23 := Tryz.sizeOf24
 have E := fun (a0 a1 b0 b1 : Int) (w : World) => eqPt d a0 a1 b0 b1 w
 unfold Op.equalIn
 generalize Op.equalIn (d + 2) = eqq at *
 simp only [Sem.run_bind, run_underlying u31, Result.andThen_ok]
 simp [part, Sem.run_bind, a23, z23, Std.Legacy.Range.forIn_eq_forIn_range', Std.Legacy.Range.size, List.range'_succ]
 rw [E]
 by_cases h0 : a0 = b0 <;> by_cases h1 : a1 = b1 <;> by_cases h2 : a2 = b2 <;> by_cases h3 : a3 = b3 <;> by_cases h4 : a4 = b4 <;> by_cases h5 : a5 = b5 <;> simp [h0, h1, h2, h3, h4, h5, E]
/-- two arrays of three points are compared -/
theorem eqArr (a0 a1 a2 a3 a4 a5 b0 b1 b2 b3 b4 b5 : Int) (w : World) :
  (Op.equalIn 10000 38 (.agg #[.int .i64 a0, .int .i64 a1, .int .i64 a2, .int .i64 a3, .int .i64 a4, .int .i64 a5]) (.agg #[.int .i64 b0, .int .i64 b1, .int .i64 b2, .int .i64 b3, .int .i64 b4, .int .i64 b5])).run Tryz.prog w =
   .ok ((decide (a0 = b0) && decide (a1 = b1)) && ((decide (a2 = b2) && decide (a3 = b3)) && (decide (a4 = b4) && decide (a5 = b5)))) w := eq3Pt 9997 a0 a1 a2 a3 a4 a5 b0 b1 b2 b3 b4 b5 w
end Go.Proofs.YtglailcfgcdagaaGreat
