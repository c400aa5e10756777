/- Geometry: two arrays of three points are compared. Conditions: none. -/
import Derived.Test.YtglailcfgcdagaaZGo1
import Derived.Laws.StructEq
set_option linter.unusedVariables false
set_option linter.unusedSimpArgs false
namespace Go.Proofs.Ytglailcfgcdagaa
open Go.RowKit Big
theorem eqPt (d : Nat) (a0 a1 b0 b1 : Int) (w : World) : (Op.equalIn (d + 2) 23 (.agg #[.int .i64 a0, .int .i64 a1]) (.agg #[.int .i64 b0, .int .i64 b1])).run Try.prog w = .ok (decide (a0 = b0) && decide (a1 = b1)) w := by
 have u3 := Try.underlying3
 have a3 := Try.isAgg3
 have z3 := Try.sizeOf3
 have hS : Try.prog.underlying 23 = some (.struct (Try.prog.fieldsOf 23)) := by kernel_rfl
 have hp : Try.prog.stoodInHeld 23 = false := by kernel_rfl
 rw [run_equalIn_agg w (d + 1) 23 _ _ hS hp]
 simp only [Program.fieldsOf, Try.underlying23]
 go_simp
 by_cases h1 : a0 = b0 <;> by_cases h2 : a1 = b1 <;> simp [h1, h2]
theorem eq3Pt (d : Nat) (a0 a1 a2 a3 a4 a5 b0 b1 b2 b3 b4 b5 : Int) (w : World) :
  (Op.equalIn (d + 2 + 1) 31 (.agg #[.int .i64 a0, .int .i64 a1, .int .i64 a2, .int .i64 a3, .int .i64 a4, .int .i64 a5]) (.agg #[.int .i64 b0, .int .i64 b1, .int .i64 b2, .int .i64 b3, .int .i64 b4, .int .i64 b5])).run Try.prog w =
   .ok ((decide (a0 = b0) && decide (a1 = b1)) && ((decide (a2 = b2) && decide (a3 = b3)) && (decide (a4 = b4) && decide (a5 = b5)))) w := by
 have u31 := Try.underlying31
 have a23 := Try.isAgg23
 have z23 := Try.sizeOf23
 have E := fun (a0 a1 b0 b1 : Int) (w : World) => eqPt d a0 a1 b0 b1 w
 unfold Op.equalIn
 generalize Op.equalIn (d + 2) = eqq at *
 simp only [Sem.run_bind, run_underlying u31, Result.andThen_ok]
 simp [part, Sem.run_bind, a23, z23, Std.Legacy.Range.forIn_eq_forIn_range', Std.Legacy.Range.size, List.range'_succ]
 rw [E]
 by_cases h0 : a0 = b0 <;> by_cases h1 : a1 = b1 <;> by_cases h2 : a2 = b2 <;> by_cases h3 : a3 = b3 <;> by_cases h4 : a4 = b4 <;> by_cases h5 : a5 = b5 <;> simp [h0, h1, h2, h3, h4, h5, E]
/-- two arrays of three points are compared -/
theorem eqArr (a0 a1 a2 a3 a4 a5 b0 b1 b2 b3 b4 b5 : Int) (w : World) :
  (Op.equalIn 10000 31 (.agg #[.int .i64 a0, .int .i64 a1, .int .i64 a2, .int .i64 a3, .int .i64 a4, .int .i64 a5]) (.agg #[.int .i64 b0, .int .i64 b1, .int .i64 b2, .int .i64 b3, .int .i64 b4, .int .i64 b5])).run Try.prog w =
   .ok ((decide (a0 = b0) && decide (a1 = b1)) && ((decide (a2 = b2) && decide (a3 = b3)) && (decide (a4 = b4) && decide (a5 = b5)))) w := eq3Pt 9997 a0 a1 a2 a3 a4 a5 b0 b1 b2 b3 b4 b5 w
end Go.Proofs.Ytglailcfgcdagaa
