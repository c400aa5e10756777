/- The frame of the statement SamplingScales: five small numbers. Conditions: none. -/
import Derived.Test.YtdkgbkbbbldliaaGreatZSA
set_option linter.unusedVariables false
set_option linter.unusedSimpArgs false
namespace Go.Proofs.YtdkgbkbbbldliaaGreat
open Go.ChangeShapes Go.WideShapes Go.ChangeAt Go.RowKit Go.Deep Go.Joins
set_option maxRecDepth 100000
section
variable {H : Type} {enc : TypeId × Value → H} {W : World} {b0 base : Nat} {r : Reach} {held : Bool}
theorem list5 {α : Type} {cs : List α} (h : cs.length = 5) : ∃ c0 c1 c2 c3 c4, cs = [c0, c1, c2, c3, c4] := by
 match cs, h with
 | [c0, c1, c2, c3, c4], _ => exact ⟨c0, c1, c2, c3, c4, rfl⟩
theorem trod_struct5 {P : Program} {t : TypeId} {f0 f1 f2 f3 f4 : Field} {fuel : Nat} {cs : List Value} {x : DataW H × List MemPlace} {spare : Nat → Bool} (ht : P.underlying t = some (.struct #[f0, f1, f2, f3, f4])) (h : DataW.trod enc P W base spare held fuel t cs = some x) :
  ∃ y0 y1 y2 y3 y4 n, cs.length = P.cellsOf t ∧ DataW.trod enc P W base spare held n f0.type ((cs.drop f0.offset).take (P.cellsOf f0.type)) = some y0 ∧
   DataW.trod enc P W base spare held n f1.type ((cs.drop f1.offset).take (P.cellsOf f1.type)) = some y1 ∧ DataW.trod enc P W base spare held n f2.type ((cs.drop f2.offset).take (P.cellsOf f2.type)) = some y2 ∧
   DataW.trod enc P W base spare held n f3.type ((cs.drop f3.offset).take (P.cellsOf f3.type)) = some y3 ∧ DataW.trod enc P W base spare held n f4.type ((cs.drop f4.offset).take (P.cellsOf f4.type)) = some y4 := by
 obtain ⟨xs, n, _, rfl, hl, hlen, hf⟩ := DataW.trod_struct ht h
 match xs, hlen with
 | [y0, y1, y2, y3, y4], _ => exact ⟨y0, y1, y2, y3, y4, n, hl, by simpa using hf 0 f0 rfl, by simpa using hf 1 f1 rfl, by simpa using hf 2 f2 rfl, by simpa using hf 3 f3 rfl, by simpa using hf 4 f4 rfl⟩
theorem open_Shift {v : Value} {d : DataW H} {p : List MemPlace} (hv : Value.okWide Tryz.prog W r b0 55 v) (h : DataW.Trod enc Tryz.prog W base (fun _ => true) held 55 v d p) :
  ∃ n0 n1 n2 n3 n4 : Int, v = .agg #[.int .i8 n0, .int .i8 n1, .int .i8 n2, .int .i8 n3, .int .i8 n4] ∧ (Lit.int .i8 n0).wf = true ∧ (Lit.int .i8 n1).wf = true ∧ (Lit.int .i8 n2).wf = true ∧ (Lit.int .i8 n3).wf = true ∧ (Lit.int .i8 n4).wf = true := by
 obtain ⟨cs, rfl, hsz⟩ := okWide_struct Tryz.underlying55 hv
 obtain ⟨fuel, hf⟩ := h
 obtain ⟨y0, y1, y2, y3, y4, k, hl, q0, q1, q2, q3, q4⟩ := trod_struct5 Tryz.underlying55 hf
 have hl5 : cs.toList.length = 5 := by rw [show cs.toList.length = Tryz.prog.cellsOf 55 from hl]; kernel_rfl
 obtain ⟨c0, c1, c2, c3, c4, hcs⟩ := list5 hl5
 have hcs' : cs = #[c0, c1, c2, c3, c4] := by rw [← Array.toArray_toList (xs := cs), hcs]
 subst hcs'
 have n1 : Tryz.prog.cellsOf 53 = 1 := by kernel_rfl
 have g0 : DataW.trod enc Tryz.prog W base (fun _ => true) held k 53 [c0] = some y0 := by
  rw [show [c0] = ([c0, c1, c2, c3, c4].drop 0).take (Tryz.prog.cellsOf 53) by rw [n1]; rfl]; exact q0
 have g1 : DataW.trod enc Tryz.prog W base (fun _ => true) held k 53 [c1] = some y1 := by
  rw [show [c1] = ([c0, c1, c2, c3, c4].drop 1).take (Tryz.prog.cellsOf 53) by rw [n1]; rfl]; exact q1
 have g2 : DataW.trod enc Tryz.prog W base (fun _ => true) held k 53 [c2] = some y2 := by
  rw [show [c2] = ([c0, c1, c2, c3, c4].drop 2).take (Tryz.prog.cellsOf 53) by rw [n1]; rfl]; exact q2
 have g3 : DataW.trod enc Tryz.prog W base (fun _ => true) held k 53 [c3] = some y3 := by
  rw [show [c3] = ([c0, c1, c2, c3, c4].drop 3).take (Tryz.prog.cellsOf 53) by rw [n1]; rfl]; exact q3
 have g4 : DataW.trod enc Tryz.prog W base (fun _ => true) held k 53 [c4] = some y4 := by
  rw [show [c4] = ([c0, c1, c2, c3, c4].drop 4).take (Tryz.prog.cellsOf 53) by rw [n1]; rfl]; exact q4
 obtain ⟨z0, e0, _, w0⟩ := DataW.trod_int Tryz.underlying53 g0
 obtain ⟨z1, e1, _, w1⟩ := DataW.trod_int Tryz.underlying53 g1
 obtain ⟨z2, e2, _, w2⟩ := DataW.trod_int Tryz.underlying53 g2
 obtain ⟨z3, e3, _, w3⟩ := DataW.trod_int Tryz.underlying53 g3
 obtain ⟨z4, e4, _, w4⟩ := DataW.trod_int Tryz.underlying53 g4
 simp only [List.cons.injEq, and_true] at e0 e1 e2 e3 e4
 subst e0 e1 e2 e3 e4
 exact ⟨z0, z1, z2, z3, z4, rfl, w0, w1, w2, w3, w4⟩
end
end Go.Proofs.YtdkgbkbbbldliaaGreat
