/- The frame of the statements on tables: numbers, bitmaps, lines, a case. Conditions: none. -/
import Derived.Test.YtjfgklhifhaaoaaGreatZFrmT
set_option linter.unusedVariables false
set_option linter.unusedSimpArgs false
namespace Go.Proofs.YtjfgklhifhaaoaaGreat
open Go.ChangeShapes Go.WideShapes Go.ChangeAt Go.RowKit Go.Deep Go.Joins
set_option maxRecDepth 100000
section
variable {H : Type} {enc : TypeId × Value → H} {W : World} {b0 base : Nat} {r : Reach} {spare : Nat → Bool} {held : Bool}
theorem one_bool {n : Nat} {c : Value} {y : DataW H × List MemPlace} (h : DataW.trod enc Tryz.prog W base spare held n 4 [c] = some y) : ∃ z, c = .bool z := by
 obtain ⟨z, e, _⟩ := DataW.trod_bool Tryz.underlying4 h
 simp only [List.cons.injEq, and_true] at e
 exact ⟨z, e⟩
theorem list5 {α : Type} {cs : List α} (h : cs.length = 5) : ∃ c0 c1 c2 c3 c4, cs = [c0, c1, c2, c3, c4] := by
 match cs, h with
 | [c0, c1, c2, c3, c4], _ => exact ⟨c0, c1, c2, c3, c4, rfl⟩
theorem ru_cells {n : Nat} {cs : List Value} {y : DataW H × List MemPlace} (h : DataW.trod enc Tryz.prog W base spare held n 53 cs = some y) : ∃ q : Ru, cs = RuK.enc q := by
 obtain ⟨y0, y1, y2, y3, y4, m, hl, h0, h1, h2, h3, h4⟩ := trod_struct5 Tryz.underlying53 h
 obtain ⟨c0, c1, c2, c3, c4, rfl⟩ := list5 (show cs.length = 5 by rw [hl]; kernel_rfl)
 have nb : Tryz.prog.cellsOf 4 = 1 := by kernel_rfl
 simp only [cells1, nb] at h0 h1 h2 h3 h4
 obtain ⟨v, rfl⟩ := one_bool h0
 obtain ⟨z, rfl⟩ := one_int h1
 obtain ⟨t, rfl⟩ := one_int h2
 obtain ⟨s, rfl⟩ := one_int h3
 obtain ⟨o, rfl⟩ := one_int h4
 exact ⟨⟨v, z, t, s, o⟩, rfl⟩
/-- a list of lines that came in -/
theorem open_Rus {v : Value} {d : DataW H} {p : List MemPlace} (hv : Value.okWide Tryz.prog W r b0 25 v) (h : DataW.Trod enc Tryz.prog W base (fun _ => true) held 25 v d p) :
  ∃ (l : List Ru) (A : Option Addr) (c : Nat), v = .slice A l.length c ∧ RuK.Rd W A c l := by
 obtain ⟨A, n, c, rfl⟩ := okWide_slice Tryz.underlying25 hv
 obtain ⟨fuel, hf⟩ := h
 obtain ⟨l, A', c', e, hr⟩ := open_row RuKo (by kernel_rfl) (fun _ _ _ h => ru_cells h) hf
 have e2 : [Value.slice A n c] = [.slice A' l.length c'] := e
 simp only [List.cons.injEq, and_true] at e2
 exact ⟨l, A', c', e2, hr⟩
end
end Go.Proofs.YtjfgklhifhaaoaaGreat
