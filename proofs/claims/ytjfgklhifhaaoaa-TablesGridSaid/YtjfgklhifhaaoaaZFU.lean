/- The frame of the statements on tables: numbers, bitmaps, lines, a case. Conditions: none. -/
import Derived.Test.YtjfgklhifhaaoaaZFrmT
set_option linter.unusedVariables false
set_option linter.unusedSimpArgs false
namespace Go.Proofs.Ytjfgklhifhaaoaa
open Go.ChangeShapes Go.WideShapes Go.ChangeAt Go.RowKit Go.Deep Go.Joins
set_option maxRecDepth 100000
section
variable {H : Type} {enc : TypeId × Value → H} {W : World} {b0 base : Nat} {r : Reach} {spare : Nat → Bool} {held : Bool}
theorem list5 {α : Type} {cs : List α} (h : cs.length = 5) : ∃ c0 c1 c2 c3 c4, cs = [c0, c1, c2, c3, c4] := by
 match cs, h with
 | [c0, c1, c2, c3, c4], _ => exact ⟨c0, c1, c2, c3, c4, rfl⟩
/-- a list of numbers that came in -/
theorem open_Ints {v : Value} {d : DataW H} {p : List MemPlace} (hv : Value.okWide Try.prog W r b0 22 v) (h : DataW.Trod enc Try.prog W base (fun _ => true) held 22 v d p) :
  ∃ (l : List Int) (A : Option Addr) (c : Nat), v = .slice A l.length c ∧ InK.Rd W A c l := by
 obtain ⟨A, n, c, rfl⟩ := okWide_slice Try.underlying22 hv
 obtain ⟨fuel, hf⟩ := h
 obtain ⟨l, A', c', e, hr⟩ := open_row InKo (by kernel_rfl) (fun _ _ _ h => in_cells h) hf
 have e2 : [Value.slice A n c] = [.slice A' l.length c'] := e
 simp only [List.cons.injEq, and_true] at e2
 exact ⟨l, A', c', e2, hr⟩
end
end Go.Proofs.Ytjfgklhifhaaoaa
/- The frame of the statement TablesGrid: lists of numbers and five numbers. Conditions: none. -/
namespace Go.Proofs.Ytjfgklhifhaaoaa
open Go.ChangeShapes Go.WideShapes Go.ChangeAt Go.RowKit Go.Deep Go.Joins
set_option maxRecDepth 100000
section
variable {H : Type} {enc : TypeId × Value → H} {W : World} {b0 base : Nat} {r : Reach} {spare : Nat → Bool} {held : Bool}
theorem okWide_agg {t : TypeId} {n : Nat} {e : TypeId} (ht : Try.prog.underlying t = some (.array n e)) {v : Value} (h : Value.okWide Try.prog W r b0 t v) : ∃ cs, v = .agg cs := by
 simp only [Value.okWide, ht] at h
 obtain ⟨cs, h1, _⟩ := h
 exact ⟨cs, h1⟩
/-- five numbers that came in -/
theorem open_Five {v : Value} {d : DataW H} {p : List MemPlace} (hv : Value.okWide Try.prog W r b0 23 v) (h : DataW.Trod enc Try.prog W base spare held 23 v d p) :
  ∃ a b c e f : Int, v = .agg #[.int .i64 a, .int .i64 b, .int .i64 c, .int .i64 e, .int .i64 f] := by
 obtain ⟨cs, rfl⟩ := okWide_agg Try.underlying23 hv
 obtain ⟨fuel, hf⟩ := h
 obtain ⟨xs, m', _, _, hl, hxl, hi⟩ := DataW.trod_array Try.underlying23 hf
 rw [cells1] at hi
 obtain ⟨c0, c1, c2, c3, c4, hcs⟩ := list5 (show cs.toList.length = 5 by rw [show cs.toList.length = Try.prog.cellsOf 23 from hl]; kernel_rfl)
 have hcs' : cs = #[c0, c1, c2, c3, c4] := by rw [← Array.toArray_toList (xs := cs), hcs]
 subst hcs'
 have h0 := hi 0 (by omega)
 have h1 := hi 1 (by omega)
 have h2 := hi 2 (by omega)
 have h3 := hi 3 (by omega)
 have h4 := hi 4 (by omega)
 rw [List.getElem?_eq_getElem (by omega)] at h0 h1 h2 h3 h4
 obtain ⟨a, rfl⟩ := one_int (c := c0) h0
 obtain ⟨b, rfl⟩ := one_int (c := c1) h1
 obtain ⟨c, rfl⟩ := one_int (c := c2) h2
 obtain ⟨e, rfl⟩ := one_int (c := c3) h3
 obtain ⟨f, rfl⟩ := one_int (c := c4) h4
 exact ⟨a, b, c, e, f, rfl⟩
end
end Go.Proofs.Ytjfgklhifhaaoaa
