/- The frame of the statements on tables: numbers, bitmaps, lines, a case. Conditions: none. -/
import Derived.Test.YtjfgklhifhaaoaaGreatZFrmT
set_option linter.unusedVariables false
set_option linter.unusedSimpArgs false
namespace Go.Proofs.YtjfgklhifhaaoaaGreat
open Go.ChangeShapes Go.WideShapes Go.ChangeAt Go.RowKit Go.Deep Go.Joins
set_option maxRecDepth 100000
section
variable {H : Type} {enc : TypeId × Value → H} {W : World} {b0 base : Nat} {r : Reach} {spare : Nat → Bool} {held : Bool}
theorem list6 {α : Type} {cs : List α} (h : cs.length = 6) : ∃ c0 c1 c2 c3 c4 c5, cs = [c0, c1, c2, c3, c4, c5] := by
 match cs, h with
 | [c0, c1, c2, c3, c4, c5], _ => exact ⟨c0, c1, c2, c3, c4, c5, rfl⟩
/-- a list of numbers that came in -/
theorem open_Ints {v : Value} {d : DataW H} {p : List MemPlace} (hv : Value.okWide Tryz.prog W r b0 43 v) (h : DataW.Trod enc Tryz.prog W base (fun _ => true) held 43 v d p) :
  ∃ (l : List Int) (A : Option Addr) (c : Nat), v = .slice A l.length c ∧ InK.Rd W A c l := by
 obtain ⟨A, n, c, rfl⟩ := okWide_slice Tryz.underlying43 hv
 obtain ⟨fuel, hf⟩ := h
 obtain ⟨l, A', c', e, hr⟩ := open_row InKo (by kernel_rfl) (fun _ _ _ h => in_cells h) hf
 have e2 : [Value.slice A n c] = [.slice A' l.length c'] := e
 simp only [List.cons.injEq, and_true] at e2
 exact ⟨l, A', c', e2, hr⟩
end
end Go.Proofs.YtjfgklhifhaaoaaGreat
/- The frame of the statement TablesDraws: a case. Conditions: none. -/
namespace Go.Proofs.YtjfgklhifhaaoaaGreat
open Go.ChangeShapes Go.WideShapes Go.ChangeAt Go.RowKit Go.Deep Go.Joins
set_option maxRecDepth 100000
section
variable {H : Type} {enc : TypeId × Value → H} {W : World} {b0 base : Nat} {r : Reach} {spare : Nat → Bool} {held : Bool}
theorem poi_cells {n : Nat} {cs : List Value} {y : DataW H × List MemPlace} (h : DataW.trod enc Tryz.prog W base spare held n 45 cs = some y) : ∃ a b : Int, cs = [.int .i64 a, .int .i64 b] := by
 obtain ⟨y0, y1, m, hl, h0, h1⟩ := trod_struct2 Tryz.underlying45 h
 obtain ⟨c0, c1, rfl⟩ := list2 (show cs.length = 2 by rw [hl]; kernel_rfl)
 simp only [cells1] at h0 h1
 obtain ⟨x, rfl⟩ := one_int h0
 obtain ⟨z, rfl⟩ := one_int h1
 exact ⟨x, z, rfl⟩
theorem tab_cells {n : Nat} {cs : List Value} {y : DataW H × List MemPlace} (h : DataW.trod enc Tryz.prog W base (fun _ => true) held n 38 cs = some y) : ∃ (r k : Int) (l : List Ce) (A : Option Addr) (c : Nat), cs = [.int .i64 r, .int .i64 k, .slice A l.length c] ∧ CeK.Rd W A c l := by
 obtain ⟨y0, y1, y2, m, hl, h0, h1, h2⟩ := trod_struct3 Tryz.underlying38 h
 obtain ⟨c0, c1, c2, rfl⟩ := list3 (show cs.length = 3 by rw [hl]; kernel_rfl)
 have n1 : Tryz.prog.cellsOf 36 = 1 := by kernel_rfl
 simp only [cells1, n1] at h0 h1 h2
 obtain ⟨x, rfl⟩ := one_int h0
 obtain ⟨z, rfl⟩ := one_int h1
 obtain ⟨l, A, c, e, hr⟩ := open_row CeKo (by kernel_rfl) (fun _ _ _ h => ce_cells h) h2
 have e2 : [c2] = [.slice A l.length c] := e
 simp only [List.cons.injEq, and_true] at e2
 subst e2
 exact ⟨x, z, l, A, c, rfl, hr⟩
/-- a case that came in -/
theorem open_Cas {v : Value} {d : DataW H} {p : List MemPlace} (hv : Value.okWide Tryz.prog W r b0 47 v) (h : DataW.Trod enc Tryz.prog W base (fun _ => true) held 47 v d p) :
  ∃ (t r k : Int) (l : List Ce) (A : Option Addr) (c : Nat) (x y : Int), v = .agg #[.int .i64 t, .int .i64 r, .int .i64 k, .slice A l.length c, .int .i64 x, .int .i64 y] ∧ CeK.Rd W A c l := by
 obtain ⟨cs, rfl, hsz⟩ := okWide_struct Tryz.underlying47 hv
 obtain ⟨fuel, hf⟩ := h
 obtain ⟨y0, y1, y2, m, hl, h0, h1, h2⟩ := trod_struct3 Tryz.underlying47 hf
 obtain ⟨c0, c1, c2, c3, c4, c5, hcs⟩ := list6 (show cs.toList.length = 6 by rw [show cs.toList.length = Tryz.prog.cellsOf 47 from hl]; kernel_rfl)
 have hcs' : cs = #[c0, c1, c2, c3, c4, c5] := by rw [← Array.toArray_toList (xs := cs), hcs]
 subst hcs'
 have n3 : Tryz.prog.cellsOf 38 = 3 := by kernel_rfl
 have n2 : Tryz.prog.cellsOf 45 = 2 := by kernel_rfl
 simp only [cells1, n2, n3] at h0 h1 h2
 obtain ⟨t, rfl⟩ := one_int h0
 obtain ⟨r, k, l, A, c, e1, hr⟩ := tab_cells h1
 obtain ⟨x, y, e2⟩ := poi_cells h2
 have e1' : [c1, c2, c3] = [.int .i64 r, .int .i64 k, .slice A l.length c] := e1
 have e2' : [c4, c5] = [.int .i64 x, .int .i64 y] := e2
 simp only [List.cons.injEq, and_true] at e1' e2'
 obtain ⟨rfl, rfl, rfl⟩ := e1'
 obtain ⟨rfl, rfl⟩ := e2'
 exact ⟨t, r, k, l, A, c, x, y, rfl, hr⟩
end
end Go.Proofs.YtjfgklhifhaaoaaGreat
