/- The frame of the statements on geometry: what the arguments give the walks. Conditions: none. -/
import Derived.Test.YtglailcfgcdagaaZGm3
import Derived.Test.YtglailcfgcdagaaZGB
import Derived.Test.YtglailcfgcdagaaRows
import Derived.ProofKit
import Derived.OpenShut
import Derived.ChangeOld
import Derived.LaidMore
import Derived.Lay
import Derived.Stop.Joined
import Derived.Stop.LaidErr
import Derived.Lib.SmallJoins
import Derived.Deep.Slices
import Derived.Deep.Strs
set_option linter.unusedVariables false
set_option linter.unusedSimpArgs false
namespace Go.Proofs.Ytglailcfgcdagaa
open Go.ChangeShapes Go.WideShapes Go.ChangeAt Go.RowKit Go.Deep Go.Joins
set_option maxRecDepth 100000
theorem own : ownKnob Try.prog.godebug = none := by kernel_rfl
theorem laidOut : laidOutB Try.prog = true := by kernel_rfl
section
variable {H : Type} {enc : TypeId × Value → H} {W : World} {b0 base : Nat} {r : Reach} {spare : Nat → Bool} {held : Bool}
theorem list2 {α : Type} {cs : List α} (h : cs.length = 2) : ∃ c0 c1, cs = [c0, c1] := by
 match cs, h with
 | [c0, c1], _ => exact ⟨c0, c1, rfl⟩
theorem list4 {α : Type} {cs : List α} (h : cs.length = 4) : ∃ c0 c1 c2 c3, cs = [c0, c1, c2, c3] := by
 match cs, h with
 | [c0, c1, c2, c3], _ => exact ⟨c0, c1, c2, c3, rfl⟩
theorem i64B_of {z : Int} (h : (Lit.int .i64 z).wf = true) : i64B z := by
 unfold i64B
 simp [Lit.wf, IntKind.min, IntKind.max, IntKind.signed, IntKind.bits] at h
 omega
theorem cells1 : Try.prog.cellsOf 3 = 1 := by kernel_rfl
theorem one_int {n : Nat} {c : Value} {y : DataW H × List MemPlace} (h : DataW.trod enc Try.prog W base spare held n 3 [c] = some y) : ∃ z, c = .int .i64 z ∧ i64B z := by
 obtain ⟨z, e, _, w⟩ := DataW.trod_int Try.underlying3 h
 simp only [List.cons.injEq, and_true] at e
 exact ⟨z, e, i64B_of w⟩
theorem pnt_cells {n : Nat} {cs : List Value} {y : DataW H × List MemPlace} (h : DataW.trod enc Try.prog W base spare held n 23 cs = some y) : ∃ p : Int × Int, cs = [.int .i64 p.1, .int .i64 p.2] ∧ i64B p.1 ∧ i64B p.2 := by
 obtain ⟨y0, y1, m, _, hl, h0, h1⟩ := trod_struct2 Try.underlying23 h
 obtain ⟨c0, c1, rfl⟩ := list2 (show cs.length = 2 by rw [hl]; kernel_rfl)
 simp only [cells1] at h0 h1
 obtain ⟨x, rfl, b0⟩ := one_int h0
 obtain ⟨z, rfl, b1⟩ := one_int h1
 exact ⟨(x, z), rfl, b0, b1⟩
theorem okWide_agg {t : TypeId} {n : Nat} {e : TypeId} (ht : Try.prog.underlying t = some (.array n e)) {v : Value} (h : Value.okWide Try.prog W r b0 t v) : ∃ cs, v = .agg cs := by
 simp only [Value.okWide, ht] at h
 obtain ⟨cs, h1, _⟩ := h
 exact ⟨cs, h1⟩
/-- two points that came in -/
theorem open_Two {v : Value} {d : DataW H} {p : List MemPlace} (hv : Value.okWide Try.prog W r b0 53 v) (h : DataW.Trod enc Try.prog W base spare held 53 v d p) :
  ∃ a b : Int × Int, v = .agg #[.int .i64 a.1, .int .i64 a.2, .int .i64 b.1, .int .i64 b.2] := by
 obtain ⟨cs, rfl⟩ := okWide_agg Try.underlying53 hv
 obtain ⟨fuel, hf⟩ := h
 obtain ⟨xs, m', _, _, hl, hxl, hi⟩ := DataW.trod_array Try.underlying53 hf
 have c2 : Try.prog.cellsOf 23 = 2 := by kernel_rfl
 rw [c2] at hi
 obtain ⟨c0, c1, c2', c3, hcs⟩ := list4 (show cs.toList.length = 4 by rw [show cs.toList.length = Try.prog.cellsOf 53 from hl]; kernel_rfl)
 have hcs' : cs = #[c0, c1, c2', c3] := by rw [← Array.toArray_toList (xs := cs), hcs]
 subst hcs'
 have h0 := hi 0 (by omega)
 have h1 := hi 1 (by omega)
 rw [List.getElem?_eq_getElem (by omega)] at h0 h1
 obtain ⟨a, ha, _⟩ := pnt_cells h0
 obtain ⟨b, hb, _⟩ := pnt_cells h1
 have ha' : [c0, c1] = [.int .i64 a.1, .int .i64 a.2] := ha
 have hb' : [c2', c3] = [.int .i64 b.1, .int .i64 b.2] := hb
 simp only [List.cons.injEq, and_true] at ha' hb'
 obtain ⟨rfl, rfl⟩ := ha'
 obtain ⟨rfl, rfl⟩ := hb'
 exact ⟨a, b, rfl⟩
end
end Go.Proofs.Ytglailcfgcdagaa
