/- The frame of the statements on the reading order: what the arguments give the walks. Conditions: none. -/
import Derived.Test.YtjdgjhaggpahkaaZLz7
import Derived.Test.YtjdgjhaggpahkaaRows
import Derived.ProofKit
import Derived.OpenShut
import Derived.ChangeOld
import Derived.LaidMore
import Derived.Lay
import Derived.Stop.Joined
import Derived.Stop.LaidErr
import Derived.Lib.SmallJoins
import Derived.Deep.Slices
import Derived.Deep.Strs
set_option linter.unusedVariables false
set_option linter.unusedSimpArgs false
namespace Go.Proofs.Ytjdgjhaggpahkaa
open Go.ChangeShapes Go.WideShapes Go.ChangeAt Go.RowKit Go.Deep Go.Joins
set_option maxRecDepth 100000
theorem own : ownKnob Try.prog.godebug = none := by kernel_rfl
theorem laidOut : laidOutB Try.prog = true := by kernel_rfl
section
variable {H : Type} {enc : TypeId × Value → H} {W : World} {b0 base : Nat} {r : Reach} {spare : Nat → Bool} {held : Bool}
theorem list4 {α : Type} {cs : List α} (h : cs.length = 4) : ∃ c0 c1 c2 c3, cs = [c0, c1, c2, c3] := by
 match cs, h with
 | [c0, c1, c2, c3], _ => exact ⟨c0, c1, c2, c3, rfl⟩
theorem trod_struct4 {P : Program} {t : TypeId} {f0 f1 f2 f3 : Field} {fuel : Nat} {cs : List Value} {x : DataW H × List MemPlace} (ht : P.underlying t = some (.struct #[f0, f1, f2, f3])) (h : DataW.trod enc P W base spare held fuel t cs = some x) :
  ∃ y0 y1 y2 y3 n, cs.length = P.cellsOf t ∧ DataW.trod enc P W base spare held n f0.type ((cs.drop f0.offset).take (P.cellsOf f0.type)) = some y0 ∧
   DataW.trod enc P W base spare held n f1.type ((cs.drop f1.offset).take (P.cellsOf f1.type)) = some y1 ∧ DataW.trod enc P W base spare held n f2.type ((cs.drop f2.offset).take (P.cellsOf f2.type)) = some y2 ∧
   DataW.trod enc P W base spare held n f3.type ((cs.drop f3.offset).take (P.cellsOf f3.type)) = some y3 := by
 obtain ⟨xs, n, _, rfl, hl, hlen, hf⟩ := DataW.trod_struct ht h
 match xs, hlen with
 | [y0, y1, y2, y3], _ => exact ⟨y0, y1, y2, y3, n, hl, by simpa using hf 0 f0 rfl, by simpa using hf 1 f1 rfl, by simpa using hf 2 f2 rfl, by simpa using hf 3 f3 rfl⟩
theorem i16_of {z : Int} (h : (Lit.int .i16 z).wf = true) : -32768 ≤ z ∧ z ≤ 32767 := by
 simp [Lit.wf, IntKind.min, IntKind.max, IntKind.signed, IntKind.bits] at h
 omega
theorem cells1 : Try.prog.cellsOf 3 = 1 := by kernel_rfl
theorem one_int {n : Nat} {c : Value} {y : DataW H × List MemPlace} (h : DataW.trod enc Try.prog W base spare held n 3 [c] = some y) : ∃ z, c = .int .i64 z := by
 obtain ⟨z, e, _, w⟩ := DataW.trod_int Try.underlying3 h
 simp only [List.cons.injEq, and_true] at e
 exact ⟨z, e⟩
theorem box_cells {n : Nat} {cs : List Value} {y : DataW H × List MemPlace} (h : DataW.trod enc Try.prog W base spare held n 31 cs = some y) : ∃ q : Bx, cs = [.int .i64 q.x, .int .i64 q.y, .int .i64 q.w, .int .i64 q.h] := by
 obtain ⟨y0, y1, y2, y3, m, hl, h0, h1, h2, h3⟩ := trod_struct4 Try.underlying31 h
 obtain ⟨c0, c1, c2, c3, rfl⟩ := list4 (show cs.length = 4 by rw [hl]; kernel_rfl)
 simp only [cells1] at h0 h1 h2 h3
 obtain ⟨x, rfl⟩ := one_int h0
 obtain ⟨z, rfl⟩ := one_int h1
 obtain ⟨t, rfl⟩ := one_int h2
 obtain ⟨s, rfl⟩ := one_int h3
 exact ⟨⟨x, z, t, s⟩, rfl⟩
/-- a box that came in -/
theorem open_Box {v : Value} {d : DataW H} {p : List MemPlace} (hv : Value.okWide Try.prog W r b0 31 v) (h : DataW.Trod enc Try.prog W base spare held 31 v d p) :
  ∃ q : Bx, v = .agg #[.int .i64 q.x, .int .i64 q.y, .int .i64 q.w, .int .i64 q.h] := by
 obtain ⟨cs, rfl, hsz⟩ := okWide_struct Try.underlying31 hv
 obtain ⟨fuel, hf⟩ := h
 obtain ⟨q, hq⟩ := box_cells hf
 have e : cs.toList = [.int .i64 q.x, .int .i64 q.y, .int .i64 q.w, .int .i64 q.h] := hq
 exact ⟨q, by rw [← Array.toArray_toList (xs := cs), e]⟩
/-- a list of boxes that came in -/
theorem open_Lst {v : Value} {d : DataW H} {p : List MemPlace} (hv : Value.okWide Try.prog W r b0 22 v) (h : DataW.Trod enc Try.prog W base (fun _ => true) held 22 v d p) :
  ∃ (l : List Bx) (A : Option Addr) (c : Nat), v = .slice A l.length c ∧ Qb W A c l := by
 obtain ⟨a0, len0, cap0, rfl⟩ := okWide_slice Try.underlying22 hv
 obtain ⟨fuel, hf⟩ := h
 rcases open_slice Try.underlying22 hf with ⟨hcs, _⟩ | ⟨x, l, c, m, n, D, Pl, hcs, _, hl, hm, hmm, _, hi⟩
 ·simp [Value.cells] at hcs
  obtain ⟨rfl, rfl, rfl⟩ := hcs
  exact ⟨[], none, 0, rfl, Qb.nil W⟩
 ·simp [Value.cells] at hcs
  obtain ⟨rfl, rfl, rfl⟩ := hcs
  have c4 : Try.prog.cellsOf 31 = 4 := by kernel_rfl
  rw [c4] at hi
  have hmc : m = cap0 := by rw [hmm]; rfl
  subst hmc
  have hp : ∀ i, i < len0 → ∃ q : Bx, W.cell? (x.add (i * 4)) = some (.int .i64 q.x) ∧ W.cell? (x.add (i * 4 + 1)) = some (.int .i64 q.y) ∧ W.cell? (x.add (i * 4 + 2)) = some (.int .i64 q.w) ∧ W.cell? (x.add (i * 4 + 3)) = some (.int .i64 q.h) := fun i hlt => by
   obtain ⟨cs', h1, h2⟩ := hi i (by omega)
   obtain ⟨q, rfl⟩ := box_cells h2
   obtain ⟨_, _, h3⟩ := World.cells?_some h1
   have e0 := h3 0 (by omega)
   have e1 := h3 1 (by omega)
   have e2 := h3 2 (by omega)
   have e3 := h3 3 (by omega)
   rw [add_add] at e0 e1 e2 e3
   exact ⟨q, e0, e1, e2, e3⟩
  obtain ⟨f, hf2⟩ : ∃ f : Nat → Bx, ∀ i, i < len0 → W.cell? (x.add (i * 4)) = some (.int .i64 (f i).x) ∧ W.cell? (x.add (i * 4 + 1)) = some (.int .i64 (f i).y) ∧ W.cell? (x.add (i * 4 + 2)) = some (.int .i64 (f i).w) ∧ W.cell? (x.add (i * 4 + 3)) = some (.int .i64 (f i).h) :=
   ⟨fun i => if h : i < len0 then Classical.choose (hp i h) else default, fun i h => by simp only [dif_pos h]; exact Classical.choose_spec (hp i h)⟩
  have hll : ((List.range len0).map f).length = len0 := by simp
  refine ⟨(List.range len0).map f, some x, m, by rw [hll], ⟨by rw [hll]; exact hl, by unfold maxLen at hm; omega, fun h0 => ?_⟩⟩
  rw [hll] at h0
  obtain ⟨b, o, s⟩ := x
  have h1 := (hf2 0 h0).1
  obtain rfl : s = none := by simpa [Addr.add] using World.cell?_spot h1
  refine ⟨b, o, rfl, ?_, fun j hj => ?_⟩
  ·have h2 : W.cell? ⟨b, o, none⟩ = some (.int .i64 (f 0).x) := by simpa [Addr.add] using h1
   exact cell_lt h2
  ·rw [hll] at hj
   have h4 := hf2 j hj
   rw [Addr.add_mid, Addr.add_mid, Addr.add_mid, Addr.add_mid] at h4
   have e : ((List.range len0).map f)[j]'(by rw [hll]; exact hj) = f j := by simp
   rw [e]
   exact h4
end
end Go.Proofs.Ytjdgjhaggpahkaa
