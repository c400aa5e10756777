/- The frame of the statements on geometry: what the arguments give the walks. Conditions: none. -/
import Derived.Test.YtglailcfgcdagaaGreatZGm3
import Derived.Test.YtglailcfgcdagaaGreatZGB
import Derived.Test.YtglailcfgcdagaaGreatRows
import Derived.ProofKit
import Derived.OpenShut
import Derived.ChangeOld
import Derived.LaidMore
import Derived.Lay
import Derived.Stop.Joined
import Derived.Stop.LaidErr
import Derived.Lib.SmallJoins
import Derived.Deep.Slices
import Derived.Deep.Strs
set_option linter.unusedVariables false
set_option linter.unusedSimpArgs false
namespace Go.Proofs.YtglailcfgcdagaaGreat
open Go.ChangeShapes Go.WideShapes Go.ChangeAt Go.RowKit Go.Deep Go.Joins
set_option maxRecDepth 100000
theorem own : ownKnob Tryz.prog.godebug = none := by kernel_rfl
theorem laidOut : laidOutB Tryz.prog = true := by kernel_rfl
section
variable {H : Type} {enc : TypeId × Value → H} {W : World} {b0 base : Nat} {r : Reach} {spare : Nat → Bool} {held : Bool}
theorem list2 {α : Type} {cs : List α} (h : cs.length = 2) : ∃ c0 c1, cs = [c0, c1] := by
 match cs, h with
 | [c0, c1], _ => exact ⟨c0, c1, rfl⟩
theorem i64B_of {z : Int} (h : (Lit.int .i64 z).wf = true) : i64B z := by
 unfold i64B
 simp [Lit.wf, IntKind.min, IntKind.max, IntKind.signed, IntKind.bits] at h
 omega
theorem cells1 : Tryz.prog.cellsOf 3 = 1 := by kernel_rfl
theorem one_int {n : Nat} {c : Value} {y : DataW H × List MemPlace} (h : DataW.trod enc Tryz.prog W base spare held n 3 [c] = some y) : ∃ z, c = .int .i64 z ∧ i64B z := by
 obtain ⟨z, e, _, w⟩ := DataW.trod_int Tryz.underlying3 h
 simp only [List.cons.injEq, and_true] at e
 exact ⟨z, e, i64B_of w⟩
theorem pnt_cells {n : Nat} {cs : List Value} {y : DataW H × List MemPlace} (h : DataW.trod enc Tryz.prog W base spare held n 24 cs = some y) : ∃ p : Int × Int, cs = [.int .i64 p.1, .int .i64 p.2] ∧ i64B p.1 ∧ i64B p.2 := by
 obtain ⟨y0, y1, m, _, hl, h0, h1⟩ := trod_struct2 Tryz.underlying24 h
 obtain ⟨c0, c1, rfl⟩ := list2 (show cs.length = 2 by rw [hl]; kernel_rfl)
 simp only [cells1] at h0 h1
 obtain ⟨x, rfl, b0⟩ := one_int h0
 obtain ⟨z, rfl, b1⟩ := one_int h1
 exact ⟨(x, z), rfl, b0, b1⟩
/-- a point that came in -/
theorem open_Pnt {v : Value} {d : DataW H} {p : List MemPlace} (hv : Value.okWide Tryz.prog W r b0 24 v) (h : DataW.Trod enc Tryz.prog W base spare held 24 v d p) :
  ∃ q : Int × Int, v = .agg #[.int .i64 q.1, .int .i64 q.2] := by
 obtain ⟨cs, rfl, hsz⟩ := okWide_struct Tryz.underlying24 hv
 obtain ⟨fuel, hf⟩ := h
 obtain ⟨q, hq, _⟩ := pnt_cells hf
 have e : cs.toList = [.int .i64 q.1, .int .i64 q.2] := hq
 exact ⟨q, by rw [← Array.toArray_toList (xs := cs), e]⟩
/-- a list of points that came in -/
theorem open_Lst {v : Value} {d : DataW H} {p : List MemPlace} (hv : Value.okWide Tryz.prog W r b0 22 v) (h : DataW.Trod enc Tryz.prog W base (fun _ => true) held 22 v d p) :
  ∃ (l : List (Int × Int)) (A : Option Addr) (c : Nat), v = .slice A l.length c ∧ Pb W A c l := by
 obtain ⟨a0, len0, cap0, rfl⟩ := okWide_slice Tryz.underlying22 hv
 obtain ⟨fuel, hf⟩ := h
 rcases open_slice Tryz.underlying22 hf with ⟨hcs, _⟩ | ⟨x, l, c, m, n, D, Pl, hcs, _, hl, hm, hmm, _, hi⟩
 ·simp [Value.cells] at hcs
  obtain ⟨rfl, rfl, rfl⟩ := hcs
  exact ⟨[], none, 0, rfl, Pb.nil W⟩
 ·simp [Value.cells] at hcs
  obtain ⟨rfl, rfl, rfl⟩ := hcs
  have c2 : Tryz.prog.cellsOf 24 = 2 := by kernel_rfl
  rw [c2] at hi
  have hmc : m = cap0 := by rw [hmm]; rfl
  subst hmc
  have hp : ∀ i, i < len0 → ∃ q : Int × Int, W.cell? (x.add (i * 2)) = some (.int .i64 q.1) ∧ W.cell? (x.add (i * 2 + 1)) = some (.int .i64 q.2) := fun i hlt => by
   obtain ⟨cs', h1, h2⟩ := hi i (by omega)
   obtain ⟨q, rfl, _⟩ := pnt_cells h2
   obtain ⟨_, _, h3⟩ := World.cells?_some h1
   have e0 := h3 0 (by omega)
   have e1 := h3 1 (by omega)
   rw [add_add] at e0 e1
   exact ⟨q, e0, e1⟩
  obtain ⟨f, hf2⟩ : ∃ f : Nat → Int × Int, ∀ i, i < len0 → W.cell? (x.add (i * 2)) = some (.int .i64 (f i).1) ∧ W.cell? (x.add (i * 2 + 1)) = some (.int .i64 (f i).2) :=
   ⟨fun i => if h : i < len0 then Classical.choose (hp i h) else (0, 0), fun i h => by simp only [dif_pos h]; exact Classical.choose_spec (hp i h)⟩
  have hll : ((List.range len0).map f).length = len0 := by simp
  refine ⟨(List.range len0).map f, some x, m, by rw [hll], ⟨by rw [hll]; exact hl, by unfold maxLen at hm; omega, fun h0 => ?_⟩⟩
  rw [hll] at h0
  obtain ⟨b, o, s⟩ := x
  have h1 := (hf2 0 h0).1
  obtain rfl : s = none := by simpa [Addr.add] using World.cell?_spot h1
  refine ⟨b, o, rfl, ?_, fun j hj => ?_⟩
  ·have h2 : W.cell? ⟨b, o, none⟩ = some (.int .i64 (f 0).1) := by simpa [Addr.add] using h1
   exact cell_lt h2
  ·rw [hll] at hj
   have h4 := hf2 j hj
   rw [Addr.add_mid, Addr.add_mid] at h4
   have e : ((List.range len0).map f)[j]'(by rw [hll]; exact hj) = f j := by simp
   rw [e]
   exact h4
end
end Go.Proofs.YtglailcfgcdagaaGreat
