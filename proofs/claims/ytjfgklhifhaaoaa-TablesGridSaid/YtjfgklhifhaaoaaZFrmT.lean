/- The frame of the statements on tables: what the arguments give the walks. Conditions: none. -/
import Derived.Test.YtjfgklhifhaaoaaZTw27
import Derived.Test.YtjfgklhifhaaoaaRows
import Derived.ProofKit
import Derived.OpenShut
import Derived.ChangeOld
import Derived.LaidMore
import Derived.Lay
import Derived.Stop.Joined
import Derived.Stop.LaidErr
import Derived.Lib.SmallJoins
import Derived.Deep.Slices
import Derived.Deep.Strs
set_option linter.unusedVariables false
set_option linter.unusedSimpArgs false
namespace Go.Proofs.Ytjfgklhifhaaoaa
open Go.ChangeShapes Go.WideShapes Go.ChangeAt Go.RowKit Go.Deep Go.Joins
set_option maxRecDepth 100000
theorem own : ownKnob Try.prog.godebug = none := by kernel_rfl
theorem laidOut : laidOutB Try.prog = true := by kernel_rfl
section
variable {H : Type} {enc : TypeId × Value → H} {W : World} {b0 base : Nat} {r : Reach} {spare : Nat → Bool} {held : Bool}
theorem cells1 : Try.prog.cellsOf 3 = 1 := by kernel_rfl
theorem one_int {n : Nat} {c : Value} {y : DataW H × List MemPlace} (h : DataW.trod enc Try.prog W base spare held n 3 [c] = some y) : ∃ z, c = .int .i64 z := by
 obtain ⟨z, e, _, w⟩ := DataW.trod_int Try.underlying3 h
 simp only [List.cons.injEq, and_true] at e
 exact ⟨z, e⟩
theorem in_cells {n : Nat} {cs : List Value} {y : DataW H × List MemPlace} (h : DataW.trod enc Try.prog W base spare held n 3 cs = some y) : ∃ q : Int, cs = InK.enc q := by
 obtain ⟨z, e, _, w⟩ := DataW.trod_int Try.underlying3 h
 exact ⟨z, e⟩
/-- a row that came in -/
theorem open_row {α : Type} [Inhabited α] {X : Knd α} (ok : X.Ok) (hk : Try.prog.cellsOf X.E = X.k) (hc : ∀ (n : Nat) (cs : List Value) (y : DataW H × List MemPlace), DataW.trod enc Try.prog W base (fun _ => true) held n X.E cs = some y → ∃ a, cs = X.enc a)
  {fuel : Nat} {cs : List Value} {x : DataW H × List MemPlace} (h : DataW.trod enc Try.prog W base (fun _ => true) held fuel X.T cs = some x) : ∃ (l : List α) (A : Option Addr) (c : Nat), cs = [.slice A l.length c] ∧ X.Rd W A c l := by
 rcases open_slice ok.ht h with ⟨hcs, _⟩ | ⟨x, len0, cap0, m, n, D, Pl, hcs, _, hl, hm, hmm, _, hi⟩
 ·exact ⟨[], none, 0, hcs, Knd.Rd.nil W⟩
 ·rw [hk] at hi
  have hmc : m = cap0 := by rw [hmm]; rfl
  subst hmc
  have hp : ∀ i, i < len0 → ∃ q : α, ∀ j v, (X.enc q)[j]? = some v → W.cell? (x.add (i * X.k + j)) = some v := fun i hlt => by
   obtain ⟨cs', h1, h2⟩ := hi i (by omega)
   obtain ⟨q, rfl⟩ := hc _ _ _ h2
   obtain ⟨_, _, h3⟩ := World.cells?_some h1
   refine ⟨q, fun j v hv => ?_⟩
   have := h3 j (Knd.enc_lt ok hv)
   rw [Addr.add_add, hv] at this
   exact this
  obtain ⟨f, hf2⟩ : ∃ f : Nat → α, ∀ i, i < len0 → ∀ j v, (X.enc (f i))[j]? = some v → W.cell? (x.add (i * X.k + j)) = some v :=
   ⟨fun i => if h : i < len0 then Classical.choose (hp i h) else default, fun i h => by simp only [dif_pos h]; exact Classical.choose_spec (hp i h)⟩
  have hll : ((List.range len0).map f).length = len0 := by simp
  refine ⟨(List.range len0).map f, some x, m, by rw [hll]; exact hcs, ⟨by rw [hll]; exact hl, by unfold maxLen at hm; omega, fun h0 => ?_⟩⟩
  rw [hll] at h0
  obtain ⟨b, o, s⟩ := x
  have hlen := ok.len (f 0)
  have h1 := hf2 0 h0 0 _ (List.getElem?_eq_getElem (show 0 < (X.enc (f 0)).length by rw [hlen]; exact ok.k0))
  rw [Nat.zero_mul, Nat.zero_add] at h1
  obtain rfl : s = none := by simpa [Addr.add] using World.cell?_spot h1
  refine ⟨b, o, rfl, ?_, fun j hj => ?_⟩
  ·rw [Addr.add_mid] at h1
   exact cell_lt h1
  ·rw [hll] at hj
   have e : ((List.range len0).map f)[j]'(by rw [hll]; exact hj) = f j := by simp
   rw [e]
   intro i v hv
   have h4 := hf2 j hj i v hv
   rw [Addr.add_mid] at h4
   rw [Nat.add_assoc]
   exact h4
end
end Go.Proofs.Ytjfgklhifhaaoaa
