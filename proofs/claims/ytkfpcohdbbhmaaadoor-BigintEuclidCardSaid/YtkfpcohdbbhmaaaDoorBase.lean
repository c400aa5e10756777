/- Words for memory that the walks of this claim share: what a slice's elements are, facts kept from the walk, steps of Below. Conditions: none. -/
import Derived.Test.YtkfpcohdbbhmaaaDoorProg
import Derived.WalkKit
import Derived.WalkSpells
import Derived.WalkLawsBesides
import Derived.BigQuiet
import Derived.Deep.QuietTactic
import Derived.Deep.Draws
import Derived.Deep.OwnRows
namespace Go.Proofs.YtkfpcohdbbhmaaaDoor
set_option linter.unusedVariables false
set_option linter.unusedSimpArgs false
open Go.RowKit

theorem hid {p : Prop} (h : p) : Hid p := h

/-- The elements of a slice of one-cell elements: at the address A lie the values f x. -/
def Rd {α : Type} (f : α → Value) (w : World) (A : Option Addr) (xs : List α) : Prop :=
  0 < xs.length → ∃ b o, A = some ⟨b, o, none⟩ ∧ b < w.heap.size ∧ ∀ j (h : j < xs.length), w.cell? ⟨b, o + j, none⟩ = some (f xs[j])

section
variable {α : Type} {f : α → Value} {w w' : World} {A : Option Addr} {xs : List α}
theorem Rd.at_ (h : Rd f w A xs) {k : Nat} (hk : k < xs.length) :
    ∃ b o, A = some ⟨b, o, none⟩ ∧ b < w.heap.size ∧ ∀ j (h : j < xs.length), w.cell? ⟨b, o + j, none⟩ = some (f xs[j]) := h (by omega)
theorem Rd.below (h : Rd f w A xs) (hb : Below w.heap.size w w') : Rd f w' A xs := fun hl => by
  obtain ⟨b, o, e, hB, hc⟩ := h hl
  exact ⟨b, o, e, Nat.lt_of_lt_of_le hB hb.size, fun j hj => (hb.cell (p := ⟨b, o + j, none⟩) hB).trans (hc j hj)⟩
theorem Rd.belowB {B : Nat} (h : Rd f w A xs) (hb : Below B w w') (hB : w.heap.size ≤ B) : Rd f w' A xs := h.below (hb.mono hB)
theorem Rd.take (h : Rd f w A xs) (n : Nat) : Rd f w A (xs.take n) := fun hl => by
  obtain ⟨b, o, e, hB, hc⟩ := h (by simp at hl; omega)
  refine ⟨b, o, e, hB, fun j hj => ?_⟩
  have hj' : j < xs.length := by simp at hj; omega
  rw [hc j hj', List.getElem_take]
theorem Rd.nil (w : World) (A : Option Addr) : Rd f w A [] := fun h => by simp at h
theorem Rd.of_blk {g : Nat} {cs : Array Value} {t : TypeId} {fr : Nat × Nat} (hg : w.heap[g]? = some (.cells cs t fr)) (hc : ∀ j (h : j < xs.length), cs[j]? = some (f xs[j])) : Rd f w (some ⟨g, 0, none⟩) xs := fun _ =>
  ⟨g, 0, rfl, (Array.getElem?_eq_some_iff.1 hg).1, fun j hj => by rw [Nat.zero_add, cell_of_row w g j cs t fr hg]; exact hc j hj⟩
end

theorem below_drewN {B : Nat} {a w : World} (h : Below B a w) (n : Nat) : Below B a (w.drewN n) := ⟨h.os, h.tape, h.output, h.size, h.block⟩

/-- Old cells and old marks read as before. -/
theorem bcell {W w1 : World} (hb : Below W.heap.size W w1) : (∀ b o, b < W.heap.size → w1.cell? ⟨b, o, none⟩ = W.cell? ⟨b, o, none⟩) ∧ (∀ b o, b < W.heap.size → w1.frozen? ⟨b, o, none⟩ = W.frozen? ⟨b, o, none⟩) :=
  ⟨fun b o h => hb.cell (p := ⟨b, o, none⟩) h, fun b o h => hb.frozen (p := ⟨b, o, none⟩) h⟩

theorem bcellB {B : Nat} {W w1 : World} (hb : Below B W w1) : (∀ b o, b < B → w1.cell? ⟨b, o, none⟩ = W.cell? ⟨b, o, none⟩) ∧ (∀ b o, b < B → w1.frozen? ⟨b, o, none⟩ = W.frozen? ⟨b, o, none⟩) :=
  ⟨fun b o h => hb.cell (p := ⟨b, o, none⟩) h, fun b o h => hb.frozen (p := ⟨b, o, none⟩) h⟩

theorem ret_int {k : IntKind} {a b : Int} (h : a = b) : Ending.returned (.int k a) = .returned (.int k b) := by rw [h]

end Go.Proofs.YtkfpcohdbbhmaaaDoor
