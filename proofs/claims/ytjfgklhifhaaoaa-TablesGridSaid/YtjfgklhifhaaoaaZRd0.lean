/- Words for memory that the walks of this claim share. Conditions: none. -/
import Derived.Test.YtjfgklhifhaaoaaProg
import Derived.WalkKit
import Derived.WalkSpells
import Derived.WalkLawsBesides
import Derived.BigQuiet
import Derived.Deep.QuietTactic
import Derived.Deep.Draws
import Derived.Deep.OwnRows
import Derived.Deep.DeepCutAuto
import Derived.Maps.RangeWalk
import Derived.Deep.RegionLaw
import Derived.Deep.RegionHeld3
import Derived.Maps.AppendAt
set_option linter.unusedVariables false
set_option linter.unusedSimpArgs false
namespace Go.Proofs.Ytjfgklhifhaaoaa
open Go.RowKit
theorem hid {p : Prop} (h : p) : Hid p := h
/-- The elements of a slice of one-cell elements: at the address A lie the values f x. -/
def Rd {α : Type} (f : α → Value) (w : World) (A : Option Addr) (xs : List α) : Prop :=
 0 < xs.length → ∃ b o, A = some ⟨b, o, none⟩ ∧ b < w.heap.size ∧ ∀ j (h : j < xs.length), w.cell? ⟨b, o + j, none⟩ = some (f xs[j])
section
variable {α : Type} {f : α → Value} {w w' : World} {A : Option Addr} {xs : List α}
theorem Rd.at_ (h : Rd f w A xs) {k : Nat} (hk : k < xs.length) :
  ∃ b o, A = some ⟨b, o, none⟩ ∧ b < w.heap.size ∧ ∀ j (h : j < xs.length), w.cell? ⟨b, o + j, none⟩ = some (f xs[j]) := h (by omega)
theorem Rd.below (h : Rd f w A xs) (hb : Below w.heap.size w w') : Rd f w' A xs := fun hl => by
 obtain ⟨b, o, e, hB, hc⟩ := h hl
 exact ⟨b, o, e, Nat.lt_of_lt_of_le hB hb.size, fun j hj => (hb.cell (p := ⟨b, o + j, none⟩) hB).trans (hc j hj)⟩
theorem Rd.take (h : Rd f w A xs) (n : Nat) : Rd f w A (xs.take n) := fun hl => by
 obtain ⟨b, o, e, hB, hc⟩ := h (by simp at hl; omega)
 refine ⟨b, o, e, hB, fun j hj => ?_⟩
 have hj' : j < xs.length := by simp at hj; omega
 rw [hc j hj', List.getElem_take]
theorem Rd.nil (w : World) (A : Option Addr) : Rd f w A [] := fun h => by simp at h
end
theorem sA {w : World} {x : Obj} : (w.alloc x).heap.size = w.heap.size + 1 := by simp only [World.size_alloc]
theorem sD {w : World} : w.drew.heap.size = w.heap.size := by simp only [World.size_drew]
theorem below_drewN {B : Nat} {a w : World} (h : Below B a w) (n : Nat) : Below B a (w.drewN n) := ⟨h.os, h.tape, h.output, h.size, h.block⟩
def RetI (w : World) (n : Int) (e : Ending) (w' : World) : Prop := e = .returned (.int .i64 n) ∧ Below w.heap.size w w'
theorem below_set {B : Nat} {a w : World} (h : Below B a w) {g : Nat} (hg : B ≤ g) (i : Nat) (u : Value) : Below B a (w.setCell ⟨g, i, none⟩ u) := h.setCell (p := ⟨g, i, none⟩) hg u
theorem cell_far {w : World} {g i g' j : Nat} {u : Value} (h : g ≠ g') : (w.setCell ⟨g, i, none⟩ u).cell? ⟨g', j, none⟩ = w.cell? ⟨g', j, none⟩ := World.cell?_of_block (Below.heap_setCell w ⟨g, i, none⟩ u g' (by simp; omega))
def RetB (w : World) (b : Bool) (e : Ending) (w' : World) : Prop := e = .returned (.bool b) ∧ Below w.heap.size w w'
theorem keep_cell {W w' : World} {g o : Nat} {v : Value} (h : Below W.heap.size W w') (hc : W.cell? ⟨g, o, none⟩ = some v) : w'.cell? ⟨g, o, none⟩ = some v := by
 have hg : g < W.heap.size := by
  rcases Nat.lt_or_ge g W.heap.size with h1 | h1
  ·exact h1
  ·simp [World.cell?, Array.getElem?_eq_none h1] at hc
 exact (h.cell (p := ⟨g, o, none⟩) hg).trans hc
theorem bel_step {w V w' : World} (h0 : Below w.heap.size w V) (h : Below V.heap.size V w') : Below w.heap.size w w' := h0.trans (h.mono h0.size)
theorem cell_lt {W : World} {g o : Nat} {v : Value} (hc : W.cell? ⟨g, o, none⟩ = some v) : g < W.heap.size := by
 rcases Nat.lt_or_ge g W.heap.size with h1 | h1
 ·exact h1
 ·simp [World.cell?, Array.getElem?_eq_none h1] at hc
theorem keep_alloc {W : World} {g o : Nat} {v : Value} {b : Obj} (hc : W.cell? ⟨g, o, none⟩ = some v) : (W.alloc b).cell? ⟨g, o, none⟩ = some v :=
 keep_cell ((Below.refl _ _).alloc (Nat.le_refl _) _) hc
theorem keep_drew {W : World} {g o : Nat} {v : Value} (hc : W.cell? ⟨g, o, none⟩ = some v) : W.drew.cell? ⟨g, o, none⟩ = some v := hc
theorem keep_set {W : World} {g o k i : Nat} {v u : Value} (hne : k ≠ g) (hc : W.cell? ⟨g, o, none⟩ = some v) : (W.setCell ⟨k, i, none⟩ u).cell? ⟨g, o, none⟩ = some v := (cell_far hne).trans hc
theorem at_set {W : World} {g i : Nat} {v u : Value} (h : W.cell? ⟨g, i, none⟩ = some v) : (W.setCell ⟨g, i, none⟩ u).cell? ⟨g, i, none⟩ = some u := by
 simp [go_sem, h]
/-- block g is there, and may be written -/
structure Zn (w : World) (g : Nat) : Prop where
 lt : g < w.heap.size
 fr : ∀ i, w.frozen? ⟨g, i, none⟩ = false
theorem Zn.below {w w' : World} {g : Nat} (h : Zn w g) (hb : Below w.heap.size w w') : Zn w' g :=
 ⟨Nat.lt_of_lt_of_le h.lt hb.size, fun i => (hb.frozen (p := ⟨g, i, none⟩) h.lt).trans (h.fr i)⟩
theorem rng_below {w w' : World} {g o : Nat} {cs : List Value} (h : w.rangeAt g o cs) (hb : Below w.heap.size w w') : w'.rangeAt g o cs := fun j v hv => keep_cell hb (h j v hv)
theorem rng_alloc {w : World} {cs : List Value} {t : TypeId} : (w.alloc (.cells cs.toArray t)).rangeAt w.heap.size 0 cs := fun j v hv => by
 rw [Nat.zero_add, World.cell?_alloc_at _ _ _ _ rfl]; simpa using hv
theorem rng_there {w : World} {g o : Nat} {cs : List Value} (h : w.rangeAt g o cs) (z : Zn w g) : w.there g o cs.length := fun j hj => ⟨h.isSome j hj, z.fr _⟩
theorem Zn.alloc_ {w : World} {g : Nat} {b : Obj} (h : Zn w g) : Zn (w.alloc b) g := h.below ((Below.refl _ _).alloc (Nat.le_refl _) _)
theorem Zn.new_ {w : World} {cs : Array Value} {t : TypeId} : Zn (w.alloc (.cells cs t)) w.heap.size := ⟨by simp, fun i => by simp [go_sem]⟩
theorem Zn.set_ {w : World} {g k i : Nat} {v : Value} (h : Zn w g) : Zn (w.setCell ⟨k, i, none⟩ v) g := ⟨by simpa using h.lt, fun i => by simpa using h.fr i⟩
theorem Zn.sets {k : Nat} : ∀ (vs : List Value) (w : World) (g o : Nat), Zn w g → Zn (w.setCells k o vs) g
 | [], _, _, _, h => h
 | v :: r, w, g, o, h => by rw [World.setCells]; exact Zn.sets r _ g (o + 1) h.set_
theorem rng_same {w : World} {g o : Nat} {vs cs : List Value} (hr : w.rangeAt g o cs) (z : Zn w g) (hl : vs.length = cs.length) : (w.setCells g o vs).rangeAt g o vs :=
 World.rangeAt_setCells_same _ _ _ _ (by rw [hl]; exact rng_there hr z)
theorem enterR1 {w : World} {c0 : List Value} {t0 : TypeId} {P : World → Prop}
  (H : ∀ u, Below w.heap.size w u → u.rangeAt w.heap.size 0 c0 → Zn u w.heap.size → Hid (u.heap.size = w.heap.size + 1) → P u) : P (w.alloc (.cells c0.toArray t0)) :=
 H _ ((Below.refl _ _).alloc (Nat.le_refl _) _) rng_alloc Zn.new_ (by unfold Hid; simp)
theorem enterR2 {w : World} {c0 c1 : List Value} {t0 t1 : TypeId} {P : World → Prop}
  (H : ∀ u, Below w.heap.size w u → u.rangeAt w.heap.size 0 c0 → u.rangeAt (w.heap.size + 1) 0 c1 → Zn u w.heap.size → Zn u (w.heap.size + 1) → Hid (u.heap.size = w.heap.size + 1 + 1) → P u) : P ((w.alloc (.cells c0.toArray t0)).alloc (.cells c1.toArray t1)) := by
 have h1 := rng_alloc (w := w.alloc (.cells c0.toArray t0)) (cs := c1) (t := t1)
 have z1 := Zn.new_ (w := w.alloc (.cells c0.toArray t0)) (cs := c1.toArray) (t := t1)
 rw [World.size_alloc] at h1 z1
 exact H _ (((Below.refl _ _).alloc (Nat.le_refl _) _).alloc (by simp) _) (rng_below rng_alloc ((Below.refl _ _).alloc (Nat.le_refl _) _)) h1 Zn.new_.alloc_ z1 (by unfold Hid; simp)
/-- a new block that holds an array -/
theorem enterR {w : World} {c : List Value} {t : TypeId} {P : World → Prop}
  (H : ∀ u, Below w.heap.size w u → u.rangeAt w.heap.size 0 c → Zn u w.heap.size → Hid (u.heap.size = w.heap.size + 1) → P u) : P (w.alloc (.cells c.toArray t)) := enterR1 H
theorem enterR2e {w : World} {c0 c1 : List Value} {t0 t1 : TypeId} {P : World → Prop}
  (H : ∀ u, Hid (u = (w.alloc (.cells c0.toArray t0)).alloc (.cells c1.toArray t1)) → u.rangeAt w.heap.size 0 c0 → u.rangeAt (w.heap.size + 1) 0 c1 → P u) :
  P ((w.alloc (.cells c0.toArray t0)).alloc (.cells c1.toArray t1)) :=
 H _ rfl (rng_below rng_alloc ((Below.refl _ _).alloc (Nat.le_refl _) _)) (by
  have := rng_alloc (w := w.alloc (.cells c0.toArray t0)) (cs := c1) (t := t1)
  simpa using this)
end Go.Proofs.Ytjfgklhifhaaoaa
