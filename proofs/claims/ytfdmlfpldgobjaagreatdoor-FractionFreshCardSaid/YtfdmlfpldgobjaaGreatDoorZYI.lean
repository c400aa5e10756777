/- Worlds behind boxes that were just made, under a name of their own. Conditions: none. -/
import Derived.Test.YtfdmlfpldgobjaaGreatDoorZBiC
import Derived.Test.YtfdmlfpldgobjaaGreatDoorZYE
import Derived.Test.YtfdmlfpldgobjaaGreatDoorZYH
import Derived.Test.YtfdmlfpldgobjaaGreatDoorZYB
set_option linter.unusedVariables false
set_option linter.unusedSimpArgs false
namespace Go.Proofs.YtfdmlfpldgobjaaGreatDoor
open Go.RowKit Big
/-- block g is there, and may be written -/
structure Zn (w : World) (g : Nat) : Prop where
 lt : g < w.heap.size
 fr : ∀ i, w.frozen? ⟨g, i, none⟩ = false
theorem Zn.below {w w' : World} {g : Nat} (h : Zn w g) (hb : Below w.heap.size w w') : Zn w' g :=
 ⟨Nat.lt_of_lt_of_le h.lt hb.size, fun i => (hb.frozen (p := ⟨g, i, none⟩) h.lt).trans (h.fr i)⟩
theorem newF {W w' : World} {a b c d : Value} {t : TypeId} (h : Below (W.alloc (.cells #[a, b, c, d] t)).heap.size (W.alloc (.cells #[a, b, c, d] t)) w') :
  w'.cell? ⟨W.heap.size, 0, none⟩ = some a ∧ w'.cell? ⟨W.heap.size, 1, none⟩ = some b ∧ w'.cell? ⟨W.heap.size, 2, none⟩ = some c ∧ w'.cell? ⟨W.heap.size, 3, none⟩ = some d ∧ Zn w' W.heap.size := by
 obtain ⟨p, q, r⟩ := box_keep h
 exact ⟨(p 0).trans rfl, (p 1).trans rfl, (p 2).trans rfl, (p 3).trans rfl, r, q⟩
theorem enterI {w : World} {a0_0 a0_1 : Value} {t0 : TypeId} {P : World → Prop}
  (H : ∀ u, Below w.heap.size w u → u.cell? ⟨w.heap.size, 0, none⟩ = some a0_0 → u.cell? ⟨w.heap.size, 1, none⟩ = some a0_1 → Zn u w.heap.size → Hid (u.heap.size = w.heap.size + 1) → P u) : P (w.alloc (.cells #[a0_0, a0_1] t0)) := by
 obtain ⟨p0, f0, l0⟩ := box_keep (w := w) (w1 := (w.alloc (.cells #[a0_0, a0_1] t0))) (Below.refl _ _)
 exact H _ ((Below.refl _ _).alloc (by simp; try omega) _) (p0 0) (p0 1) ⟨by simp; try omega, f0⟩ (by unfold Hid; simp)
theorem enterF {w : World} {a0_0 a0_1 a0_2 a0_3 : Value} {t0 : TypeId} {P : World → Prop}
  (H : ∀ u, Below w.heap.size w u → u.cell? ⟨w.heap.size, 0, none⟩ = some a0_0 → u.cell? ⟨w.heap.size, 1, none⟩ = some a0_1 → u.cell? ⟨w.heap.size, 2, none⟩ = some a0_2 → u.cell? ⟨w.heap.size, 3, none⟩ = some a0_3 → Zn u w.heap.size → Hid (u.heap.size = w.heap.size + 1) → P u) : P (w.alloc (.cells #[a0_0, a0_1, a0_2, a0_3] t0)) := by
 obtain ⟨p0, f0, l0⟩ := box_keep (w := w) (w1 := (w.alloc (.cells #[a0_0, a0_1, a0_2, a0_3] t0))) (Below.refl _ _)
 exact H _ ((Below.refl _ _).alloc (by simp; try omega) _) (p0 0) (p0 1) (p0 2) (p0 3) ⟨by simp; try omega, f0⟩ (by unfold Hid; simp)
theorem enterII {w : World} {a0_0 a0_1 a1_0 a1_1 : Value} {t0 t1 : TypeId} {P : World → Prop}
  (H : ∀ u, Below w.heap.size w u → u.cell? ⟨w.heap.size, 0, none⟩ = some a0_0 → u.cell? ⟨w.heap.size, 1, none⟩ = some a0_1 → u.cell? ⟨w.heap.size + 1, 0, none⟩ = some a1_0 → u.cell? ⟨w.heap.size + 1, 1, none⟩ = some a1_1 → Zn u w.heap.size → Zn u (w.heap.size + 1) → Hid (u.heap.size = w.heap.size + 1 + 1) → P u) : P ((w.alloc (.cells #[a0_0, a0_1] t0)).alloc (.cells #[a1_0, a1_1] t1)) := by
 obtain ⟨p0, f0, l0⟩ := box_keep (w := w) (w1 := ((w.alloc (.cells #[a0_0, a0_1] t0)).alloc (.cells #[a1_0, a1_1] t1))) ((Below.refl _ _).alloc (by simp) _)
 obtain ⟨p1, f1, l1⟩ := box_keep (w := (w.alloc (.cells #[a0_0, a0_1] t0))) (w1 := ((w.alloc (.cells #[a0_0, a0_1] t0)).alloc (.cells #[a1_0, a1_1] t1))) (Below.refl _ _)
 simp only [World.size_alloc] at p1 f1
 exact H _ (((Below.refl _ _).alloc (by simp; try omega) _).alloc (by simp; try omega) _) (p0 0) (p0 1) (p1 0) (p1 1) ⟨by simp; try omega, f0⟩ ⟨by simp; try omega, f1⟩ (by unfold Hid; simp)
theorem enterFF {w : World} {a0_0 a0_1 a0_2 a0_3 a1_0 a1_1 a1_2 a1_3 : Value} {t0 t1 : TypeId} {P : World → Prop}
  (H : ∀ u, Below w.heap.size w u → u.cell? ⟨w.heap.size, 0, none⟩ = some a0_0 → u.cell? ⟨w.heap.size, 1, none⟩ = some a0_1 → u.cell? ⟨w.heap.size, 2, none⟩ = some a0_2 → u.cell? ⟨w.heap.size, 3, none⟩ = some a0_3 → u.cell? ⟨w.heap.size + 1, 0, none⟩ = some a1_0 → u.cell? ⟨w.heap.size + 1, 1, none⟩ = some a1_1 → u.cell? ⟨w.heap.size + 1, 2, none⟩ = some a1_2 → u.cell? ⟨w.heap.size + 1, 3, none⟩ = some a1_3 → Zn u w.heap.size → Zn u (w.heap.size + 1) → Hid (u.heap.size = w.heap.size + 1 + 1) → P u) : P ((w.alloc (.cells #[a0_0, a0_1, a0_2, a0_3] t0)).alloc (.cells #[a1_0, a1_1, a1_2, a1_3] t1)) := by
 obtain ⟨p0, f0, l0⟩ := box_keep (w := w) (w1 := ((w.alloc (.cells #[a0_0, a0_1, a0_2, a0_3] t0)).alloc (.cells #[a1_0, a1_1, a1_2, a1_3] t1))) ((Below.refl _ _).alloc (by simp) _)
 obtain ⟨p1, f1, l1⟩ := box_keep (w := (w.alloc (.cells #[a0_0, a0_1, a0_2, a0_3] t0))) (w1 := ((w.alloc (.cells #[a0_0, a0_1, a0_2, a0_3] t0)).alloc (.cells #[a1_0, a1_1, a1_2, a1_3] t1))) (Below.refl _ _)
 simp only [World.size_alloc] at p1 f1
 exact H _ (((Below.refl _ _).alloc (by simp; try omega) _).alloc (by simp; try omega) _) (p0 0) (p0 1) (p0 2) (p0 3) (p1 0) (p1 1) (p1 2) (p1 3) ⟨by simp; try omega, f0⟩ ⟨by simp; try omega, f1⟩ (by unfold Hid; simp)
theorem enterIII {w : World} {a0_0 a0_1 a1_0 a1_1 a2_0 a2_1 : Value} {t0 t1 t2 : TypeId} {P : World → Prop}
  (H : ∀ u, Below w.heap.size w u → u.cell? ⟨w.heap.size, 0, none⟩ = some a0_0 → u.cell? ⟨w.heap.size, 1, none⟩ = some a0_1 → u.cell? ⟨w.heap.size + 1, 0, none⟩ = some a1_0 → u.cell? ⟨w.heap.size + 1, 1, none⟩ = some a1_1 → u.cell? ⟨w.heap.size + 1 + 1, 0, none⟩ = some a2_0 → u.cell? ⟨w.heap.size + 1 + 1, 1, none⟩ = some a2_1 → Zn u w.heap.size → Zn u (w.heap.size + 1) → Zn u (w.heap.size + 1 + 1) → Hid (u.heap.size = w.heap.size + 1 + 1 + 1) → P u) : P (((w.alloc (.cells #[a0_0, a0_1] t0)).alloc (.cells #[a1_0, a1_1] t1)).alloc (.cells #[a2_0, a2_1] t2)) := by
 obtain ⟨p0, f0, l0⟩ := box_keep (w := w) (w1 := (((w.alloc (.cells #[a0_0, a0_1] t0)).alloc (.cells #[a1_0, a1_1] t1)).alloc (.cells #[a2_0, a2_1] t2))) (((Below.refl _ _).alloc (by simp) _).alloc (by simp) _)
 obtain ⟨p1, f1, l1⟩ := box_keep (w := (w.alloc (.cells #[a0_0, a0_1] t0))) (w1 := (((w.alloc (.cells #[a0_0, a0_1] t0)).alloc (.cells #[a1_0, a1_1] t1)).alloc (.cells #[a2_0, a2_1] t2))) ((Below.refl _ _).alloc (by simp) _)
 simp only [World.size_alloc] at p1 f1
 obtain ⟨p2, f2, l2⟩ := box_keep (w := ((w.alloc (.cells #[a0_0, a0_1] t0)).alloc (.cells #[a1_0, a1_1] t1))) (w1 := (((w.alloc (.cells #[a0_0, a0_1] t0)).alloc (.cells #[a1_0, a1_1] t1)).alloc (.cells #[a2_0, a2_1] t2))) (Below.refl _ _)
 simp only [World.size_alloc] at p2 f2
 exact H _ ((((Below.refl _ _).alloc (by simp; try omega) _).alloc (by simp; try omega) _).alloc (by simp; try omega) _) (p0 0) (p0 1) (p1 0) (p1 1) (p2 0) (p2 1) ⟨by simp; try omega, f0⟩ ⟨by simp; try omega, f1⟩ ⟨by simp; try omega, f2⟩ (by unfold Hid; simp)
theorem enterIIF {w : World} {a0_0 a0_1 a1_0 a1_1 a2_0 a2_1 a2_2 a2_3 : Value} {t0 t1 t2 : TypeId} {P : World → Prop}
  (H : ∀ u, Below w.heap.size w u → u.cell? ⟨w.heap.size, 0, none⟩ = some a0_0 → u.cell? ⟨w.heap.size, 1, none⟩ = some a0_1 → u.cell? ⟨w.heap.size + 1, 0, none⟩ = some a1_0 → u.cell? ⟨w.heap.size + 1, 1, none⟩ = some a1_1 → u.cell? ⟨w.heap.size + 1 + 1, 0, none⟩ = some a2_0 → u.cell? ⟨w.heap.size + 1 + 1, 1, none⟩ = some a2_1 → u.cell? ⟨w.heap.size + 1 + 1, 2, none⟩ = some a2_2 → u.cell? ⟨w.heap.size + 1 + 1, 3, none⟩ = some a2_3 → Zn u w.heap.size → Zn u (w.heap.size + 1) → Zn u (w.heap.size + 1 + 1) → Hid (u.heap.size = w.heap.size + 1 + 1 + 1) → P u) : P (((w.alloc (.cells #[a0_0, a0_1] t0)).alloc (.cells #[a1_0, a1_1] t1)).alloc (.cells #[a2_0, a2_1, a2_2, a2_3] t2)) := by
 obtain ⟨p0, f0, l0⟩ := box_keep (w := w) (w1 := (((w.alloc (.cells #[a0_0, a0_1] t0)).alloc (.cells #[a1_0, a1_1] t1)).alloc (.cells #[a2_0, a2_1, a2_2, a2_3] t2))) (((Below.refl _ _).alloc (by simp) _).alloc (by simp) _)
 obtain ⟨p1, f1, l1⟩ := box_keep (w := (w.alloc (.cells #[a0_0, a0_1] t0))) (w1 := (((w.alloc (.cells #[a0_0, a0_1] t0)).alloc (.cells #[a1_0, a1_1] t1)).alloc (.cells #[a2_0, a2_1, a2_2, a2_3] t2))) ((Below.refl _ _).alloc (by simp) _)
 simp only [World.size_alloc] at p1 f1
 obtain ⟨p2, f2, l2⟩ := box_keep (w := ((w.alloc (.cells #[a0_0, a0_1] t0)).alloc (.cells #[a1_0, a1_1] t1))) (w1 := (((w.alloc (.cells #[a0_0, a0_1] t0)).alloc (.cells #[a1_0, a1_1] t1)).alloc (.cells #[a2_0, a2_1, a2_2, a2_3] t2))) (Below.refl _ _)
 simp only [World.size_alloc] at p2 f2
 exact H _ ((((Below.refl _ _).alloc (by simp; try omega) _).alloc (by simp; try omega) _).alloc (by simp; try omega) _) (p0 0) (p0 1) (p1 0) (p1 1) (p2 0) (p2 1) (p2 2) (p2 3) ⟨by simp; try omega, f0⟩ ⟨by simp; try omega, f1⟩ ⟨by simp; try omega, f2⟩ (by unfold Hid; simp)
theorem enterFFF {w : World} {a0_0 a0_1 a0_2 a0_3 a1_0 a1_1 a1_2 a1_3 a2_0 a2_1 a2_2 a2_3 : Value} {t0 t1 t2 : TypeId} {P : World → Prop}
  (H : ∀ u, Below w.heap.size w u → u.cell? ⟨w.heap.size, 0, none⟩ = some a0_0 → u.cell? ⟨w.heap.size, 1, none⟩ = some a0_1 → u.cell? ⟨w.heap.size, 2, none⟩ = some a0_2 → u.cell? ⟨w.heap.size, 3, none⟩ = some a0_3 → u.cell? ⟨w.heap.size + 1, 0, none⟩ = some a1_0 → u.cell? ⟨w.heap.size + 1, 1, none⟩ = some a1_1 → u.cell? ⟨w.heap.size + 1, 2, none⟩ = some a1_2 → u.cell? ⟨w.heap.size + 1, 3, none⟩ = some a1_3 → u.cell? ⟨w.heap.size + 1 + 1, 0, none⟩ = some a2_0 → u.cell? ⟨w.heap.size + 1 + 1, 1, none⟩ = some a2_1 → u.cell? ⟨w.heap.size + 1 + 1, 2, none⟩ = some a2_2 → u.cell? ⟨w.heap.size + 1 + 1, 3, none⟩ = some a2_3 → Zn u w.heap.size → Zn u (w.heap.size + 1) → Zn u (w.heap.size + 1 + 1) → Hid (u.heap.size = w.heap.size + 1 + 1 + 1) → P u) : P (((w.alloc (.cells #[a0_0, a0_1, a0_2, a0_3] t0)).alloc (.cells #[a1_0, a1_1, a1_2, a1_3] t1)).alloc (.cells #[a2_0, a2_1, a2_2, a2_3] t2)) := by
 obtain ⟨p0, f0, l0⟩ := box_keep (w := w) (w1 := (((w.alloc (.cells #[a0_0, a0_1, a0_2, a0_3] t0)).alloc (.cells #[a1_0, a1_1, a1_2, a1_3] t1)).alloc (.cells #[a2_0, a2_1, a2_2, a2_3] t2))) (((Below.refl _ _).alloc (by simp) _).alloc (by simp) _)
 obtain ⟨p1, f1, l1⟩ := box_keep (w := (w.alloc (.cells #[a0_0, a0_1, a0_2, a0_3] t0))) (w1 := (((w.alloc (.cells #[a0_0, a0_1, a0_2, a0_3] t0)).alloc (.cells #[a1_0, a1_1, a1_2, a1_3] t1)).alloc (.cells #[a2_0, a2_1, a2_2, a2_3] t2))) ((Below.refl _ _).alloc (by simp) _)
 simp only [World.size_alloc] at p1 f1
 obtain ⟨p2, f2, l2⟩ := box_keep (w := ((w.alloc (.cells #[a0_0, a0_1, a0_2, a0_3] t0)).alloc (.cells #[a1_0, a1_1, a1_2, a1_3] t1))) (w1 := (((w.alloc (.cells #[a0_0, a0_1, a0_2, a0_3] t0)).alloc (.cells #[a1_0, a1_1, a1_2, a1_3] t1)).alloc (.cells #[a2_0, a2_1, a2_2, a2_3] t2))) (Below.refl _ _)
 simp only [World.size_alloc] at p2 f2
 exact H _ ((((Below.refl _ _).alloc (by simp; try omega) _).alloc (by simp; try omega) _).alloc (by simp; try omega) _) (p0 0) (p0 1) (p0 2) (p0 3) (p1 0) (p1 1) (p1 2) (p1 3) (p2 0) (p2 1) (p2 2) (p2 3) ⟨by simp; try omega, f0⟩ ⟨by simp; try omega, f1⟩ ⟨by simp; try omega, f2⟩ (by unfold Hid; simp)
theorem enterFI {w : World} {a0_0 a0_1 a0_2 a0_3 a1_0 a1_1 : Value} {t0 t1 : TypeId} {P : World → Prop}
  (H : ∀ u, Below w.heap.size w u → u.cell? ⟨w.heap.size, 0, none⟩ = some a0_0 → u.cell? ⟨w.heap.size, 1, none⟩ = some a0_1 → u.cell? ⟨w.heap.size, 2, none⟩ = some a0_2 → u.cell? ⟨w.heap.size, 3, none⟩ = some a0_3 → u.cell? ⟨w.heap.size + 1, 0, none⟩ = some a1_0 → u.cell? ⟨w.heap.size + 1, 1, none⟩ = some a1_1 → Zn u w.heap.size → Zn u (w.heap.size + 1) → Hid (u.heap.size = w.heap.size + 1 + 1) → P u) : P ((w.alloc (.cells #[a0_0, a0_1, a0_2, a0_3] t0)).alloc (.cells #[a1_0, a1_1] t1)) := by
 obtain ⟨p0, f0, l0⟩ := box_keep (w := w) (w1 := ((w.alloc (.cells #[a0_0, a0_1, a0_2, a0_3] t0)).alloc (.cells #[a1_0, a1_1] t1))) ((Below.refl _ _).alloc (by simp) _)
 obtain ⟨p1, f1, l1⟩ := box_keep (w := (w.alloc (.cells #[a0_0, a0_1, a0_2, a0_3] t0))) (w1 := ((w.alloc (.cells #[a0_0, a0_1, a0_2, a0_3] t0)).alloc (.cells #[a1_0, a1_1] t1))) (Below.refl _ _)
 simp only [World.size_alloc] at p1 f1
 exact H _ (((Below.refl _ _).alloc (by simp; try omega) _).alloc (by simp; try omega) _) (p0 0) (p0 1) (p0 2) (p0 3) (p1 0) (p1 1) ⟨by simp; try omega, f0⟩ ⟨by simp; try omega, f1⟩ (by unfold Hid; simp)
theorem enterIF {w : World} {a0_0 a0_1 a1_0 a1_1 a1_2 a1_3 : Value} {t0 t1 : TypeId} {P : World → Prop}
  (H : ∀ u, Below w.heap.size w u → u.cell? ⟨w.heap.size, 0, none⟩ = some a0_0 → u.cell? ⟨w.heap.size, 1, none⟩ = some a0_1 → u.cell? ⟨w.heap.size + 1, 0, none⟩ = some a1_0 → u.cell? ⟨w.heap.size + 1, 1, none⟩ = some a1_1 → u.cell? ⟨w.heap.size + 1, 2, none⟩ = some a1_2 → u.cell? ⟨w.heap.size + 1, 3, none⟩ = some a1_3 → Zn u w.heap.size → Zn u (w.heap.size + 1) → Hid (u.heap.size = w.heap.size + 1 + 1) → P u) : P ((w.alloc (.cells #[a0_0, a0_1] t0)).alloc (.cells #[a1_0, a1_1, a1_2, a1_3] t1)) := by
 obtain ⟨p0, f0, l0⟩ := box_keep (w := w) (w1 := ((w.alloc (.cells #[a0_0, a0_1] t0)).alloc (.cells #[a1_0, a1_1, a1_2, a1_3] t1))) ((Below.refl _ _).alloc (by simp) _)
 obtain ⟨p1, f1, l1⟩ := box_keep (w := (w.alloc (.cells #[a0_0, a0_1] t0))) (w1 := ((w.alloc (.cells #[a0_0, a0_1] t0)).alloc (.cells #[a1_0, a1_1, a1_2, a1_3] t1))) (Below.refl _ _)
 simp only [World.size_alloc] at p1 f1
 exact H _ (((Below.refl _ _).alloc (by simp; try omega) _).alloc (by simp; try omega) _) (p0 0) (p0 1) (p1 0) (p1 1) (p1 2) (p1 3) ⟨by simp; try omega, f0⟩ ⟨by simp; try omega, f1⟩ (by unfold Hid; simp)
theorem enterFBI {w : World} {a0_0 a0_1 a0_2 a0_3 a1_0 a2_0 a2_1 : Value} {t0 t1 t2 : TypeId} {P : World → Prop}
  (H : ∀ u, Below w.heap.size w u → u.cell? ⟨w.heap.size, 0, none⟩ = some a0_0 → u.cell? ⟨w.heap.size, 1, none⟩ = some a0_1 → u.cell? ⟨w.heap.size, 2, none⟩ = some a0_2 → u.cell? ⟨w.heap.size, 3, none⟩ = some a0_3 → u.cell? ⟨w.heap.size + 1, 0, none⟩ = some a1_0 → u.cell? ⟨w.heap.size + 1 + 1, 0, none⟩ = some a2_0 → u.cell? ⟨w.heap.size + 1 + 1, 1, none⟩ = some a2_1 → Zn u w.heap.size → Zn u (w.heap.size + 1) → Zn u (w.heap.size + 1 + 1) → Hid (u.heap.size = w.heap.size + 1 + 1 + 1) → P u) : P (((w.alloc (.cells #[a0_0, a0_1, a0_2, a0_3] t0)).alloc (.cells #[a1_0] t1)).alloc (.cells #[a2_0, a2_1] t2)) := by
 obtain ⟨p0, f0, l0⟩ := box_keep (w := w) (w1 := (((w.alloc (.cells #[a0_0, a0_1, a0_2, a0_3] t0)).alloc (.cells #[a1_0] t1)).alloc (.cells #[a2_0, a2_1] t2))) (((Below.refl _ _).alloc (by simp) _).alloc (by simp) _)
 obtain ⟨p1, f1, l1⟩ := box_keep (w := (w.alloc (.cells #[a0_0, a0_1, a0_2, a0_3] t0))) (w1 := (((w.alloc (.cells #[a0_0, a0_1, a0_2, a0_3] t0)).alloc (.cells #[a1_0] t1)).alloc (.cells #[a2_0, a2_1] t2))) ((Below.refl _ _).alloc (by simp) _)
 simp only [World.size_alloc] at p1 f1
 obtain ⟨p2, f2, l2⟩ := box_keep (w := ((w.alloc (.cells #[a0_0, a0_1, a0_2, a0_3] t0)).alloc (.cells #[a1_0] t1))) (w1 := (((w.alloc (.cells #[a0_0, a0_1, a0_2, a0_3] t0)).alloc (.cells #[a1_0] t1)).alloc (.cells #[a2_0, a2_1] t2))) (Below.refl _ _)
 simp only [World.size_alloc] at p2 f2
 exact H _ ((((Below.refl _ _).alloc (by simp; try omega) _).alloc (by simp; try omega) _).alloc (by simp; try omega) _) (p0 0) (p0 1) (p0 2) (p0 3) (p1 0) (p2 0) (p2 1) ⟨by simp; try omega, f0⟩ ⟨by simp; try omega, f1⟩ ⟨by simp; try omega, f2⟩ (by unfold Hid; simp)
theorem enterFBBI {w : World} {a0_0 a0_1 a0_2 a0_3 a1_0 a2_0 a3_0 a3_1 : Value} {t0 t1 t2 t3 : TypeId} {P : World → Prop}
  (H : ∀ u, Below w.heap.size w u → u.cell? ⟨w.heap.size, 0, none⟩ = some a0_0 → u.cell? ⟨w.heap.size, 1, none⟩ = some a0_1 → u.cell? ⟨w.heap.size, 2, none⟩ = some a0_2 → u.cell? ⟨w.heap.size, 3, none⟩ = some a0_3 → u.cell? ⟨w.heap.size + 1, 0, none⟩ = some a1_0 → u.cell? ⟨w.heap.size + 1 + 1, 0, none⟩ = some a2_0 → u.cell? ⟨w.heap.size + 1 + 1 + 1, 0, none⟩ = some a3_0 → u.cell? ⟨w.heap.size + 1 + 1 + 1, 1, none⟩ = some a3_1 → Zn u w.heap.size → Zn u (w.heap.size + 1) → Zn u (w.heap.size + 1 + 1) → Zn u (w.heap.size + 1 + 1 + 1) → Hid (u.heap.size = w.heap.size + 1 + 1 + 1 + 1) → P u) : P ((((w.alloc (.cells #[a0_0, a0_1, a0_2, a0_3] t0)).alloc (.cells #[a1_0] t1)).alloc (.cells #[a2_0] t2)).alloc (.cells #[a3_0, a3_1] t3)) := by
 obtain ⟨p0, f0, l0⟩ := box_keep (w := w) (w1 := ((((w.alloc (.cells #[a0_0, a0_1, a0_2, a0_3] t0)).alloc (.cells #[a1_0] t1)).alloc (.cells #[a2_0] t2)).alloc (.cells #[a3_0, a3_1] t3))) ((((Below.refl _ _).alloc (by simp) _).alloc (by simp) _).alloc (by simp) _)
 obtain ⟨p1, f1, l1⟩ := box_keep (w := (w.alloc (.cells #[a0_0, a0_1, a0_2, a0_3] t0))) (w1 := ((((w.alloc (.cells #[a0_0, a0_1, a0_2, a0_3] t0)).alloc (.cells #[a1_0] t1)).alloc (.cells #[a2_0] t2)).alloc (.cells #[a3_0, a3_1] t3))) (((Below.refl _ _).alloc (by simp) _).alloc (by simp) _)
 simp only [World.size_alloc] at p1 f1
 obtain ⟨p2, f2, l2⟩ := box_keep (w := ((w.alloc (.cells #[a0_0, a0_1, a0_2, a0_3] t0)).alloc (.cells #[a1_0] t1))) (w1 := ((((w.alloc (.cells #[a0_0, a0_1, a0_2, a0_3] t0)).alloc (.cells #[a1_0] t1)).alloc (.cells #[a2_0] t2)).alloc (.cells #[a3_0, a3_1] t3))) ((Below.refl _ _).alloc (by simp) _)
 simp only [World.size_alloc] at p2 f2
 obtain ⟨p3, f3, l3⟩ := box_keep (w := (((w.alloc (.cells #[a0_0, a0_1, a0_2, a0_3] t0)).alloc (.cells #[a1_0] t1)).alloc (.cells #[a2_0] t2))) (w1 := ((((w.alloc (.cells #[a0_0, a0_1, a0_2, a0_3] t0)).alloc (.cells #[a1_0] t1)).alloc (.cells #[a2_0] t2)).alloc (.cells #[a3_0, a3_1] t3))) (Below.refl _ _)
 simp only [World.size_alloc] at p3 f3
 exact H _ (((((Below.refl _ _).alloc (by simp; try omega) _).alloc (by simp; try omega) _).alloc (by simp; try omega) _).alloc (by simp; try omega) _) (p0 0) (p0 1) (p0 2) (p0 3) (p1 0) (p2 0) (p3 0) (p3 1) ⟨by simp; try omega, f0⟩ ⟨by simp; try omega, f1⟩ ⟨by simp; try omega, f2⟩ ⟨by simp; try omega, f3⟩ (by unfold Hid; simp)
end Go.Proofs.YtfdmlfpldgobjaaGreatDoor
/- Words for fractions that the walks share. Conditions: none. -/
namespace Go.Proofs.YtfdmlfpldgobjaaGreatDoor
open Go.RowKit Big
/-- n's number of limbs and limbs -/
structure Lz (n : Nat) (k : Nat) (L : List Nat) : Prop where
 hL : L = limbs n
 hk : k = L.length
theorem lz (n : Nat) : ∃ k L, Hid (Lz n k L) := ⟨_, _, rfl, rfl⟩
def GN (w : World) (k : Nat) (L : List Nat) (e : Ending) (w' : World) : Prop := ∃ A c, e = .returned (.slice A k c) ∧ Mg w' A c L ∧ Below w.heap.size w w'
def GNN (w : World) (k : Nat) (L : List Nat) (k' : Nat) (L' : List Nat) (e : Ending) (w' : World) : Prop := ∃ A c B d, e = .returned (.tuple #[.slice A k c, .slice B k' d]) ∧ Mg w' A c L ∧ Mg w' B d L' ∧ Below w.heap.size w w'
/-- a fraction's sign, numbers of limbs and limbs -/
structure Fz (f : Int × Nat) (b : Bool) (k : Nat) (xs : List Nat) (l : Nat) (ys : List Nat) : Prop where
 hb : b = decide (f.1 < 0)
 hx : xs = limbs f.1.natAbs
 hk : k = xs.length
 hy : ys = limbs f.2
 hl : l = ys.length
theorem fz (f : Int × Nat) : ∃ b k xs l ys, Hid (Fz f b k xs l ys) := ⟨_, _, _, _, _, rfl, rfl, rfl, rfl, rfl⟩
theorem Fz.num {f : Int × Nat} {b : Bool} {k l : Nat} {xs ys : List Nat} (h : Fz f b k xs l ys) : Iz f.1 b k xs := ⟨h.hb, h.hx, h.hk⟩
theorem Fz.den {f : Int × Nat} {b : Bool} {k l : Nat} {xs ys : List Nat} (h : Fz f b k xs l ys) : Iz (f.2 : Int) false l ys := ⟨by simp, by rw [Int.natAbs_natCast]; exact h.hy, h.hl⟩
theorem Fz.n {f : Int × Nat} {b : Bool} {k l : Nat} {xs ys : List Nat} (h : Fz f b k xs l ys) : Lz f.1.natAbs k xs := ⟨h.hx, h.hk⟩
theorem Fz.d {f : Int × Nat} {b : Bool} {k l : Nat} {xs ys : List Nat} (h : Fz f b k xs l ys) : Lz f.2 l ys := ⟨h.hy, h.hl⟩
def GF (w : World) (b : Bool) (k : Nat) (xs : List Nat) (l : Nat) (ys : List Nat) (err : Int) (e : Ending) (w' : World) : Prop :=
 ∃ A c B d, e = .returned (.tuple #[.agg #[.bool b, .slice A k c, .bool false, .slice B l d], .int .i64 err]) ∧ Mg w' A c xs ∧ Mg w' B d ys ∧ Below w.heap.size w w'
/-- the fraction q.1 with the error q.2 -/
def RetFE (w : World) (q : (Int × Nat) × Int) (e : Ending) (w' : World) : Prop :=
 ∃ A c B d, e = .returned (.tuple #[.agg #[.bool (decide (q.1.1 < 0)), .slice A (limbs q.1.1.natAbs).length c, .bool false, .slice B (limbs q.1.2).length d], .int .i64 q.2]) ∧ Mg w' A c (limbs q.1.1.natAbs) ∧ Mg w' B d (limbs q.1.2) ∧ Below w.heap.size w w'
theorem RetFE.g {w w' : World} {q : (Int × Nat) × Int} {b : Bool} {k l : Nat} {xs ys : List Nat} {e : Ending} (h : RetFE w q e w') (I : Fz q.1 b k xs l ys) : GF w b k xs l ys q.2 e w' := by
 obtain ⟨rfl, rfl, rfl, rfl, rfl⟩ := I; exact h
theorem retFE_zero {w w' : World} (err : Int) (hb : Below w.heap.size w w') : RetFE w ((0, 0), err) (.returned (.tuple #[.agg #[.bool false, .slice none 0 0, .bool false, .slice none 0 0], .int .i64 err])) w' :=
 ⟨none, 0, none, 0, by simp [limbs_zero], by simpa using mg_nil w', by simpa using mg_nil w', hb⟩
def GNNn (B0 : Nat) (w : World) (k : Nat) (L : List Nat) (k' : Nat) (L' : List Nat) (e : Ending) (w' : World) : Prop := ∃ A c B d, e = .returned (.tuple #[.slice A k c, .slice B k' d]) ∧ MgN B0 w' A c L ∧ Mg w' B d L' ∧ Below w.heap.size w w'
def GFn (B0 : Nat) (w : World) (b : Bool) (k : Nat) (xs : List Nat) (l : Nat) (ys : List Nat) (err : Int) (e : Ending) (w' : World) : Prop :=
 ∃ A c B d, e = .returned (.tuple #[.agg #[.bool b, .slice A k c, .bool false, .slice B l d], .int .i64 err]) ∧ MgN B0 w' A c xs ∧ MgN B0 w' B d ys ∧ Below w.heap.size w w'
def RetFEn (w : World) (q : (Int × Nat) × Int) (e : Ending) (w' : World) : Prop := GFn w.heap.size w (decide (q.1.1 < 0)) (limbs q.1.1.natAbs).length (limbs q.1.1.natAbs) (limbs q.1.2).length (limbs q.1.2) q.2 e w'
theorem GFn.any {B0 : Nat} {w w' : World} {b : Bool} {k l : Nat} {xs ys : List Nat} {err : Int} {e : Ending} (h : GFn B0 w b k xs l ys err e w') : GF w b k xs l ys err e w' := by
 obtain ⟨A, c, B, d, h1, h2, h3, h4⟩ := h; exact ⟨A, c, B, d, h1, h2.m, h3.m, h4⟩
theorem GFn.up {B0 B' : Nat} {w w' : World} {b : Bool} {k l : Nat} {xs ys : List Nat} {err : Int} {e : Ending} (hB : B' ≤ B0) (h : GFn B0 w b k xs l ys err e w') : GFn B' w b k xs l ys err e w' := by
 obtain ⟨A, c, B, d, h1, h2, h3, h4⟩ := h; exact ⟨A, c, B, d, h1, h2.up hB, h3.up hB, h4⟩
theorem GNNn.up {B0 B' : Nat} {w w' : World} {k : Nat} {L : List Nat} {k' : Nat} {L' : List Nat} {e : Ending} (hB : B' ≤ B0) (h : GNNn B0 w k L k' L' e w') : GNNn B' w k L k' L' e w' := by
 obtain ⟨A, c, B, d, h1, h2, h3, h4⟩ := h; exact ⟨A, c, B, d, h1, h2.up hB, h3, h4⟩
theorem RetFEn.any {w w' : World} {q : (Int × Nat) × Int} {e : Ending} (h : RetFEn w q e w') : RetFE w q e w' := GFn.any h
theorem RetFEn.g {w w' : World} {q : (Int × Nat) × Int} {b : Bool} {k l : Nat} {xs ys : List Nat} {e : Ending} (h : RetFEn w q e w') (I : Fz q.1 b k xs l ys) : GFn w.heap.size w b k xs l ys q.2 e w' := by
 obtain ⟨rfl, rfl, rfl, rfl, rfl⟩ := I; exact h
theorem GFn.r {w w' : World} {p : Int × Nat} {err : Int} {b : Bool} {k l : Nat} {xs ys : List Nat} {e : Ending} (h : GFn w.heap.size w b k xs l ys err e w') (I : Fz p b k xs l ys) : RetFEn w (p, err) e w' := by
 obtain ⟨rfl, rfl, rfl, rfl, rfl⟩ := I; exact h
/-- four fields stored into a result's box: everything else stays -/
theorem fin_fr {w w1 : World} {g : Nat} {b0 b2 : Bool} {A1 B1 : Option Addr} {n1 c1 m1 d1 : Nat} {X Y : Option Addr} {c d : Nat} {xs ys : List Nat} (hn : Mg w1 X c xs) (hd : Mg w1 Y d ys) (hb : Below w.heap.size w w1) (hg : w.heap.size ≤ g)
  (k0 : w1.cell? ⟨g, 0, none⟩ = some (.bool b0)) (k1 : w1.cell? ⟨g, 1, none⟩ = some (.slice A1 n1 c1)) (k2 : w1.cell? ⟨g, 2, none⟩ = some (.bool b2)) (k3 : w1.cell? ⟨g, 3, none⟩ = some (.slice B1 m1 d1)) (u0 u1 u2 u3 : Value) :
  Mg ((((w1.setCell ⟨g, 0, none⟩ u0).setCell ⟨g, 1, none⟩ u1).setCell ⟨g, 2, none⟩ u2).setCell ⟨g, 3, none⟩ u3) X c xs ∧ Mg ((((w1.setCell ⟨g, 0, none⟩ u0).setCell ⟨g, 1, none⟩ u1).setCell ⟨g, 2, none⟩ u2).setCell ⟨g, 3, none⟩ u3) Y d ys ∧ Below w.heap.size w ((((w1.setCell ⟨g, 0, none⟩ u0).setCell ⟨g, 1, none⟩ u1).setCell ⟨g, 2, none⟩ u2).setCell ⟨g, 3, none⟩ u3) := by
 have m : ∀ {A' c' xs}, Mg w1 A' c' xs → Mg ((((w1.setCell ⟨g, 0, none⟩ u0).setCell ⟨g, 1, none⟩ u1).setCell ⟨g, 2, none⟩ u2).setCell ⟨g, 3, none⟩ u3) A' c' xs := fun h =>
  (((h.set_ g 0 _ u0 k0 (by simp)).set_ g 1 _ u1 ((cell_set_ne (by omega)).trans k1) (by simp)).set_ g 2 _ u2 ((cell_set_ne (by omega)).trans ((cell_set_ne (by omega)).trans k2)) (by simp)).set_ g 3 _ u3 ((cell_set_ne (by omega)).trans ((cell_set_ne (by omega)).trans ((cell_set_ne (by omega)).trans k3))) (by simp)
 exact ⟨m hn, m hd, below_set (below_set (below_set (below_set hb hg _ _) hg _ _) hg _ _) hg _ _⟩
theorem fin_frn {B0 : Nat} {w w1 : World} {g : Nat} {b0 b2 : Bool} {A1 B1 : Option Addr} {n1 c1 m1 d1 : Nat} {X Y : Option Addr} {c d : Nat} {xs ys : List Nat} (hn : MgN B0 w1 X c xs) (hd : MgN B0 w1 Y d ys) (hb : Below w.heap.size w w1) (hg : w.heap.size ≤ g)
  (k0 : w1.cell? ⟨g, 0, none⟩ = some (.bool b0)) (k1 : w1.cell? ⟨g, 1, none⟩ = some (.slice A1 n1 c1)) (k2 : w1.cell? ⟨g, 2, none⟩ = some (.bool b2)) (k3 : w1.cell? ⟨g, 3, none⟩ = some (.slice B1 m1 d1)) (u0 u1 u2 u3 : Value) :
  MgN B0 ((((w1.setCell ⟨g, 0, none⟩ u0).setCell ⟨g, 1, none⟩ u1).setCell ⟨g, 2, none⟩ u2).setCell ⟨g, 3, none⟩ u3) X c xs ∧ MgN B0 ((((w1.setCell ⟨g, 0, none⟩ u0).setCell ⟨g, 1, none⟩ u1).setCell ⟨g, 2, none⟩ u2).setCell ⟨g, 3, none⟩ u3) Y d ys ∧ Below w.heap.size w ((((w1.setCell ⟨g, 0, none⟩ u0).setCell ⟨g, 1, none⟩ u1).setCell ⟨g, 2, none⟩ u2).setCell ⟨g, 3, none⟩ u3) := by
 obtain ⟨j1, j2, j3⟩ := fin_fr hn.m hd.m hb hg k0 k1 k2 k3 u0 u1 u2 u3
 exact ⟨⟨j1, (((hn.nw.set _ _).set _ _).set _ _).set _ _⟩, ⟨j2, (((hd.nw.set _ _).set _ _).set _ _).set _ _⟩, j3⟩
theorem Lz.le {n k m : Nat} {L : List Nat} (h : Lz n k L) (hm : (limbs n).length ≤ m) : k ≤ m := by obtain ⟨rfl, rfl⟩ := h; exact hm
theorem Lz.len {n k : Nat} {L : List Nat} (h : Lz n k L) : (limbs n).length = k := by obtain ⟨rfl, rfl⟩ := h; rfl
theorem Lz.mono {n m k l : Nat} {L L' : List Nat} (h : Lz n k L) (h' : Lz m l L') (hm : n ≤ m) : k ≤ l := by obtain ⟨rfl, rfl⟩ := h; obtain ⟨rfl, rfl⟩ := h'; exact limbs_mono hm
theorem Lz.zero {n k : Nat} {L : List Nat} (h : Lz n k L) : k = 0 ↔ n = 0 := by obtain ⟨rfl, rfl⟩ := h; rw [List.length_eq_zero_iff, limbs_eq_nil]
theorem mg_nil' (w : World) : Mg w none 0 [] := by simpa [limbs_zero] using mg_nil w
theorem limbs_len2' {n q k : Nat} (hq : q ≤ 1) (h : (limbs n).length ≤ k) : (limbs (2 * n + q)).length ≤ k + 1 := by
 have := limbs_len2 (n := n) (m := 2) (p := q) (by omega) (by omega)
 rw [Nat.mul_comm n 2] at this
 omega
theorem mul_len {n m k l : Nat} {L L2 : List Nat} (h : Lz n k L) (h2 : Lz m l L2) : (limbs (n * m)).length ≤ k + l := by
 obtain ⟨rfl, rfl⟩ := h; obtain ⟨rfl, rfl⟩ := h2
 rw [limbs_len_iff, Nat.pow_add]
 have h1 := (limbs_len_iff n _).1 (Nat.le_refl _)
 have h2 := (limbs_len_iff m _).1 (Nat.le_refl _)
 rcases Nat.eq_zero_or_pos m with h | h
 ·subst h; simp only [Nat.mul_zero]; exact Nat.mul_pos (Nat.pow_pos (by decide)) (Nat.pow_pos (by decide))
 ·exact Nat.lt_of_lt_of_le (Nat.mul_lt_mul_of_pos_right h1 h) (Nat.mul_le_mul_left _ (Nat.le_of_lt h2))
theorem GF.r {w w' : World} {p : Int × Nat} {err : Int} {b : Bool} {k l : Nat} {xs ys : List Nat} {e : Ending} (h : GF w b k xs l ys err e w') (I : Fz p b k xs l ys) : RetFE w (p, err) e w' := by
 obtain ⟨rfl, rfl, rfl, rfl, rfl⟩ := I; exact h
theorem retFE_set {w w1 : World} {g : Nat} {b0 b2 : Bool} {A1 B1 : Option Addr} {n1 c1 m1 d1 : Nat} (err : Int) (hb : Below w.heap.size w w1) (hg : w.heap.size ≤ g)
  (k0 : w1.cell? ⟨g, 0, none⟩ = some (.bool b0)) (k1 : w1.cell? ⟨g, 1, none⟩ = some (.slice A1 n1 c1)) (k2 : w1.cell? ⟨g, 2, none⟩ = some (.bool b2)) (k3 : w1.cell? ⟨g, 3, none⟩ = some (.slice B1 m1 d1)) {u0 u1 u2 u3 : Value} :
  RetFE w ((0, 0), err) (.returned (.tuple #[.agg #[.bool false, .slice none 0 0, .bool false, .slice none 0 0], .int .i64 err])) ((((w1.setCell ⟨g, 0, none⟩ u0).setCell ⟨g, 1, none⟩ u1).setCell ⟨g, 2, none⟩ u2).setCell ⟨g, 3, none⟩ u3) :=
 retFE_zero err (fin_fr (X := none) (c := 0) (xs := []) (Y := none) (d := 0) (ys := []) (mg_nil' _) (mg_nil' _) hb hg k0 k1 k2 k3 u0 u1 u2 u3).2.2
theorem mgN_nil (B : Nat) (w : World) : MgN B w none 0 [] := ⟨mg_nil' w, .nil⟩
theorem mgN_nil0 (B : Nat) (w : World) : MgN B w none 0 (limbs 0) := ⟨mg_nil w, .nil⟩
theorem retFEn_set {w w1 : World} {g : Nat} {b0 b2 : Bool} {A1 B1 : Option Addr} {n1 c1 m1 d1 : Nat} (err : Int) (hb : Below w.heap.size w w1) (hg : w.heap.size ≤ g)
  (k0 : w1.cell? ⟨g, 0, none⟩ = some (.bool b0)) (k1 : w1.cell? ⟨g, 1, none⟩ = some (.slice A1 n1 c1)) (k2 : w1.cell? ⟨g, 2, none⟩ = some (.bool b2)) (k3 : w1.cell? ⟨g, 3, none⟩ = some (.slice B1 m1 d1)) {u0 u1 u2 u3 : Value} :
  RetFEn w ((0, 0), err) (.returned (.tuple #[.agg #[.bool false, .slice none 0 0, .bool false, .slice none 0 0], .int .i64 err])) ((((w1.setCell ⟨g, 0, none⟩ u0).setCell ⟨g, 1, none⟩ u1).setCell ⟨g, 2, none⟩ u2).setCell ⟨g, 3, none⟩ u3) :=
 ⟨none, 0, none, 0, by simp [limbs_zero], mgN_nil0 _ _, mgN_nil0 _ _, (fin_fr (X := none) (c := 0) (xs := []) (Y := none) (d := 0) (ys := []) (mg_nil' _) (mg_nil' _) hb hg k0 k1 k2 k3 u0 u1 u2 u3).2.2⟩
theorem valid_int (x : Int) (h1 : -9223372036854775808 ≤ x) (h2 : x ≤ 9223372036854775807) : fits x := by
 have := (limbs_len_iff x.natAbs 2).2 (by omega)
 unfold fits; omega
theorem newR_int (x y : Int) (f1 : fits x) (f2 : fits y) : newR (decide (x < 0)) (limbs x.natAbs) (decide (y < 0)) (limbs y.natAbs) = newE x y := by
 unfold newR
 rw [validB_z f1, validB_z f2, if_pos (by rfl), val_limbs, val_limbs, sg_self, sg_self]
theorem sg_mulN (x : Int) (k : Nat) : sg (decide (x < 0)) (x.natAbs * k) = x * k := by
 unfold sg
 split
 ·rename_i h
  simp only [decide_eq_true_eq] at h
  rw [Int.natCast_mul, ← Int.neg_mul, show (-(x.natAbs : Int)) = x by omega]
 ·rename_i h
  simp only [decide_eq_true_eq] at h
  rw [Int.natCast_mul, show (x.natAbs : Int) = x by omega]
theorem sg_flip (b : Bool) (n : Nat) : sg (b != true) n = -(sg b n) := by cases b <;> simp [sg]
theorem Fz.sgn {f : Int × Nat} {b : Bool} {k l : Nat} {xs ys : List Nat} (h : Fz f b k xs l ys) (m : Nat) : sg b (f.1.natAbs * m) = f.1 * m := by rw [h.hb]; exact sg_mulN _ _
theorem add_len {n m a b : Nat} (h1 : (limbs n).length ≤ a) (h2 : (limbs m).length ≤ b) (c : Nat) (ha : a ≤ c) (hb : b ≤ c) : (limbs (n + m)).length ≤ c + 1 := by
 rw [limbs_len_iff, Nat.pow_succ]
 have h3 := (limbs_len_iff n c).1 (by omega)
 have h4 := (limbs_len_iff m c).1 (by omega)
 generalize (4294967296 : Nat) ^ c = P at *
 omega
theorem fin_i {w w1 : World} {g : Nat} {b0 : Bool} {A1 : Option Addr} {n1 c1 : Nat} {X : Option Addr} {c : Nat} {xs : List Nat} (hn : Mg w1 X c xs) (hb : Below w.heap.size w w1) (hg : w.heap.size ≤ g)
  (k0 : w1.cell? ⟨g, 0, none⟩ = some (.bool b0)) (k1 : w1.cell? ⟨g, 1, none⟩ = some (.slice A1 n1 c1)) (u0 u1 : Value) :
  Mg ((w1.setCell ⟨g, 0, none⟩ u0).setCell ⟨g, 1, none⟩ u1) X c xs ∧ Below w.heap.size w ((w1.setCell ⟨g, 0, none⟩ u0).setCell ⟨g, 1, none⟩ u1) :=
 ⟨(hn.set_ g 0 _ u0 k0 (by simp)).set_ g 1 _ u1 ((cell_set_ne (by omega)).trans k1) (by simp), below_set (below_set hb hg _ _) hg _ _⟩
theorem fin_in {B0 : Nat} {w w1 : World} {g : Nat} {b0 : Bool} {A1 : Option Addr} {n1 c1 : Nat} {X : Option Addr} {c : Nat} {xs : List Nat} (hn : MgN B0 w1 X c xs) (hb : Below w.heap.size w w1) (hg : w.heap.size ≤ g)
  (k0 : w1.cell? ⟨g, 0, none⟩ = some (.bool b0)) (k1 : w1.cell? ⟨g, 1, none⟩ = some (.slice A1 n1 c1)) (u0 u1 : Value) :
  MgN B0 ((w1.setCell ⟨g, 0, none⟩ u0).setCell ⟨g, 1, none⟩ u1) X c xs ∧ Below w.heap.size w ((w1.setCell ⟨g, 0, none⟩ u0).setCell ⟨g, 1, none⟩ u1) := by
 obtain ⟨j1, j2⟩ := fin_i hn.m hb hg k0 k1 u0 u1
 exact ⟨⟨j1, (hn.nw.set _ _).set _ _⟩, j2⟩
theorem GZ.of {w w' : World} {b : Bool} {k : Nat} {L : List Nat} {A : Option Addr} {c : Nat} (h : Mg w' A c L) (hb : Below w.heap.size w w') : GZ w b k L (.returned (.agg #[.bool b, .slice A k c])) w' := ⟨A, c, rfl, h, hb⟩
theorem GZE.r {w w' : World} {z err : Int} {b : Bool} {n : Nat} {L : List Nat} {e : Ending} (h : GZE w b n L err e w') (I : Iz z b n L) : RetZE w z err e w' := by
 obtain ⟨rfl, rfl, rfl⟩ := I; exact h
theorem iz_inj {x y : Int} {b b' : Bool} {n n' : Nat} {L L' : List Nat} (hx : Iz x b n L) (hy : Iz y b' n' L') : (b = b' ∧ val L = val L') ↔ x = y := by
 obtain ⟨rfl, rfl, rfl⟩ := hx
 obtain ⟨rfl, rfl, rfl⟩ := hy
 rw [val_limbs, val_limbs]
 constructor
 ·rintro ⟨h1, h2⟩
  have : (x < 0) ↔ (y < 0) := by simpa using h1
  omega
 ·rintro rfl; exact ⟨rfl, rfl⟩
theorem floor_sg {neg : Bool} {n d : Nat} (hd : d ≠ 0) : sg neg n / (d : Int) = sg neg (if neg = true ∧ 0 < n % d then n / d + 1 else n / d) := by
 have h1 := Nat.div_add_mod n d
 have h2 := Nat.mod_lt n (Nat.pos_of_ne_zero hd)
 cases neg
 ·simp only [Bool.false_eq_true, false_and, if_false]
  unfold sg
  simp only [Bool.false_eq_true, if_false]
  rw [Int.natCast_ediv]
 ·simp only [true_and]
  unfold sg
  simp only [if_true]
  generalize n / d = q at *
  generalize n % d = r at *
  subst h1
  split
  ·have e : (-((d * q + r : Nat) : Int)) = ((d : Int) - r) + d * (-((q : Int) + 1)) := by push_cast; rw [Int.mul_neg, Int.mul_add]; omega
   rw [e, Int.add_mul_ediv_left _ _ (by omega), Int.ediv_eq_zero_of_lt (by omega) (by omega)]
   push_cast
   omega
  ·have hr : r = 0 := by omega
   subst hr
   have e : (-((d * q + 0 : Nat) : Int)) = 0 + d * (-(q : Int)) := by push_cast; rw [Int.mul_neg]; omega
   rw [e, Int.add_mul_ediv_left _ _ (by omega)]
   simp
theorem dm_floor (x : Int) {d : Nat} (hd : d ≠ 0) : dmQ x d = x / d ∧ dmR x d = x % d := by
 have hy : decide ((d : Int) < 0) = false := by simp
 have hx := sg_self x
 have hf := floor_sg (neg := decide (x < 0)) (n := x.natAbs) hd
 rw [hx] at hf
 have hP : dmP x d ↔ (decide (x < 0) = true ∧ 0 < x.natAbs % d) := by
  unfold dmP
  rw [hy, Int.natAbs_natCast]
  constructor
  ·rintro ⟨h1, h2⟩; exact ⟨by simpa using h1, by omega⟩
  ·rintro ⟨h1, h2⟩; exact ⟨by rw [h1]; simp, by omega⟩
 have hQ : dmQ x d = x / d := by
  unfold dmQ
  rw [hf, Int.natAbs_natCast, hy]
  by_cases h : dmP x d
  ·rw [if_pos h, if_pos (hP.1 h), (hP.1 h).1]
  ·rw [if_neg h, if_neg (fun h' => h (hP.2 h'))]
   simp
 refine ⟨hQ, ?_⟩
 have hm := Int.emod_def x d
 rw [hm, hf]
 have h1 := Nat.div_add_mod x.natAbs d
 have h2 := Nat.mod_lt x.natAbs (Nat.pos_of_ne_zero hd)
 unfold dmR
 rw [hy, Int.natAbs_natCast]
 by_cases h : dmP x d
 ·rw [if_pos h, if_pos (hP.1 h)]
  have hn : x < 0 := by simpa using (hP.1 h).1
  rw [(hP.1 h).1]
  unfold sg
  simp only [Bool.false_eq_true, if_false, if_true]
  generalize x.natAbs / d = q at *
  generalize hr : x.natAbs % d = r at *
  have : x = -((d * q + r : Nat) : Int) := by rw [h1]; omega
  rw [this]
  push_cast
  rw [Int.natCast_sub (by omega), Int.mul_neg, Int.mul_add]
  omega
 ·rw [if_neg h, if_neg (fun h' => h (hP.2 h'))]
  by_cases hn : x < 0
  ·have hr0 : x.natAbs % d = 0 := by
    rcases Nat.eq_zero_or_pos (x.natAbs % d) with h3 | h3
    ·exact h3
    ·exact absurd (hP.2 ⟨by simpa using hn, h3⟩) h
   rw [hr0] at h1 ⊢
   rw [show decide (x < 0) = true by simpa using hn]
   unfold sg
   simp only [Bool.false_eq_true, if_false, if_true]
   generalize x.natAbs / d = q at *
   have : x = -((d * q + 0 : Nat) : Int) := by rw [h1]; omega
   rw [this]
   push_cast
   rw [Int.mul_neg]
   omega
  ·rw [show decide (x < 0) = false by simpa using hn]
   unfold sg
   simp only [Bool.false_eq_true, if_false]
   generalize x.natAbs / d = q at *
   generalize x.natAbs % d = r at *
   have : x = ((d * q + r : Nat) : Int) := by rw [h1]; omega
   rw [this]
   push_cast
   omega
end Go.Proofs.YtfdmlfpldgobjaaGreatDoor
