/- Worlds behind boxes that were just made, under a name of their own. Conditions: none. -/
import Derived.Test.YtdkgbkbbbldliaaGreatZBiC
import Derived.Test.YtdkgbkbbbldliaaGreatZYE
import Derived.Test.YtdkgbkbbbldliaaGreatZYM
import Derived.Test.YtdkgbkbbbldliaaGreatZYA
import Derived.Deep.RegionHeld3
import Derived.Test.YtdkgbkbbbldliaaGreatZBaA
import Derived.Test.YtdkgbkbbbldliaaGreatProg
set_option linter.unusedVariables false
set_option linter.unusedSimpArgs false
namespace Go.Proofs.YtdkgbkbbbldliaaGreat
open Go.RowKit Big
/-- block g is there, and may be written -/
structure Zn (w : World) (g : Nat) : Prop where
 lt : g < w.heap.size
 fr : ∀ i, w.frozen? ⟨g, i, none⟩ = false
theorem Zn.below {w w' : World} {g : Nat} (h : Zn w g) (hb : Below w.heap.size w w') : Zn w' g :=
 ⟨Nat.lt_of_lt_of_le h.lt hb.size, fun i => (hb.frozen (p := ⟨g, i, none⟩) h.lt).trans (h.fr i)⟩
theorem newF {W w' : World} {a b c d : Value} {t : TypeId} (h : Below (W.alloc (.cells #[a, b, c, d] t)).heap.size (W.alloc (.cells #[a, b, c, d] t)) w') :
  w'.cell? ⟨W.heap.size, 0, none⟩ = some a ∧ w'.cell? ⟨W.heap.size, 1, none⟩ = some b ∧ w'.cell? ⟨W.heap.size, 2, none⟩ = some c ∧ w'.cell? ⟨W.heap.size, 3, none⟩ = some d ∧ Zn w' W.heap.size := by
 obtain ⟨p, q, r⟩ := Ks h
 exact ⟨(p 0).trans rfl, (p 1).trans rfl, (p 2).trans rfl, (p 3).trans rfl, r, q⟩
theorem Qh {w : World} {a0_0 a0_1 : Value} {t0 : TypeId} {P : World → Prop}
  (H : ∀ u, Below w.heap.size w u → u.cell? ⟨w.heap.size, 0, none⟩ = some a0_0 → u.cell? ⟨w.heap.size, 1, none⟩ = some a0_1 → Zn u w.heap.size → Hid (u.heap.size = w.heap.size + 1) → P u) : P (w.alloc (.cells #[a0_0, a0_1] t0)) := by
 obtain ⟨p0, f0, l0⟩ := Ks (w := w) (w1 := (w.alloc (.cells #[a0_0, a0_1] t0))) (Below.refl _ _)
 exact H _ ((Below.refl _ _).alloc (by simp; try omega) _) (p0 0) (p0 1) ⟨by simp; try omega, f0⟩ (by unfold Hid; simp)
theorem enterF {w : World} {a0_0 a0_1 a0_2 a0_3 : Value} {t0 : TypeId} {P : World → Prop}
  (H : ∀ u, Below w.heap.size w u → u.cell? ⟨w.heap.size, 0, none⟩ = some a0_0 → u.cell? ⟨w.heap.size, 1, none⟩ = some a0_1 → u.cell? ⟨w.heap.size, 2, none⟩ = some a0_2 → u.cell? ⟨w.heap.size, 3, none⟩ = some a0_3 → Zn u w.heap.size → Hid (u.heap.size = w.heap.size + 1) → P u) : P (w.alloc (.cells #[a0_0, a0_1, a0_2, a0_3] t0)) := by
 obtain ⟨p0, f0, l0⟩ := Ks (w := w) (w1 := (w.alloc (.cells #[a0_0, a0_1, a0_2, a0_3] t0))) (Below.refl _ _)
 exact H _ ((Below.refl _ _).alloc (by simp; try omega) _) (p0 0) (p0 1) (p0 2) (p0 3) ⟨by simp; try omega, f0⟩ (by unfold Hid; simp)
theorem enterII {w : World} {a0_0 a0_1 a1_0 a1_1 : Value} {t0 t1 : TypeId} {P : World → Prop}
  (H : ∀ u, Below w.heap.size w u → u.cell? ⟨w.heap.size, 0, none⟩ = some a0_0 → u.cell? ⟨w.heap.size, 1, none⟩ = some a0_1 → u.cell? ⟨w.heap.size + 1, 0, none⟩ = some a1_0 → u.cell? ⟨w.heap.size + 1, 1, none⟩ = some a1_1 → Zn u w.heap.size → Zn u (w.heap.size + 1) → Hid (u.heap.size = w.heap.size + 1 + 1) → P u) : P ((w.alloc (.cells #[a0_0, a0_1] t0)).alloc (.cells #[a1_0, a1_1] t1)) := by
 obtain ⟨p0, f0, l0⟩ := Ks (w := w) (w1 := ((w.alloc (.cells #[a0_0, a0_1] t0)).alloc (.cells #[a1_0, a1_1] t1))) ((Below.refl _ _).alloc (by simp) _)
 obtain ⟨p1, f1, l1⟩ := Ks (w := (w.alloc (.cells #[a0_0, a0_1] t0))) (w1 := ((w.alloc (.cells #[a0_0, a0_1] t0)).alloc (.cells #[a1_0, a1_1] t1))) (Below.refl _ _)
 simp only [World.size_alloc] at p1 f1
 exact H _ (((Below.refl _ _).alloc (by simp; try omega) _).alloc (by simp; try omega) _) (p0 0) (p0 1) (p1 0) (p1 1) ⟨by simp; try omega, f0⟩ ⟨by simp; try omega, f1⟩ (by unfold Hid; simp)
theorem enterFF {w : World} {a0_0 a0_1 a0_2 a0_3 a1_0 a1_1 a1_2 a1_3 : Value} {t0 t1 : TypeId} {P : World → Prop}
  (H : ∀ u, Below w.heap.size w u → u.cell? ⟨w.heap.size, 0, none⟩ = some a0_0 → u.cell? ⟨w.heap.size, 1, none⟩ = some a0_1 → u.cell? ⟨w.heap.size, 2, none⟩ = some a0_2 → u.cell? ⟨w.heap.size, 3, none⟩ = some a0_3 → u.cell? ⟨w.heap.size + 1, 0, none⟩ = some a1_0 → u.cell? ⟨w.heap.size + 1, 1, none⟩ = some a1_1 → u.cell? ⟨w.heap.size + 1, 2, none⟩ = some a1_2 → u.cell? ⟨w.heap.size + 1, 3, none⟩ = some a1_3 → Zn u w.heap.size → Zn u (w.heap.size + 1) → Hid (u.heap.size = w.heap.size + 1 + 1) → P u) : P ((w.alloc (.cells #[a0_0, a0_1, a0_2, a0_3] t0)).alloc (.cells #[a1_0, a1_1, a1_2, a1_3] t1)) := by
 obtain ⟨p0, f0, l0⟩ := Ks (w := w) (w1 := ((w.alloc (.cells #[a0_0, a0_1, a0_2, a0_3] t0)).alloc (.cells #[a1_0, a1_1, a1_2, a1_3] t1))) ((Below.refl _ _).alloc (by simp) _)
 obtain ⟨p1, f1, l1⟩ := Ks (w := (w.alloc (.cells #[a0_0, a0_1, a0_2, a0_3] t0))) (w1 := ((w.alloc (.cells #[a0_0, a0_1, a0_2, a0_3] t0)).alloc (.cells #[a1_0, a1_1, a1_2, a1_3] t1))) (Below.refl _ _)
 simp only [World.size_alloc] at p1 f1
 exact H _ (((Below.refl _ _).alloc (by simp; try omega) _).alloc (by simp; try omega) _) (p0 0) (p0 1) (p0 2) (p0 3) (p1 0) (p1 1) (p1 2) (p1 3) ⟨by simp; try omega, f0⟩ ⟨by simp; try omega, f1⟩ (by unfold Hid; simp)
theorem Qz {w : World} {a0_0 a0_1 a1_0 a1_1 a2_0 a2_1 : Value} {t0 t1 t2 : TypeId} {P : World → Prop}
  (H : ∀ u, Below w.heap.size w u → u.cell? ⟨w.heap.size, 0, none⟩ = some a0_0 → u.cell? ⟨w.heap.size, 1, none⟩ = some a0_1 → u.cell? ⟨w.heap.size + 1, 0, none⟩ = some a1_0 → u.cell? ⟨w.heap.size + 1, 1, none⟩ = some a1_1 → u.cell? ⟨w.heap.size + 1 + 1, 0, none⟩ = some a2_0 → u.cell? ⟨w.heap.size + 1 + 1, 1, none⟩ = some a2_1 → Zn u w.heap.size → Zn u (w.heap.size + 1) → Zn u (w.heap.size + 1 + 1) → Hid (u.heap.size = w.heap.size + 1 + 1 + 1) → P u) : P (((w.alloc (.cells #[a0_0, a0_1] t0)).alloc (.cells #[a1_0, a1_1] t1)).alloc (.cells #[a2_0, a2_1] t2)) := by
 obtain ⟨p0, f0, l0⟩ := Ks (w := w) (w1 := (((w.alloc (.cells #[a0_0, a0_1] t0)).alloc (.cells #[a1_0, a1_1] t1)).alloc (.cells #[a2_0, a2_1] t2))) (((Below.refl _ _).alloc (by simp) _).alloc (by simp) _)
 obtain ⟨p1, f1, l1⟩ := Ks (w := (w.alloc (.cells #[a0_0, a0_1] t0))) (w1 := (((w.alloc (.cells #[a0_0, a0_1] t0)).alloc (.cells #[a1_0, a1_1] t1)).alloc (.cells #[a2_0, a2_1] t2))) ((Below.refl _ _).alloc (by simp) _)
 simp only [World.size_alloc] at p1 f1
 obtain ⟨p2, f2, l2⟩ := Ks (w := ((w.alloc (.cells #[a0_0, a0_1] t0)).alloc (.cells #[a1_0, a1_1] t1))) (w1 := (((w.alloc (.cells #[a0_0, a0_1] t0)).alloc (.cells #[a1_0, a1_1] t1)).alloc (.cells #[a2_0, a2_1] t2))) (Below.refl _ _)
 simp only [World.size_alloc] at p2 f2
 exact H _ ((((Below.refl _ _).alloc (by simp; try omega) _).alloc (by simp; try omega) _).alloc (by simp; try omega) _) (p0 0) (p0 1) (p1 0) (p1 1) (p2 0) (p2 1) ⟨by simp; try omega, f0⟩ ⟨by simp; try omega, f1⟩ ⟨by simp; try omega, f2⟩ (by unfold Hid; simp)
theorem Xw {w : World} {a0_0 a0_1 a1_0 a1_1 a2_0 a2_1 a2_2 a2_3 : Value} {t0 t1 t2 : TypeId} {P : World → Prop}
  (H : ∀ u, Below w.heap.size w u → u.cell? ⟨w.heap.size, 0, none⟩ = some a0_0 → u.cell? ⟨w.heap.size, 1, none⟩ = some a0_1 → u.cell? ⟨w.heap.size + 1, 0, none⟩ = some a1_0 → u.cell? ⟨w.heap.size + 1, 1, none⟩ = some a1_1 → u.cell? ⟨w.heap.size + 1 + 1, 0, none⟩ = some a2_0 → u.cell? ⟨w.heap.size + 1 + 1, 1, none⟩ = some a2_1 → u.cell? ⟨w.heap.size + 1 + 1, 2, none⟩ = some a2_2 → u.cell? ⟨w.heap.size + 1 + 1, 3, none⟩ = some a2_3 → Zn u w.heap.size → Zn u (w.heap.size + 1) → Zn u (w.heap.size + 1 + 1) → Hid (u.heap.size = w.heap.size + 1 + 1 + 1) → P u) : P (((w.alloc (.cells #[a0_0, a0_1] t0)).alloc (.cells #[a1_0, a1_1] t1)).alloc (.cells #[a2_0, a2_1, a2_2, a2_3] t2)) := by
 obtain ⟨p0, f0, l0⟩ := Ks (w := w) (w1 := (((w.alloc (.cells #[a0_0, a0_1] t0)).alloc (.cells #[a1_0, a1_1] t1)).alloc (.cells #[a2_0, a2_1, a2_2, a2_3] t2))) (((Below.refl _ _).alloc (by simp) _).alloc (by simp) _)
 obtain ⟨p1, f1, l1⟩ := Ks (w := (w.alloc (.cells #[a0_0, a0_1] t0))) (w1 := (((w.alloc (.cells #[a0_0, a0_1] t0)).alloc (.cells #[a1_0, a1_1] t1)).alloc (.cells #[a2_0, a2_1, a2_2, a2_3] t2))) ((Below.refl _ _).alloc (by simp) _)
 simp only [World.size_alloc] at p1 f1
 obtain ⟨p2, f2, l2⟩ := Ks (w := ((w.alloc (.cells #[a0_0, a0_1] t0)).alloc (.cells #[a1_0, a1_1] t1))) (w1 := (((w.alloc (.cells #[a0_0, a0_1] t0)).alloc (.cells #[a1_0, a1_1] t1)).alloc (.cells #[a2_0, a2_1, a2_2, a2_3] t2))) (Below.refl _ _)
 simp only [World.size_alloc] at p2 f2
 exact H _ ((((Below.refl _ _).alloc (by simp; try omega) _).alloc (by simp; try omega) _).alloc (by simp; try omega) _) (p0 0) (p0 1) (p1 0) (p1 1) (p2 0) (p2 1) (p2 2) (p2 3) ⟨by simp; try omega, f0⟩ ⟨by simp; try omega, f1⟩ ⟨by simp; try omega, f2⟩ (by unfold Hid; simp)
theorem enterFI {w : World} {a0_0 a0_1 a0_2 a0_3 a1_0 a1_1 : Value} {t0 t1 : TypeId} {P : World → Prop}
  (H : ∀ u, Below w.heap.size w u → u.cell? ⟨w.heap.size, 0, none⟩ = some a0_0 → u.cell? ⟨w.heap.size, 1, none⟩ = some a0_1 → u.cell? ⟨w.heap.size, 2, none⟩ = some a0_2 → u.cell? ⟨w.heap.size, 3, none⟩ = some a0_3 → u.cell? ⟨w.heap.size + 1, 0, none⟩ = some a1_0 → u.cell? ⟨w.heap.size + 1, 1, none⟩ = some a1_1 → Zn u w.heap.size → Zn u (w.heap.size + 1) → Hid (u.heap.size = w.heap.size + 1 + 1) → P u) : P ((w.alloc (.cells #[a0_0, a0_1, a0_2, a0_3] t0)).alloc (.cells #[a1_0, a1_1] t1)) := by
 obtain ⟨p0, f0, l0⟩ := Ks (w := w) (w1 := ((w.alloc (.cells #[a0_0, a0_1, a0_2, a0_3] t0)).alloc (.cells #[a1_0, a1_1] t1))) ((Below.refl _ _).alloc (by simp) _)
 obtain ⟨p1, f1, l1⟩ := Ks (w := (w.alloc (.cells #[a0_0, a0_1, a0_2, a0_3] t0))) (w1 := ((w.alloc (.cells #[a0_0, a0_1, a0_2, a0_3] t0)).alloc (.cells #[a1_0, a1_1] t1))) (Below.refl _ _)
 simp only [World.size_alloc] at p1 f1
 exact H _ (((Below.refl _ _).alloc (by simp; try omega) _).alloc (by simp; try omega) _) (p0 0) (p0 1) (p0 2) (p0 3) (p1 0) (p1 1) ⟨by simp; try omega, f0⟩ ⟨by simp; try omega, f1⟩ (by unfold Hid; simp)
theorem Hm {w : World} {a0_0 a0_1 a1_0 a1_1 a1_2 a1_3 : Value} {t0 t1 : TypeId} {P : World → Prop}
  (H : ∀ u, Below w.heap.size w u → u.cell? ⟨w.heap.size, 0, none⟩ = some a0_0 → u.cell? ⟨w.heap.size, 1, none⟩ = some a0_1 → u.cell? ⟨w.heap.size + 1, 0, none⟩ = some a1_0 → u.cell? ⟨w.heap.size + 1, 1, none⟩ = some a1_1 → u.cell? ⟨w.heap.size + 1, 2, none⟩ = some a1_2 → u.cell? ⟨w.heap.size + 1, 3, none⟩ = some a1_3 → Zn u w.heap.size → Zn u (w.heap.size + 1) → Hid (u.heap.size = w.heap.size + 1 + 1) → P u) : P ((w.alloc (.cells #[a0_0, a0_1] t0)).alloc (.cells #[a1_0, a1_1, a1_2, a1_3] t1)) := by
 obtain ⟨p0, f0, l0⟩ := Ks (w := w) (w1 := ((w.alloc (.cells #[a0_0, a0_1] t0)).alloc (.cells #[a1_0, a1_1, a1_2, a1_3] t1))) ((Below.refl _ _).alloc (by simp) _)
 obtain ⟨p1, f1, l1⟩ := Ks (w := (w.alloc (.cells #[a0_0, a0_1] t0))) (w1 := ((w.alloc (.cells #[a0_0, a0_1] t0)).alloc (.cells #[a1_0, a1_1, a1_2, a1_3] t1))) (Below.refl _ _)
 simp only [World.size_alloc] at p1 f1
 exact H _ (((Below.refl _ _).alloc (by simp; try omega) _).alloc (by simp; try omega) _) (p0 0) (p0 1) (p1 0) (p1 1) (p1 2) (p1 3) ⟨by simp; try omega, f0⟩ ⟨by simp; try omega, f1⟩ (by unfold Hid; simp)
/-- n's number of limbs and limbs -/
structure Lz (n : Nat) (k : Nat) (L : List Nat) : Prop where
 hL : L = limbs n
 hk : k = L.length
theorem lz (n : Nat) : ∃ k L, Hid (Lz n k L) := ⟨_, _, rfl, rfl⟩
def GN (w : World) (k : Nat) (L : List Nat) (e : Ending) (w' : World) : Prop := ∃ A c, e = .returned (.slice A k c) ∧ Mg w' A c L ∧ Below w.heap.size w w'
def GNN (w : World) (k : Nat) (L : List Nat) (k' : Nat) (L' : List Nat) (e : Ending) (w' : World) : Prop := ∃ A c B d, e = .returned (.tuple #[.slice A k c, .slice B k' d]) ∧ Mg w' A c L ∧ Mg w' B d L' ∧ Below w.heap.size w w'
/-- a fraction's sign, numbers of limbs and limbs -/
structure Fz (f : Int × Nat) (b : Bool) (k : Nat) (xs : List Nat) (l : Nat) (ys : List Nat) : Prop where
 hb : b = decide (f.1 < 0)
 hx : xs = limbs f.1.natAbs
 hk : k = xs.length
 hy : ys = limbs f.2
 hl : l = ys.length
theorem fz (f : Int × Nat) : ∃ b k xs l ys, Hid (Fz f b k xs l ys) := ⟨_, _, _, _, _, rfl, rfl, rfl, rfl, rfl⟩
theorem Fz.num {f : Int × Nat} {b : Bool} {k l : Nat} {xs ys : List Nat} (h : Fz f b k xs l ys) : Iz f.1 b k xs := ⟨h.hb, h.hx, h.hk⟩
theorem Fz.den {f : Int × Nat} {b : Bool} {k l : Nat} {xs ys : List Nat} (h : Fz f b k xs l ys) : Iz (f.2 : Int) false l ys := ⟨by simp, by rw [Int.natAbs_natCast]; exact h.hy, h.hl⟩
theorem Fz.n {f : Int × Nat} {b : Bool} {k l : Nat} {xs ys : List Nat} (h : Fz f b k xs l ys) : Lz f.1.natAbs k xs := ⟨h.hx, h.hk⟩
theorem Fz.d {f : Int × Nat} {b : Bool} {k l : Nat} {xs ys : List Nat} (h : Fz f b k xs l ys) : Lz f.2 l ys := ⟨h.hy, h.hl⟩
def GF (w : World) (b : Bool) (k : Nat) (xs : List Nat) (l : Nat) (ys : List Nat) (err : Int) (e : Ending) (w' : World) : Prop :=
 ∃ A c B d, e = .returned (.tuple #[.agg #[.bool b, .slice A k c, .bool false, .slice B l d], .int .i64 err]) ∧ Mg w' A c xs ∧ Mg w' B d ys ∧ Below w.heap.size w w'
/-- the fraction q.1 with the error q.2 -/
def Yd (w : World) (q : (Int × Nat) × Int) (e : Ending) (w' : World) : Prop :=
 ∃ A c B d, e = .returned (.tuple #[.agg #[.bool (decide (q.1.1 < 0)), .slice A (limbs q.1.1.natAbs).length c, .bool false, .slice B (limbs q.1.2).length d], .int .i64 q.2]) ∧ Mg w' A c (limbs q.1.1.natAbs) ∧ Mg w' B d (limbs q.1.2) ∧ Below w.heap.size w w'
theorem Yd.g {w w' : World} {q : (Int × Nat) × Int} {b : Bool} {k l : Nat} {xs ys : List Nat} {e : Ending} (h : Yd w q e w') (I : Fz q.1 b k xs l ys) : GF w b k xs l ys q.2 e w' := by
 obtain ⟨rfl, rfl, rfl, rfl, rfl⟩ := I; exact h
theorem retFE_zero {w w' : World} (err : Int) (hb : Below w.heap.size w w') : Yd w ((0, 0), err) (.returned (.tuple #[.agg #[.bool false, .slice none 0 0, .bool false, .slice none 0 0], .int .i64 err])) w' :=
 ⟨none, 0, none, 0, by simp [Ko], by simpa using Yi w', by simpa using Yi w', hb⟩
/-- four fields stored into a result's box: everything else stays -/
theorem Zc {w w1 : World} {g : Nat} {b0 b2 : Bool} {A1 B1 : Option Addr} {n1 c1 m1 d1 : Nat} {X Y : Option Addr} {c d : Nat} {xs ys : List Nat} (hn : Mg w1 X c xs) (hd : Mg w1 Y d ys) (hb : Below w.heap.size w w1) (hg : w.heap.size ≤ g)
  (k0 : w1.cell? ⟨g, 0, none⟩ = some (.bool b0)) (k1 : w1.cell? ⟨g, 1, none⟩ = some (.slice A1 n1 c1)) (k2 : w1.cell? ⟨g, 2, none⟩ = some (.bool b2)) (k3 : w1.cell? ⟨g, 3, none⟩ = some (.slice B1 m1 d1)) (u0 u1 u2 u3 : Value) :
  Mg ((((w1.setCell ⟨g, 0, none⟩ u0).setCell ⟨g, 1, none⟩ u1).setCell ⟨g, 2, none⟩ u2).setCell ⟨g, 3, none⟩ u3) X c xs ∧ Mg ((((w1.setCell ⟨g, 0, none⟩ u0).setCell ⟨g, 1, none⟩ u1).setCell ⟨g, 2, none⟩ u2).setCell ⟨g, 3, none⟩ u3) Y d ys ∧ Below w.heap.size w ((((w1.setCell ⟨g, 0, none⟩ u0).setCell ⟨g, 1, none⟩ u1).setCell ⟨g, 2, none⟩ u2).setCell ⟨g, 3, none⟩ u3) := by
 have m : ∀ {A' c' xs}, Mg w1 A' c' xs → Mg ((((w1.setCell ⟨g, 0, none⟩ u0).setCell ⟨g, 1, none⟩ u1).setCell ⟨g, 2, none⟩ u2).setCell ⟨g, 3, none⟩ u3) A' c' xs := fun h =>
  (((h.set_ g 0 _ u0 k0 (by simp)).set_ g 1 _ u1 ((K0 (by omega)).trans k1) (by simp)).set_ g 2 _ u2 ((K0 (by omega)).trans ((K0 (by omega)).trans k2)) (by simp)).set_ g 3 _ u3 ((K0 (by omega)).trans ((K0 (by omega)).trans ((K0 (by omega)).trans k3))) (by simp)
 exact ⟨m hn, m hd, Kg (Kg (Kg (Kg hb hg _ _) hg _ _) hg _ _) hg _ _⟩
theorem Lz.le {n k m : Nat} {L : List Nat} (h : Lz n k L) (hm : (limbs n).length ≤ m) : k ≤ m := by obtain ⟨rfl, rfl⟩ := h; exact hm
theorem Lz.len {n k : Nat} {L : List Nat} (h : Lz n k L) : (limbs n).length = k := by obtain ⟨rfl, rfl⟩ := h; rfl
theorem Lz.mono {n m k l : Nat} {L L' : List Nat} (h : Lz n k L) (h' : Lz m l L') (hm : n ≤ m) : k ≤ l := by obtain ⟨rfl, rfl⟩ := h; obtain ⟨rfl, rfl⟩ := h'; exact Kv hm
theorem Lz.zero {n k : Nat} {L : List Nat} (h : Lz n k L) : k = 0 ↔ n = 0 := by obtain ⟨rfl, rfl⟩ := h; rw [List.length_eq_zero_iff, Jp]
theorem Yl (w : World) : Mg w none 0 [] := by simpa [Ko] using Yi w
theorem limbs_len2' {n q k : Nat} (hq : q ≤ 1) (h : (limbs n).length ≤ k) : (limbs (2 * n + q)).length ≤ k + 1 := by
 have := Xj (n := n) (m := 2) (p := q) (by omega) (by omega)
 rw [Nat.mul_comm n 2] at this
 omega
theorem GF.r {w w' : World} {p : Int × Nat} {err : Int} {b : Bool} {k l : Nat} {xs ys : List Nat} {e : Ending} (h : GF w b k xs l ys err e w') (I : Fz p b k xs l ys) : Yd w (p, err) e w' := by
 obtain ⟨rfl, rfl, rfl, rfl, rfl⟩ := I; exact h
theorem X8 {w w1 : World} {g : Nat} {b0 b2 : Bool} {A1 B1 : Option Addr} {n1 c1 m1 d1 : Nat} (err : Int) (hb : Below w.heap.size w w1) (hg : w.heap.size ≤ g)
  (k0 : w1.cell? ⟨g, 0, none⟩ = some (.bool b0)) (k1 : w1.cell? ⟨g, 1, none⟩ = some (.slice A1 n1 c1)) (k2 : w1.cell? ⟨g, 2, none⟩ = some (.bool b2)) (k3 : w1.cell? ⟨g, 3, none⟩ = some (.slice B1 m1 d1)) {u0 u1 u2 u3 : Value} :
  Yd w ((0, 0), err) (.returned (.tuple #[.agg #[.bool false, .slice none 0 0, .bool false, .slice none 0 0], .int .i64 err])) ((((w1.setCell ⟨g, 0, none⟩ u0).setCell ⟨g, 1, none⟩ u1).setCell ⟨g, 2, none⟩ u2).setCell ⟨g, 3, none⟩ u3) :=
 retFE_zero err (Zc (X := none) (c := 0) (xs := []) (Y := none) (d := 0) (ys := []) (Yl _) (Yl _) hb hg k0 k1 k2 k3 u0 u1 u2 u3).2.2
theorem Uy (x : Int) (h1 : -9223372036854775808 ≤ x) (h2 : x ≤ 9223372036854775807) : fits x := by
 have := (K1 x.natAbs 2).2 (by omega)
 unfold fits; omega
theorem Dv (x y : Int) (f1 : fits x) (f2 : fits y) : newR (decide (x < 0)) (limbs x.natAbs) (decide (y < 0)) (limbs y.natAbs) = newE x y := by
 unfold newR
 rw [Xu f1, Xu f2, if_pos (by rfl), Kl, Kl, Qa, Qa]
theorem Z1 {w w1 : World} {g : Nat} {b0 : Bool} {A1 : Option Addr} {n1 c1 : Nat} {X : Option Addr} {c : Nat} {xs : List Nat} (hn : Mg w1 X c xs) (hb : Below w.heap.size w w1) (hg : w.heap.size ≤ g)
  (k0 : w1.cell? ⟨g, 0, none⟩ = some (.bool b0)) (k1 : w1.cell? ⟨g, 1, none⟩ = some (.slice A1 n1 c1)) (u0 u1 : Value) :
  Mg ((w1.setCell ⟨g, 0, none⟩ u0).setCell ⟨g, 1, none⟩ u1) X c xs ∧ Below w.heap.size w ((w1.setCell ⟨g, 0, none⟩ u0).setCell ⟨g, 1, none⟩ u1) :=
 ⟨(hn.set_ g 0 _ u0 k0 (by simp)).set_ g 1 _ u1 ((K0 (by omega)).trans k1) (by simp), Kg (Kg hb hg _ _) hg _ _⟩
theorem GZ.of {w w' : World} {b : Bool} {k : Nat} {L : List Nat} {A : Option Addr} {c : Nat} (h : Mg w' A c L) (hb : Below w.heap.size w w') : GZ w b k L (.returned (.agg #[.bool b, .slice A k c])) w' := ⟨A, c, rfl, h, hb⟩
theorem GZE.r {w w' : World} {z err : Int} {b : Bool} {n : Nat} {L : List Nat} {e : Ending} (h : GZE w b n L err e w') (I : Iz z b n L) : X6 w z err e w' := by
 obtain ⟨rfl, rfl, rfl⟩ := I; exact h
theorem floor_sg {neg : Bool} {n d : Nat} (hd : d ≠ 0) : sg neg n / (d : Int) = sg neg (if neg = true ∧ 0 < n % d then n / d + 1 else n / d) := by
 have h1 := Nat.div_add_mod n d
 have h2 := Nat.mod_lt n (Nat.pos_of_ne_zero hd)
 cases neg
 ·simp only [Bool.false_eq_true, false_and, if_false]
  unfold sg
  simp only [Bool.false_eq_true, if_false]
  rw [Int.natCast_ediv]
 ·simp only [true_and]
  unfold sg
  simp only [if_true]
  generalize n / d = q at *
  generalize n % d = r at *
  subst h1
  split
  ·have e : (-((d * q + r : Nat) : Int)) = ((d : Int) - r) + d * (-((q : Int) + 1)) := by push_cast; rw [Int.mul_neg, Int.mul_add]; omega
   rw [e, Int.add_mul_ediv_left _ _ (by omega), Int.ediv_eq_zero_of_lt (by omega) (by omega)]
   push_cast
   omega
  ·have hr : r = 0 := by omega
   subst hr
   have e : (-((d * q + 0 : Nat) : Int)) = 0 + d * (-(q : Int)) := by push_cast; rw [Int.mul_neg]; omega
   rw [e, Int.add_mul_ediv_left _ _ (by omega)]
   simp
theorem dm_floor (x : Int) {d : Nat} (hd : d ≠ 0) : dmQ x d = x / d ∧ dmR x d = x % d := by
 have hy : decide ((d : Int) < 0) = false := by simp
 have hx := Qa x
 have hf := floor_sg (neg := decide (x < 0)) (n := x.natAbs) hd
 rw [hx] at hf
 have hP : dmP x d ↔ (decide (x < 0) = true ∧ 0 < x.natAbs % d) := by
  unfold dmP
  rw [hy, Int.natAbs_natCast]
  constructor
  ·rintro ⟨h1, h2⟩; exact ⟨by simpa using h1, by omega⟩
  ·rintro ⟨h1, h2⟩; exact ⟨by rw [h1]; simp, by omega⟩
 have hQ : dmQ x d = x / d := by
  unfold dmQ
  rw [hf, Int.natAbs_natCast, hy]
  by_cases h : dmP x d
  ·rw [if_pos h, if_pos (hP.1 h), (hP.1 h).1]
  ·rw [if_neg h, if_neg (fun h' => h (hP.2 h'))]
   simp
 refine ⟨hQ, ?_⟩
 have hm := Int.emod_def x d
 rw [hm, hf]
 have h1 := Nat.div_add_mod x.natAbs d
 have h2 := Nat.mod_lt x.natAbs (Nat.pos_of_ne_zero hd)
 unfold dmR
 rw [hy, Int.natAbs_natCast]
 by_cases h : dmP x d
 ·rw [if_pos h, if_pos (hP.1 h)]
  have hn : x < 0 := by simpa using (hP.1 h).1
  rw [(hP.1 h).1]
  unfold sg
  simp only [Bool.false_eq_true, if_false, if_true]
  generalize x.natAbs / d = q at *
  generalize hr : x.natAbs % d = r at *
  have : x = -((d * q + r : Nat) : Int) := by rw [h1]; omega
  rw [this]
  push_cast
  rw [Int.natCast_sub (by omega), Int.mul_neg, Int.mul_add]
  omega
 ·rw [if_neg h, if_neg (fun h' => h (hP.2 h'))]
  by_cases hn : x < 0
  ·have hr0 : x.natAbs % d = 0 := by
    rcases Nat.eq_zero_or_pos (x.natAbs % d) with h3 | h3
    ·exact h3
    ·exact absurd (hP.2 ⟨by simpa using hn, h3⟩) h
   rw [hr0] at h1 ⊢
   rw [show decide (x < 0) = true by simpa using hn]
   unfold sg
   simp only [Bool.false_eq_true, if_false, if_true]
   generalize x.natAbs / d = q at *
   have : x = -((d * q + 0 : Nat) : Int) := by rw [h1]; omega
   rw [this]
   push_cast
   rw [Int.mul_neg]
   omega
  ·rw [show decide (x < 0) = false by simpa using hn]
   unfold sg
   simp only [Bool.false_eq_true, if_false]
   generalize x.natAbs / d = q at *
   generalize x.natAbs % d = r at *
   have : x = ((d * q + r : Nat) : Int) := by rw [h1]; omega
   rw [this]
   push_cast
   omega
theorem enterIIIII {w : World} {a0_0 a0_1 a1_0 a1_1 a2_0 a2_1 a3_0 a3_1 a4_0 a4_1 : Value} {t0 t1 t2 t3 t4 : TypeId} {P : World → Prop}
  (H : ∀ u, Below w.heap.size w u → u.cell? ⟨w.heap.size, 0, none⟩ = some a0_0 → u.cell? ⟨w.heap.size, 1, none⟩ = some a0_1 → u.cell? ⟨w.heap.size + 1, 0, none⟩ = some a1_0 → u.cell? ⟨w.heap.size + 1, 1, none⟩ = some a1_1 → u.cell? ⟨w.heap.size + 1 + 1, 0, none⟩ = some a2_0 → u.cell? ⟨w.heap.size + 1 + 1, 1, none⟩ = some a2_1 → u.cell? ⟨w.heap.size + 1 + 1 + 1, 0, none⟩ = some a3_0 → u.cell? ⟨w.heap.size + 1 + 1 + 1, 1, none⟩ = some a3_1 → u.cell? ⟨w.heap.size + 1 + 1 + 1 + 1, 0, none⟩ = some a4_0 → u.cell? ⟨w.heap.size + 1 + 1 + 1 + 1, 1, none⟩ = some a4_1 → Zn u w.heap.size → Zn u (w.heap.size + 1) → Zn u (w.heap.size + 1 + 1) → Zn u (w.heap.size + 1 + 1 + 1) → Zn u (w.heap.size + 1 + 1 + 1 + 1) → Hid (u.heap.size = w.heap.size + 1 + 1 + 1 + 1 + 1) → P u) : P (((((w.alloc (.cells #[a0_0, a0_1] t0)).alloc (.cells #[a1_0, a1_1] t1)).alloc (.cells #[a2_0, a2_1] t2)).alloc (.cells #[a3_0, a3_1] t3)).alloc (.cells #[a4_0, a4_1] t4)) := by
 obtain ⟨p0, f0, l0⟩ := Ks (w := w) (w1 := (((((w.alloc (.cells #[a0_0, a0_1] t0)).alloc (.cells #[a1_0, a1_1] t1)).alloc (.cells #[a2_0, a2_1] t2)).alloc (.cells #[a3_0, a3_1] t3)).alloc (.cells #[a4_0, a4_1] t4))) (((((Below.refl _ _).alloc (by simp) _).alloc (by simp) _).alloc (by simp) _).alloc (by simp) _)
 obtain ⟨p1, f1, l1⟩ := Ks (w := (w.alloc (.cells #[a0_0, a0_1] t0))) (w1 := (((((w.alloc (.cells #[a0_0, a0_1] t0)).alloc (.cells #[a1_0, a1_1] t1)).alloc (.cells #[a2_0, a2_1] t2)).alloc (.cells #[a3_0, a3_1] t3)).alloc (.cells #[a4_0, a4_1] t4))) ((((Below.refl _ _).alloc (by simp) _).alloc (by simp) _).alloc (by simp) _)
 simp only [World.size_alloc] at p1 f1
 obtain ⟨p2, f2, l2⟩ := Ks (w := ((w.alloc (.cells #[a0_0, a0_1] t0)).alloc (.cells #[a1_0, a1_1] t1))) (w1 := (((((w.alloc (.cells #[a0_0, a0_1] t0)).alloc (.cells #[a1_0, a1_1] t1)).alloc (.cells #[a2_0, a2_1] t2)).alloc (.cells #[a3_0, a3_1] t3)).alloc (.cells #[a4_0, a4_1] t4))) (((Below.refl _ _).alloc (by simp) _).alloc (by simp) _)
 simp only [World.size_alloc] at p2 f2
 obtain ⟨p3, f3, l3⟩ := Ks (w := (((w.alloc (.cells #[a0_0, a0_1] t0)).alloc (.cells #[a1_0, a1_1] t1)).alloc (.cells #[a2_0, a2_1] t2))) (w1 := (((((w.alloc (.cells #[a0_0, a0_1] t0)).alloc (.cells #[a1_0, a1_1] t1)).alloc (.cells #[a2_0, a2_1] t2)).alloc (.cells #[a3_0, a3_1] t3)).alloc (.cells #[a4_0, a4_1] t4))) ((Below.refl _ _).alloc (by simp) _)
 simp only [World.size_alloc] at p3 f3
 obtain ⟨p4, f4, l4⟩ := Ks (w := ((((w.alloc (.cells #[a0_0, a0_1] t0)).alloc (.cells #[a1_0, a1_1] t1)).alloc (.cells #[a2_0, a2_1] t2)).alloc (.cells #[a3_0, a3_1] t3))) (w1 := (((((w.alloc (.cells #[a0_0, a0_1] t0)).alloc (.cells #[a1_0, a1_1] t1)).alloc (.cells #[a2_0, a2_1] t2)).alloc (.cells #[a3_0, a3_1] t3)).alloc (.cells #[a4_0, a4_1] t4))) (Below.refl _ _)
 simp only [World.size_alloc] at p4 f4
 exact H _ ((((((Below.refl _ _).alloc (by simp; try omega) _).alloc (by simp; try omega) _).alloc (by simp; try omega) _).alloc (by simp; try omega) _).alloc (by simp; try omega) _) (p0 0) (p0 1) (p1 0) (p1 1) (p2 0) (p2 1) (p3 0) (p3 1) (p4 0) (p4 1) ⟨by simp; try omega, f0⟩ ⟨by simp; try omega, f1⟩ ⟨by simp; try omega, f2⟩ ⟨by simp; try omega, f3⟩ ⟨by simp; try omega, f4⟩ (by unfold Hid; simp)
section
variable {P : Program} {ops : Array Oper} {Q : Exit → Act → World → Prop} {md : Region.Mode} {S : World → Prop} {x : Nat}
/-- whatever order comes: behind each operation but number x the condition holds -/
def Ords (P : Program) (md : Region.Mode) (ops : Array Oper) (Q : Exit → Act → World → Prop) (S : World → Prop) (x : Nat) : Nat → Array Bool → Act → World → Prop
 | 0, d, a, w => Region.ready md ops d = [] ∧ Q .normal a w
 | n + 1, d, a, w => (Region.ready md ops d = [] → Q .normal a w) ∧ ∀ i ∈ Region.ready md ops d, wpOp P ops Q i (fun b v => (i ≠ x → S v) ∧ Ords P md ops Q S x n (d.setIfInBounds i true) b v) a w
theorem Ords.any : ∀ (n : Nat) (d : Array Bool) (a : Act) (w : World), Ords P md ops Q S x n d a w → wpAny P md ops Q n d a w
 | 0, _, _, _, h => h
 | n + 1, _, _, _, h => ⟨h.1, fun i hi => wpOp_mono (fun b v k => Ords.any n _ b v k.2) (h.2 i hi)⟩
/-- number x waits for number i -/
def Xe (md : Region.Mode) (ops : Array Oper) (x i : Nat) : Bool := match ops[x]? with
 | none => false
 | some o => o.after.any fun e => Region.binds md e && e.on == i
theorem Dw {d : Array Bool} {i j : Nat} (hw : Xe md ops x i = true) (hi : i ∈ Region.ready md ops d) (hj : j ∈ Region.ready md ops d) : j ≠ x := by
 rintro rfl
 unfold Xe at hw
 obtain ⟨_, o, ho, hall⟩ := mem_ready.1 hj
 rw [ho] at hw
 obtain ⟨e, he, hb⟩ := Array.any_eq_true'.1 hw
 simp only [Bool.and_eq_true, beq_iff_eq] at hb
 have h1 := hall e he hb.1
 have h0 := (mem_ready.1 hi).1
 rw [hb.2] at h1
 by_cases hs : i < d.size
 ·simp [hs] at h0 h1
  rw [h0] at h1
  cases h1
 ·simp [hs] at h1
theorem Ords.first {i : Nat} {o : Oper} {v : Value} (hi : ops[i]? = some o) (hns : Region.noSelect ops = true) (hw : Xe md ops x i = true)
  (hQ : ∀ c a w, Q (.panic c) (a.put o.dst v) w → Q (.panic c) a w) : ∀ (n : Nat) (d : Array Bool) (a : Act) (w : World),
   (∀ j oj, ops[j]? = some oj → j ≠ i → d.getD j true = false → (∀ e ∈ oj.after, Region.binds md e = true → e.on ≠ i) → o.apart ops oj = true) →
   i ∈ Region.ready md ops d → YieldsIf P ops S o v a → S w → Ords P md ops Q S x n (d.setIfInBounds i true) (a.put o.dst v) w → Ords P md ops Q S x (n + 1) d a w := by
 have hsel := Region.noSelect_spec hns
 intro n
 induction n with
 | zero =>
  intro d a w _ hr hy hS H
  refine ⟨fun h => (by rw [h] at hr; cases hr), fun j hj => ?_⟩
  by_cases hji : j = i
  ·subst hji
   exact hy.wpOp hi hS ⟨fun _ => hS, H⟩
  ·have := ready_mono hj hji
   rw [H.1] at this
   cases this
 | succ n ih =>
  intro d a w hfree hr hy hS H
  refine ⟨fun h => (by rw [h] at hr; cases hr), fun j hj => ?_⟩
  by_cases hji : j = i
  ·subst hji
   exact hy.wpOp hi hS ⟨fun _ => hS, H⟩
  ·have hjx := Dw hw hr hj
   have h1 := H.2 j (ready_mono hj hji)
   obtain ⟨hun, oj, hoj, hall⟩ := mem_ready.1 hj
   have hno : ∀ e ∈ oj.after, Region.binds md e = true → e.on ≠ i := fun e he hb heq => by
    have h1 := hall e he hb
    have h0 := (mem_ready.1 hr).1
    rw [heq] at h1
    by_cases hs : i < d.size
    ·simp [hs] at h0 h1
     rw [h0] at h1
     cases h1
    ·simp [hs] at h1
   have h2 := wpOp_putIf hoj (hfree j oj hoj hji hun hno) (fun cs b => hsel i o cs b hi) (fun cs b => hsel j oj cs b hoj) hQ hy h1
   have hfree' : ∀ k ok, ops[k]? = some ok → k ≠ i → (d.setIfInBounds j true).getD k true = false → (∀ e ∈ ok.after, Region.binds md e = true → e.on ≠ i) → o.apart ops ok = true := fun k ok hk hki hu hn => by
    refine hfree k ok hk hki ?_ hn
    by_cases hjk : j = k
    ·subst hjk; exact hun
    ·rwa [getD_set_ne true hjk] at hu
   refine wpOp_mono (fun b u h3 => ⟨fun _ => h3.2.1 hjx, ih _ b u hfree' (ready_mono hr (Ne.symm hji)) h3.1 (h3.2.1 hjx) ?_⟩) h2
   rw [Array.setIfInBounds_comm _ _ hji]
   exact h3.2.2
theorem Ords.take {i : Nat} {o : Oper} {v : Value} {n : Nat} {d : Array Bool} {a : Act} {w : World} (hi : ops[i]? = some o) (hs : Region.noSelect ops = true) (hf : Region.free md ops d i = true)
  (hr : (Region.ready md ops d).contains i = true) (hw : Xe md ops x i = true) (hQ : ∀ c a w, Q (.panic c) (a.put o.dst v) w → Q (.panic c) a w) (hy : YieldsIf P ops S o v a) (hS : S w)
  (h : Ords P md ops Q S x n (d.setIfInBounds i true) (a.put o.dst v) w) : Ords P md ops Q S x (n + 1) d a w :=
 Ords.first hi hs hw hQ n d a w (Region.free_spec hi hf) (by simpa using hr) hy hS h
/-- number i alone may come -/
theorem Ords.step {i : Nat} {o : Oper} {n : Nat} {d : Array Bool} {a : Act} {w : World} (hr : Region.ready md ops d = [i]) (ho : ops[i]? = some o)
  (h : ∀ K : Act → World → Prop, Shut (∀ b v, (S v) → (S v → Ords P md ops Q S x n (d.setIfInBounds i true) b v) → K b v) → if Region.wanted o (yielded ops a.tmps) = true then Oper.wp P o a w K Q else K (a.put o.dst undef) w) :
  Ords P md ops Q S x (n + 1) d a w := by
 refine ⟨fun h0 => (by rw [hr] at h0; cases h0), fun j hj => ?_⟩
 rw [hr] at hj
 obtain rfl : j = i := by simpa using hj
 exact wpOp_step ho fun K hK => h K fun b v hS hW => hK b v ⟨fun _ => hS, hW hS⟩
/-- number x, the last one -/
theorem Ords.last {o : Oper} {n : Nat} {d : Array Bool} {a : Act} {w : World} (hr : Region.ready md ops d = [x]) (ho : ops[x]? = some o) (hd : Region.ready md ops (d.setIfInBounds x true) = [])
  (h : ∀ K : Act → World → Prop, Shut (∀ b v, Q .normal b v → K b v) → if Region.wanted o (yielded ops a.tmps) = true then Oper.wp P o a w K Q else K (a.put o.dst undef) w) :
  Ords P md ops Q S x (n + 1) d a w := by
 refine ⟨fun h0 => (by rw [hr] at h0; cases h0), fun j hj => ?_⟩
 rw [hr] at hj
 obtain rfl : j = x := by simpa using hj
 refine wpOp_step ho fun K hK => h K fun b v hq => hK b v ⟨fun h => absurd rfl h, ?_⟩
 cases n with
 | zero => exact ⟨hd, hq⟩
 | succ n => exact ⟨fun _ => hq, by rw [hd]; simp⟩
/-- the beginning -/
theorem Ords.start {id : Nat} {a : Act} {w : World} (hm : P.follows .mixedOrders = true) (hS : S w.drew)
  (h : S w.drew → Ords P .any ops Q S x ops.size (Array.replicate ops.size false) a w.drew) : (Code.region id ops true).wp P Q a w :=
 wp_region_any hm (Ords.any _ _ _ _ (h hS))
end
end Go.Proofs.YtdkgbkbbbldliaaGreat
/- Steps through a region that draws its order, in few words. Conditions: none. -/
namespace Go.Proofs.YtdkgbkbbbldliaaGreat
open Go.RowKit
section
variable {P : Program} {L : List Oper} {Q : Exit → Act → World → Prop} {md : Region.Mode} {S : World → Prop}
theorem tk {i : Nat} {oi : Oper} {v : Value} {fuel : Nat} {ls : Array Bool} {a : Act} {w : World} (hi : L[i]? = some oi)
  (hB : (Region.noSelect L.toArray && (Region.free md L.toArray ls i && (Region.ready md L.toArray ls).contains i)) = true)
  (hy : YieldsIf P L.toArray S oi v a) (hS : S w) (hQ : ∀ c a w, Q (.panic c) (a.put oi.dst v) w → Q (.panic c) a w)
  (h : wpAnyH P md L.toArray Q S fuel (ls.setIfInBounds i true) (a.put oi.dst v) w) : wpAnyH P md L.toArray Q S (fuel + 1) ls a w := by
 simp only [Bool.and_eq_true] at hB
 exact wpAnyH_take (by simpa using hi) hB.1 hB.2.1 hB.2.2 hQ hy hS h
theorem br1 {i : Nat} {o : Oper} {fuel : Nat} {ls : Array Bool} {a : Act} {w : World} (hr : Region.ready md L.toArray ls = [i]) (ho : L[i]? = some o)
  (h : ∀ K' : Act → World → Prop, Shut (∀ a w, S w → (S w → wpAnyH P md L.toArray Q S fuel (ls.setIfInBounds i true) a w) → K' a w) → if Region.wanted o (yielded L.toArray a.tmps) = true then Oper.wp P o a w K' Q else K' (a.put o.dst undef) w) : wpAnyH P md L.toArray Q S (fuel + 1) ls a w :=
 wpAnyH_ready hr (by simp) (AllReadyH.cons (by simpa using ho) h AllReadyH.nil)
theorem br2 {i j : Nat} {o p : Oper} {fuel : Nat} {ls : Array Bool} {a : Act} {w : World} (hr : Region.ready md L.toArray ls = [i, j]) (ho : L[i]? = some o) (hp : L[j]? = some p)
  (h : ∀ K' : Act → World → Prop, Shut (∀ a w, S w → (S w → wpAnyH P md L.toArray Q S fuel (ls.setIfInBounds i true) a w) → K' a w) → if Region.wanted o (yielded L.toArray a.tmps) = true then Oper.wp P o a w K' Q else K' (a.put o.dst undef) w)
  (h' : ∀ K' : Act → World → Prop, Shut (∀ a w, S w → (S w → wpAnyH P md L.toArray Q S fuel (ls.setIfInBounds j true) a w) → K' a w) → if Region.wanted p (yielded L.toArray a.tmps) = true then Oper.wp P p a w K' Q else K' (a.put p.dst undef) w) : wpAnyH P md L.toArray Q S (fuel + 1) ls a w :=
 wpAnyH_ready hr (by simp) (AllReadyH.cons (by simpa using ho) h (AllReadyH.cons (by simpa using hp) h' AllReadyH.nil))
theorem tkO {x : Nat} {i : Nat} {oi : Oper} {v : Value} {n : Nat} {d : Array Bool} {a : Act} {w : World} (hi : L[i]? = some oi)
  (hB : (Region.noSelect L.toArray && (Region.free md L.toArray d i && ((Region.ready md L.toArray d).contains i && Xe md L.toArray x i))) = true)
  (hy : YieldsIf P L.toArray S oi v a) (hS : S w) (hQ : ∀ c a w, Q (.panic c) (a.put oi.dst v) w → Q (.panic c) a w)
  (h : Ords P md L.toArray Q S x n (d.setIfInBounds i true) (a.put oi.dst v) w) : Ords P md L.toArray Q S x (n + 1) d a w := by
 simp only [Bool.and_eq_true] at hB
 exact Ords.take (by simpa using hi) hB.1 hB.2.1 hB.2.2.1 hB.2.2.2 hQ hy hS h
end
section
variable {P : Program} {L : List Oper} {Q : Exit → Act → World → Prop} {md : Region.Mode} {S : World → Prop}
theorem TKa (i : Nat) {oi : Oper} {v : Value} {fuel : Nat} {ls : Array Bool} {a a' : Act} {w : World} (h : wpAnyH P md L.toArray Q S fuel (ls.setIfInBounds i true) a' w)
  (hi : L[i]? = some oi := by rfl)
  (hB : (Region.noSelect L.toArray && (Region.free md L.toArray ls i && (Region.ready md L.toArray ls).contains i)) = true := by decide +kernel)
  (hy : YieldsIf P L.toArray S oi v a := by (refine Or.inl ⟨by rfl, ?_⟩; intro w_ hSw_; (try dsimp only at hSw_); go_simp; (try with_reducible rfl))) (hS : S w := by assumption)
  (hQ : ∀ c a w, Q (.panic c) (a.put oi.dst v) w → Q (.panic c) a w := by exact fun _ _ _ h => h)
  (ha : a.put oi.dst v = a' := by (first | (simp only [Act.put, Lp0, Lp1, Lp2] <;> rfl) | rfl)) : wpAnyH P md L.toArray Q S (fuel + 1) ls a w := by
 subst ha
 exact tk hi hB hy hS hQ h
theorem TKs (i : Nat) {oi : Oper} {fuel : Nat} {ls : Array Bool} {a a' : Act} {w : World} (h : wpAnyH P md L.toArray Q S fuel (ls.setIfInBounds i true) a' w)
  (hi : L[i]? = some oi := by rfl)
  (hB : (Region.noSelect L.toArray && (Region.free md L.toArray ls i && (Region.ready md L.toArray ls).contains i)) = true := by decide +kernel)
  (hy : YieldsIf P L.toArray S oi undef a := by exact Or.inr ⟨by rfl, rfl⟩) (hS : S w := by assumption)
  (hQ : ∀ c a w, Q (.panic c) (a.put oi.dst undef) w → Q (.panic c) a w := by exact fun _ _ _ h => h)
  (ha : a.put oi.dst undef = a' := by (first | (simp only [Act.put, Lp0, Lp1, Lp2] <;> rfl) | rfl)) : wpAnyH P md L.toArray Q S (fuel + 1) ls a w := by
 subst ha
 exact tk hi hB hy hS hQ h
theorem TKo {x : Nat} (i : Nat) {oi : Oper} {v : Value} {n : Nat} {d : Array Bool} {a a' : Act} {w : World} (h : Ords P md L.toArray Q S x n (d.setIfInBounds i true) a' w)
  (hi : L[i]? = some oi := by rfl)
  (hB : (Region.noSelect L.toArray && (Region.free md L.toArray d i && ((Region.ready md L.toArray d).contains i && Xe md L.toArray x i))) = true := by decide +kernel)
  (hy : YieldsIf P L.toArray S oi v a := by (refine Or.inl ⟨by rfl, ?_⟩; intro w_ hSw_; (try dsimp only at hSw_); go_simp; (try with_reducible rfl))) (hS : S w := by assumption)
  (hQ : ∀ c a w, Q (.panic c) (a.put oi.dst v) w → Q (.panic c) a w := by exact fun _ _ _ h => h)
  (ha : a.put oi.dst v = a' := by (first | (simp only [Act.put, Lp0, Lp1, Lp2] <;> rfl) | rfl)) : Ords P md L.toArray Q S x (n + 1) d a w := by
 subst ha
 exact tkO hi hB hy hS hQ h
theorem BRa (i : Nat) {o : Oper} {fuel : Nat} {ls : Array Bool} {a : Act} {w : World}
  (h : ∀ K' : Act → World → Prop, Shut (∀ a w, S w → (S w → wpAnyH P md L.toArray Q S fuel (ls.setIfInBounds i true) a w) → K' a w) → if Region.wanted o (yielded L.toArray a.tmps) = true then Oper.wp P o a w K' Q else K' (a.put o.dst undef) w)
  (hr : Region.ready md L.toArray ls = [i] := by decide +kernel) (ho : L[i]? = some o := by rfl) : wpAnyH P md L.toArray Q S (fuel + 1) ls a w := br1 hr ho h
end
theorem HKa {S : World → Prop} {X : Act → World → Prop} {K : Act → World → Prop} (hK : Shut (∀ a w, S w → (S w → X a w) → K a w)) {a a' : Act} {w : World} (hs : S w) (h : S w → X a' w)
  (ha : a = a' := by (first | (simp only [Act.put, Lp0, Lp1, Lp2] <;> rfl) | rfl)) : K a w := by
 subst ha
 exact hK.out _ _ hs h
end Go.Proofs.YtdkgbkbbbldliaaGreat
