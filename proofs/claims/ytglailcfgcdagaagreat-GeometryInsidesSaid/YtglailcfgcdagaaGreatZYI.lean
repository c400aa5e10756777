/- Worlds behind boxes that were just made, under a name of their own. Conditions: none. -/
import Derived.Test.YtglailcfgcdagaaGreatZBiC
import Derived.Test.YtglailcfgcdagaaGreatZYE
import Derived.Test.YtglailcfgcdagaaGreatZYM
import Derived.Test.YtglailcfgcdagaaGreatZYA
import Derived.Deep.RegionHeld3
import Derived.Test.YtglailcfgcdagaaGreatZBaA
import Derived.Test.YtglailcfgcdagaaGreatProg
set_option linter.unusedVariables false
set_option linter.unusedSimpArgs false
namespace Go.Proofs.YtglailcfgcdagaaGreat
open Go.RowKit Big
/-- block g is there, and may be written -/
structure Zn (w : World) (g : Nat) : Prop where
 lt : g < w.heap.size
 fr : ∀ i, w.frozen? ⟨g, i, none⟩ = false
theorem Zn.below {w w' : World} {g : Nat} (h : Zn w g) (hb : Below w.heap.size w w') : Zn w' g :=
 ⟨Nat.lt_of_lt_of_le h.lt hb.size, fun i => (hb.frozen (p := ⟨g, i, none⟩) h.lt).trans (h.fr i)⟩
theorem newF {W w' : World} {a b c d : Value} {t : TypeId} (h : Below (W.alloc (.cells #[a, b, c, d] t)).heap.size (W.alloc (.cells #[a, b, c, d] t)) w') :
  w'.cell? ⟨W.heap.size, 0, none⟩ = some a ∧ w'.cell? ⟨W.heap.size, 1, none⟩ = some b ∧ w'.cell? ⟨W.heap.size, 2, none⟩ = some c ∧ w'.cell? ⟨W.heap.size, 3, none⟩ = some d ∧ Zn w' W.heap.size := by
 obtain ⟨p, q, r⟩ := box_keep h
 exact ⟨(p 0).trans rfl, (p 1).trans rfl, (p 2).trans rfl, (p 3).trans rfl, r, q⟩
theorem enterF {w : World} {a0_0 a0_1 a0_2 a0_3 : Value} {t0 : TypeId} {P : World → Prop}
  (H : ∀ u, Below w.heap.size w u → u.cell? ⟨w.heap.size, 0, none⟩ = some a0_0 → u.cell? ⟨w.heap.size, 1, none⟩ = some a0_1 → u.cell? ⟨w.heap.size, 2, none⟩ = some a0_2 → u.cell? ⟨w.heap.size, 3, none⟩ = some a0_3 → Zn u w.heap.size → Hid (u.heap.size = w.heap.size + 1) → P u) : P (w.alloc (.cells #[a0_0, a0_1, a0_2, a0_3] t0)) := by
 obtain ⟨p0, f0, l0⟩ := box_keep (w := w) (w1 := (w.alloc (.cells #[a0_0, a0_1, a0_2, a0_3] t0))) (Below.refl _ _)
 exact H _ ((Below.refl _ _).alloc (by simp; try omega) _) (p0 0) (p0 1) (p0 2) (p0 3) ⟨by simp; try omega, f0⟩ (by unfold Hid; simp)
theorem enterII {w : World} {a0_0 a0_1 a1_0 a1_1 : Value} {t0 t1 : TypeId} {P : World → Prop}
  (H : ∀ u, Below w.heap.size w u → u.cell? ⟨w.heap.size, 0, none⟩ = some a0_0 → u.cell? ⟨w.heap.size, 1, none⟩ = some a0_1 → u.cell? ⟨w.heap.size + 1, 0, none⟩ = some a1_0 → u.cell? ⟨w.heap.size + 1, 1, none⟩ = some a1_1 → Zn u w.heap.size → Zn u (w.heap.size + 1) → Hid (u.heap.size = w.heap.size + 1 + 1) → P u) : P ((w.alloc (.cells #[a0_0, a0_1] t0)).alloc (.cells #[a1_0, a1_1] t1)) := by
 obtain ⟨p0, f0, l0⟩ := box_keep (w := w) (w1 := ((w.alloc (.cells #[a0_0, a0_1] t0)).alloc (.cells #[a1_0, a1_1] t1))) ((Below.refl _ _).alloc (by simp) _)
 obtain ⟨p1, f1, l1⟩ := box_keep (w := (w.alloc (.cells #[a0_0, a0_1] t0))) (w1 := ((w.alloc (.cells #[a0_0, a0_1] t0)).alloc (.cells #[a1_0, a1_1] t1))) (Below.refl _ _)
 simp only [World.size_alloc] at p1 f1
 exact H _ (((Below.refl _ _).alloc (by simp; try omega) _).alloc (by simp; try omega) _) (p0 0) (p0 1) (p1 0) (p1 1) ⟨by simp; try omega, f0⟩ ⟨by simp; try omega, f1⟩ (by unfold Hid; simp)
theorem enterFF {w : World} {a0_0 a0_1 a0_2 a0_3 a1_0 a1_1 a1_2 a1_3 : Value} {t0 t1 : TypeId} {P : World → Prop}
  (H : ∀ u, Below w.heap.size w u → u.cell? ⟨w.heap.size, 0, none⟩ = some a0_0 → u.cell? ⟨w.heap.size, 1, none⟩ = some a0_1 → u.cell? ⟨w.heap.size, 2, none⟩ = some a0_2 → u.cell? ⟨w.heap.size, 3, none⟩ = some a0_3 → u.cell? ⟨w.heap.size + 1, 0, none⟩ = some a1_0 → u.cell? ⟨w.heap.size + 1, 1, none⟩ = some a1_1 → u.cell? ⟨w.heap.size + 1, 2, none⟩ = some a1_2 → u.cell? ⟨w.heap.size + 1, 3, none⟩ = some a1_3 → Zn u w.heap.size → Zn u (w.heap.size + 1) → Hid (u.heap.size = w.heap.size + 1 + 1) → P u) : P ((w.alloc (.cells #[a0_0, a0_1, a0_2, a0_3] t0)).alloc (.cells #[a1_0, a1_1, a1_2, a1_3] t1)) := by
 obtain ⟨p0, f0, l0⟩ := box_keep (w := w) (w1 := ((w.alloc (.cells #[a0_0, a0_1, a0_2, a0_3] t0)).alloc (.cells #[a1_0, a1_1, a1_2, a1_3] t1))) ((Below.refl _ _).alloc (by simp) _)
 obtain ⟨p1, f1, l1⟩ := box_keep (w := (w.alloc (.cells #[a0_0, a0_1, a0_2, a0_3] t0))) (w1 := ((w.alloc (.cells #[a0_0, a0_1, a0_2, a0_3] t0)).alloc (.cells #[a1_0, a1_1, a1_2, a1_3] t1))) (Below.refl _ _)
 simp only [World.size_alloc] at p1 f1
 exact H _ (((Below.refl _ _).alloc (by simp; try omega) _).alloc (by simp; try omega) _) (p0 0) (p0 1) (p0 2) (p0 3) (p1 0) (p1 1) (p1 2) (p1 3) ⟨by simp; try omega, f0⟩ ⟨by simp; try omega, f1⟩ (by unfold Hid; simp)
theorem enterIIF {w : World} {a0_0 a0_1 a1_0 a1_1 a2_0 a2_1 a2_2 a2_3 : Value} {t0 t1 t2 : TypeId} {P : World → Prop}
  (H : ∀ u, Below w.heap.size w u → u.cell? ⟨w.heap.size, 0, none⟩ = some a0_0 → u.cell? ⟨w.heap.size, 1, none⟩ = some a0_1 → u.cell? ⟨w.heap.size + 1, 0, none⟩ = some a1_0 → u.cell? ⟨w.heap.size + 1, 1, none⟩ = some a1_1 → u.cell? ⟨w.heap.size + 1 + 1, 0, none⟩ = some a2_0 → u.cell? ⟨w.heap.size + 1 + 1, 1, none⟩ = some a2_1 → u.cell? ⟨w.heap.size + 1 + 1, 2, none⟩ = some a2_2 → u.cell? ⟨w.heap.size + 1 + 1, 3, none⟩ = some a2_3 → Zn u w.heap.size → Zn u (w.heap.size + 1) → Zn u (w.heap.size + 1 + 1) → Hid (u.heap.size = w.heap.size + 1 + 1 + 1) → P u) : P (((w.alloc (.cells #[a0_0, a0_1] t0)).alloc (.cells #[a1_0, a1_1] t1)).alloc (.cells #[a2_0, a2_1, a2_2, a2_3] t2)) := by
 obtain ⟨p0, f0, l0⟩ := box_keep (w := w) (w1 := (((w.alloc (.cells #[a0_0, a0_1] t0)).alloc (.cells #[a1_0, a1_1] t1)).alloc (.cells #[a2_0, a2_1, a2_2, a2_3] t2))) (((Below.refl _ _).alloc (by simp) _).alloc (by simp) _)
 obtain ⟨p1, f1, l1⟩ := box_keep (w := (w.alloc (.cells #[a0_0, a0_1] t0))) (w1 := (((w.alloc (.cells #[a0_0, a0_1] t0)).alloc (.cells #[a1_0, a1_1] t1)).alloc (.cells #[a2_0, a2_1, a2_2, a2_3] t2))) ((Below.refl _ _).alloc (by simp) _)
 simp only [World.size_alloc] at p1 f1
 obtain ⟨p2, f2, l2⟩ := box_keep (w := ((w.alloc (.cells #[a0_0, a0_1] t0)).alloc (.cells #[a1_0, a1_1] t1))) (w1 := (((w.alloc (.cells #[a0_0, a0_1] t0)).alloc (.cells #[a1_0, a1_1] t1)).alloc (.cells #[a2_0, a2_1, a2_2, a2_3] t2))) (Below.refl _ _)
 simp only [World.size_alloc] at p2 f2
 exact H _ ((((Below.refl _ _).alloc (by simp; try omega) _).alloc (by simp; try omega) _).alloc (by simp; try omega) _) (p0 0) (p0 1) (p1 0) (p1 1) (p2 0) (p2 1) (p2 2) (p2 3) ⟨by simp; try omega, f0⟩ ⟨by simp; try omega, f1⟩ ⟨by simp; try omega, f2⟩ (by unfold Hid; simp)
theorem enterIF {w : World} {a0_0 a0_1 a1_0 a1_1 a1_2 a1_3 : Value} {t0 t1 : TypeId} {P : World → Prop}
  (H : ∀ u, Below w.heap.size w u → u.cell? ⟨w.heap.size, 0, none⟩ = some a0_0 → u.cell? ⟨w.heap.size, 1, none⟩ = some a0_1 → u.cell? ⟨w.heap.size + 1, 0, none⟩ = some a1_0 → u.cell? ⟨w.heap.size + 1, 1, none⟩ = some a1_1 → u.cell? ⟨w.heap.size + 1, 2, none⟩ = some a1_2 → u.cell? ⟨w.heap.size + 1, 3, none⟩ = some a1_3 → Zn u w.heap.size → Zn u (w.heap.size + 1) → Hid (u.heap.size = w.heap.size + 1 + 1) → P u) : P ((w.alloc (.cells #[a0_0, a0_1] t0)).alloc (.cells #[a1_0, a1_1, a1_2, a1_3] t1)) := by
 obtain ⟨p0, f0, l0⟩ := box_keep (w := w) (w1 := ((w.alloc (.cells #[a0_0, a0_1] t0)).alloc (.cells #[a1_0, a1_1, a1_2, a1_3] t1))) ((Below.refl _ _).alloc (by simp) _)
 obtain ⟨p1, f1, l1⟩ := box_keep (w := (w.alloc (.cells #[a0_0, a0_1] t0))) (w1 := ((w.alloc (.cells #[a0_0, a0_1] t0)).alloc (.cells #[a1_0, a1_1, a1_2, a1_3] t1))) (Below.refl _ _)
 simp only [World.size_alloc] at p1 f1
 exact H _ (((Below.refl _ _).alloc (by simp; try omega) _).alloc (by simp; try omega) _) (p0 0) (p0 1) (p1 0) (p1 1) (p1 2) (p1 3) ⟨by simp; try omega, f0⟩ ⟨by simp; try omega, f1⟩ (by unfold Hid; simp)
end Go.Proofs.YtglailcfgcdagaaGreat
/- Words for fractions that the walks share. Conditions: none. -/
namespace Go.Proofs.YtglailcfgcdagaaGreat
open Go.RowKit Big
/-- n's number of limbs and limbs -/
structure Lz (n : Nat) (k : Nat) (L : List Nat) : Prop where
 hL : L = limbs n
 hk : k = L.length
theorem lz (n : Nat) : ∃ k L, Hid (Lz n k L) := ⟨_, _, rfl, rfl⟩
def GN (w : World) (k : Nat) (L : List Nat) (e : Ending) (w' : World) : Prop := ∃ A c, e = .returned (.slice A k c) ∧ Mg w' A c L ∧ Below w.heap.size w w'
def GNN (w : World) (k : Nat) (L : List Nat) (k' : Nat) (L' : List Nat) (e : Ending) (w' : World) : Prop := ∃ A c B d, e = .returned (.tuple #[.slice A k c, .slice B k' d]) ∧ Mg w' A c L ∧ Mg w' B d L' ∧ Below w.heap.size w w'
/-- a fraction's sign, numbers of limbs and limbs -/
structure Fz (f : Int × Nat) (b : Bool) (k : Nat) (xs : List Nat) (l : Nat) (ys : List Nat) : Prop where
 hb : b = decide (f.1 < 0)
 hx : xs = limbs f.1.natAbs
 hk : k = xs.length
 hy : ys = limbs f.2
 hl : l = ys.length
theorem fz (f : Int × Nat) : ∃ b k xs l ys, Hid (Fz f b k xs l ys) := ⟨_, _, _, _, _, rfl, rfl, rfl, rfl, rfl⟩
theorem Fz.num {f : Int × Nat} {b : Bool} {k l : Nat} {xs ys : List Nat} (h : Fz f b k xs l ys) : Iz f.1 b k xs := ⟨h.hb, h.hx, h.hk⟩
theorem Fz.den {f : Int × Nat} {b : Bool} {k l : Nat} {xs ys : List Nat} (h : Fz f b k xs l ys) : Iz (f.2 : Int) false l ys := ⟨by simp, by rw [Int.natAbs_natCast]; exact h.hy, h.hl⟩
theorem Fz.n {f : Int × Nat} {b : Bool} {k l : Nat} {xs ys : List Nat} (h : Fz f b k xs l ys) : Lz f.1.natAbs k xs := ⟨h.hx, h.hk⟩
theorem Fz.d {f : Int × Nat} {b : Bool} {k l : Nat} {xs ys : List Nat} (h : Fz f b k xs l ys) : Lz f.2 l ys := ⟨h.hy, h.hl⟩
def GF (w : World) (b : Bool) (k : Nat) (xs : List Nat) (l : Nat) (ys : List Nat) (err : Int) (e : Ending) (w' : World) : Prop :=
 ∃ A c B d, e = .returned (.tuple #[.agg #[.bool b, .slice A k c, .bool false, .slice B l d], .int .i64 err]) ∧ Mg w' A c xs ∧ Mg w' B d ys ∧ Below w.heap.size w w'
/-- the fraction q.1 with the error q.2 -/
def RetFE (w : World) (q : (Int × Nat) × Int) (e : Ending) (w' : World) : Prop :=
 ∃ A c B d, e = .returned (.tuple #[.agg #[.bool (decide (q.1.1 < 0)), .slice A (limbs q.1.1.natAbs).length c, .bool false, .slice B (limbs q.1.2).length d], .int .i64 q.2]) ∧ Mg w' A c (limbs q.1.1.natAbs) ∧ Mg w' B d (limbs q.1.2) ∧ Below w.heap.size w w'
theorem RetFE.g {w w' : World} {q : (Int × Nat) × Int} {b : Bool} {k l : Nat} {xs ys : List Nat} {e : Ending} (h : RetFE w q e w') (I : Fz q.1 b k xs l ys) : GF w b k xs l ys q.2 e w' := by
 obtain ⟨rfl, rfl, rfl, rfl, rfl⟩ := I; exact h
theorem retFE_zero {w w' : World} (err : Int) (hb : Below w.heap.size w w') : RetFE w ((0, 0), err) (.returned (.tuple #[.agg #[.bool false, .slice none 0 0, .bool false, .slice none 0 0], .int .i64 err])) w' :=
 ⟨none, 0, none, 0, by simp [limbs_zero], by simpa using mg_nil w', by simpa using mg_nil w', hb⟩
/-- four fields stored into a result's box: everything else stays -/
theorem fin_fr {w w1 : World} {g : Nat} {b0 b2 : Bool} {A1 B1 : Option Addr} {n1 c1 m1 d1 : Nat} {X Y : Option Addr} {c d : Nat} {xs ys : List Nat} (hn : Mg w1 X c xs) (hd : Mg w1 Y d ys) (hb : Below w.heap.size w w1) (hg : w.heap.size ≤ g)
  (k0 : w1.cell? ⟨g, 0, none⟩ = some (.bool b0)) (k1 : w1.cell? ⟨g, 1, none⟩ = some (.slice A1 n1 c1)) (k2 : w1.cell? ⟨g, 2, none⟩ = some (.bool b2)) (k3 : w1.cell? ⟨g, 3, none⟩ = some (.slice B1 m1 d1)) (u0 u1 u2 u3 : Value) :
  Mg ((((w1.setCell ⟨g, 0, none⟩ u0).setCell ⟨g, 1, none⟩ u1).setCell ⟨g, 2, none⟩ u2).setCell ⟨g, 3, none⟩ u3) X c xs ∧ Mg ((((w1.setCell ⟨g, 0, none⟩ u0).setCell ⟨g, 1, none⟩ u1).setCell ⟨g, 2, none⟩ u2).setCell ⟨g, 3, none⟩ u3) Y d ys ∧ Below w.heap.size w ((((w1.setCell ⟨g, 0, none⟩ u0).setCell ⟨g, 1, none⟩ u1).setCell ⟨g, 2, none⟩ u2).setCell ⟨g, 3, none⟩ u3) := by
 have m : ∀ {A' c' xs}, Mg w1 A' c' xs → Mg ((((w1.setCell ⟨g, 0, none⟩ u0).setCell ⟨g, 1, none⟩ u1).setCell ⟨g, 2, none⟩ u2).setCell ⟨g, 3, none⟩ u3) A' c' xs := fun h =>
  (((h.set_ g 0 _ u0 k0 (by simp)).set_ g 1 _ u1 ((cell_set_ne (by omega)).trans k1) (by simp)).set_ g 2 _ u2 ((cell_set_ne (by omega)).trans ((cell_set_ne (by omega)).trans k2)) (by simp)).set_ g 3 _ u3 ((cell_set_ne (by omega)).trans ((cell_set_ne (by omega)).trans ((cell_set_ne (by omega)).trans k3))) (by simp)
 exact ⟨m hn, m hd, below_set (below_set (below_set (below_set hb hg _ _) hg _ _) hg _ _) hg _ _⟩
theorem Lz.le {n k m : Nat} {L : List Nat} (h : Lz n k L) (hm : (limbs n).length ≤ m) : k ≤ m := by obtain ⟨rfl, rfl⟩ := h; exact hm
theorem Lz.len {n k : Nat} {L : List Nat} (h : Lz n k L) : (limbs n).length = k := by obtain ⟨rfl, rfl⟩ := h; rfl
theorem Lz.mono {n m k l : Nat} {L L' : List Nat} (h : Lz n k L) (h' : Lz m l L') (hm : n ≤ m) : k ≤ l := by obtain ⟨rfl, rfl⟩ := h; obtain ⟨rfl, rfl⟩ := h'; exact limbs_mono hm
theorem Lz.zero {n k : Nat} {L : List Nat} (h : Lz n k L) : k = 0 ↔ n = 0 := by obtain ⟨rfl, rfl⟩ := h; rw [List.length_eq_zero_iff, limbs_eq_nil]
theorem mg_nil' (w : World) : Mg w none 0 [] := by simpa [limbs_zero] using mg_nil w
theorem limbs_len2' {n q k : Nat} (hq : q ≤ 1) (h : (limbs n).length ≤ k) : (limbs (2 * n + q)).length ≤ k + 1 := by
 have := limbs_len2 (n := n) (m := 2) (p := q) (by omega) (by omega)
 rw [Nat.mul_comm n 2] at this
 omega
theorem GF.r {w w' : World} {p : Int × Nat} {err : Int} {b : Bool} {k l : Nat} {xs ys : List Nat} {e : Ending} (h : GF w b k xs l ys err e w') (I : Fz p b k xs l ys) : RetFE w (p, err) e w' := by
 obtain ⟨rfl, rfl, rfl, rfl, rfl⟩ := I; exact h
theorem retFE_set {w w1 : World} {g : Nat} {b0 b2 : Bool} {A1 B1 : Option Addr} {n1 c1 m1 d1 : Nat} (err : Int) (hb : Below w.heap.size w w1) (hg : w.heap.size ≤ g)
  (k0 : w1.cell? ⟨g, 0, none⟩ = some (.bool b0)) (k1 : w1.cell? ⟨g, 1, none⟩ = some (.slice A1 n1 c1)) (k2 : w1.cell? ⟨g, 2, none⟩ = some (.bool b2)) (k3 : w1.cell? ⟨g, 3, none⟩ = some (.slice B1 m1 d1)) {u0 u1 u2 u3 : Value} :
  RetFE w ((0, 0), err) (.returned (.tuple #[.agg #[.bool false, .slice none 0 0, .bool false, .slice none 0 0], .int .i64 err])) ((((w1.setCell ⟨g, 0, none⟩ u0).setCell ⟨g, 1, none⟩ u1).setCell ⟨g, 2, none⟩ u2).setCell ⟨g, 3, none⟩ u3) :=
 retFE_zero err (fin_fr (X := none) (c := 0) (xs := []) (Y := none) (d := 0) (ys := []) (mg_nil' _) (mg_nil' _) hb hg k0 k1 k2 k3 u0 u1 u2 u3).2.2
theorem valid_int (x : Int) (h1 : -9223372036854775808 ≤ x) (h2 : x ≤ 9223372036854775807) : fits x := by
 have := (limbs_len_iff x.natAbs 2).2 (by omega)
 unfold fits; omega
theorem newR_int (x y : Int) (f1 : fits x) (f2 : fits y) : newR (decide (x < 0)) (limbs x.natAbs) (decide (y < 0)) (limbs y.natAbs) = newE x y := by
 unfold newR
 rw [validB_z f1, validB_z f2, if_pos (by rfl), val_limbs, val_limbs, sg_self, sg_self]
theorem fin_i {w w1 : World} {g : Nat} {b0 : Bool} {A1 : Option Addr} {n1 c1 : Nat} {X : Option Addr} {c : Nat} {xs : List Nat} (hn : Mg w1 X c xs) (hb : Below w.heap.size w w1) (hg : w.heap.size ≤ g)
  (k0 : w1.cell? ⟨g, 0, none⟩ = some (.bool b0)) (k1 : w1.cell? ⟨g, 1, none⟩ = some (.slice A1 n1 c1)) (u0 u1 : Value) :
  Mg ((w1.setCell ⟨g, 0, none⟩ u0).setCell ⟨g, 1, none⟩ u1) X c xs ∧ Below w.heap.size w ((w1.setCell ⟨g, 0, none⟩ u0).setCell ⟨g, 1, none⟩ u1) :=
 ⟨(hn.set_ g 0 _ u0 k0 (by simp)).set_ g 1 _ u1 ((cell_set_ne (by omega)).trans k1) (by simp), below_set (below_set hb hg _ _) hg _ _⟩
theorem GZ.of {w w' : World} {b : Bool} {k : Nat} {L : List Nat} {A : Option Addr} {c : Nat} (h : Mg w' A c L) (hb : Below w.heap.size w w') : GZ w b k L (.returned (.agg #[.bool b, .slice A k c])) w' := ⟨A, c, rfl, h, hb⟩
theorem GZE.r {w w' : World} {z err : Int} {b : Bool} {n : Nat} {L : List Nat} {e : Ending} (h : GZE w b n L err e w') (I : Iz z b n L) : RetZE w z err e w' := by
 obtain ⟨rfl, rfl, rfl⟩ := I; exact h
theorem iz_inj {x y : Int} {b b' : Bool} {n n' : Nat} {L L' : List Nat} (hx : Iz x b n L) (hy : Iz y b' n' L') : (b = b' ∧ val L = val L') ↔ x = y := by
 obtain ⟨rfl, rfl, rfl⟩ := hx
 obtain ⟨rfl, rfl, rfl⟩ := hy
 rw [val_limbs, val_limbs]
 constructor
 ·rintro ⟨h1, h2⟩
  have : (x < 0) ↔ (y < 0) := by simpa using h1
  omega
 ·rintro rfl; exact ⟨rfl, rfl⟩
end Go.Proofs.YtglailcfgcdagaaGreat
/- Worlds behind boxes that were just made: more shapes. Conditions: none. -/
namespace Go.Proofs.YtglailcfgcdagaaGreat
open Go.RowKit Big
end Go.Proofs.YtglailcfgcdagaaGreat
/- A region that draws its order and whose last store hits a cell that the region loads: the condition on the world need not hold behind the store, which waits for all. Conditions: none. -/
namespace Go.Proofs.YtglailcfgcdagaaGreat
open Go.RowKit Big
section
variable {P : Program} {ops : Array Oper} {Q : Exit → Act → World → Prop} {md : Region.Mode} {S : World → Prop} {x : Nat}
/-- whatever order comes: behind each operation but number x the condition holds -/
def Ords (P : Program) (md : Region.Mode) (ops : Array Oper) (Q : Exit → Act → World → Prop) (S : World → Prop) (x : Nat) : Nat → Array Bool → Act → World → Prop
 | 0, d, a, w => Region.ready md ops d = [] ∧ Q .normal a w
 | n + 1, d, a, w => (Region.ready md ops d = [] → Q .normal a w) ∧ ∀ i ∈ Region.ready md ops d, wpOp P ops Q i (fun b v => (i ≠ x → S v) ∧ Ords P md ops Q S x n (d.setIfInBounds i true) b v) a w
theorem Ords.any : ∀ (n : Nat) (d : Array Bool) (a : Act) (w : World), Ords P md ops Q S x n d a w → wpAny P md ops Q n d a w
 | 0, _, _, _, h => h
 | n + 1, _, _, _, h => ⟨h.1, fun i hi => wpOp_mono (fun b v k => Ords.any n _ b v k.2) (h.2 i hi)⟩
/-- number x waits for number i -/
def waitsFor (md : Region.Mode) (ops : Array Oper) (x i : Nat) : Bool := match ops[x]? with
 | none => false
 | some o => o.after.any fun e => Region.binds md e && e.on == i
theorem not_both {d : Array Bool} {i j : Nat} (hw : waitsFor md ops x i = true) (hi : i ∈ Region.ready md ops d) (hj : j ∈ Region.ready md ops d) : j ≠ x := by
 rintro rfl
 unfold waitsFor at hw
 obtain ⟨_, o, ho, hall⟩ := mem_ready.1 hj
 rw [ho] at hw
 obtain ⟨e, he, hb⟩ := Array.any_eq_true'.1 hw
 simp only [Bool.and_eq_true, beq_iff_eq] at hb
 have h1 := hall e he hb.1
 have h0 := (mem_ready.1 hi).1
 rw [hb.2] at h1
 by_cases hs : i < d.size
 ·simp [hs] at h0 h1
  rw [h0] at h1
  cases h1
 ·simp [hs] at h1
theorem Ords.first {i : Nat} {o : Oper} {v : Value} (hi : ops[i]? = some o) (hns : Region.noSelect ops = true) (hw : waitsFor md ops x i = true)
  (hQ : ∀ c a w, Q (.panic c) (a.put o.dst v) w → Q (.panic c) a w) : ∀ (n : Nat) (d : Array Bool) (a : Act) (w : World),
   (∀ j oj, ops[j]? = some oj → j ≠ i → d.getD j true = false → (∀ e ∈ oj.after, Region.binds md e = true → e.on ≠ i) → o.apart ops oj = true) →
   i ∈ Region.ready md ops d → YieldsIf P ops S o v a → S w → Ords P md ops Q S x n (d.setIfInBounds i true) (a.put o.dst v) w → Ords P md ops Q S x (n + 1) d a w := by
 have hsel := Region.noSelect_spec hns
 intro n
 induction n with
 | zero =>
  intro d a w _ hr hy hS H
  refine ⟨fun h => (by rw [h] at hr; cases hr), fun j hj => ?_⟩
  by_cases hji : j = i
  ·subst hji
   exact hy.wpOp hi hS ⟨fun _ => hS, H⟩
  ·have := ready_mono hj hji
   rw [H.1] at this
   cases this
 | succ n ih =>
  intro d a w hfree hr hy hS H
  refine ⟨fun h => (by rw [h] at hr; cases hr), fun j hj => ?_⟩
  by_cases hji : j = i
  ·subst hji
   exact hy.wpOp hi hS ⟨fun _ => hS, H⟩
  ·have hjx := not_both hw hr hj
   have h1 := H.2 j (ready_mono hj hji)
   obtain ⟨hun, oj, hoj, hall⟩ := mem_ready.1 hj
   have hno : ∀ e ∈ oj.after, Region.binds md e = true → e.on ≠ i := fun e he hb heq => by
    have h1 := hall e he hb
    have h0 := (mem_ready.1 hr).1
    rw [heq] at h1
    by_cases hs : i < d.size
    ·simp [hs] at h0 h1
     rw [h0] at h1
     cases h1
    ·simp [hs] at h1
   have h2 := wpOp_putIf hoj (hfree j oj hoj hji hun hno) (fun cs b => hsel i o cs b hi) (fun cs b => hsel j oj cs b hoj) hQ hy h1
   have hfree' : ∀ k ok, ops[k]? = some ok → k ≠ i → (d.setIfInBounds j true).getD k true = false → (∀ e ∈ ok.after, Region.binds md e = true → e.on ≠ i) → o.apart ops ok = true := fun k ok hk hki hu hn => by
    refine hfree k ok hk hki ?_ hn
    by_cases hjk : j = k
    ·subst hjk; exact hun
    ·rwa [getD_set_ne true hjk] at hu
   refine wpOp_mono (fun b u h3 => ⟨fun _ => h3.2.1 hjx, ih _ b u hfree' (ready_mono hr (Ne.symm hji)) h3.1 (h3.2.1 hjx) ?_⟩) h2
   rw [Array.setIfInBounds_comm _ _ hji]
   exact h3.2.2
theorem Ords.take {i : Nat} {o : Oper} {v : Value} {n : Nat} {d : Array Bool} {a : Act} {w : World} (hi : ops[i]? = some o) (hs : Region.noSelect ops = true) (hf : Region.free md ops d i = true)
  (hr : (Region.ready md ops d).contains i = true) (hw : waitsFor md ops x i = true) (hQ : ∀ c a w, Q (.panic c) (a.put o.dst v) w → Q (.panic c) a w) (hy : YieldsIf P ops S o v a) (hS : S w)
  (h : Ords P md ops Q S x n (d.setIfInBounds i true) (a.put o.dst v) w) : Ords P md ops Q S x (n + 1) d a w :=
 Ords.first hi hs hw hQ n d a w (Region.free_spec hi hf) (by simpa using hr) hy hS h
/-- number i alone may come -/
theorem Ords.step {i : Nat} {o : Oper} {n : Nat} {d : Array Bool} {a : Act} {w : World} (hr : Region.ready md ops d = [i]) (ho : ops[i]? = some o)
  (h : ∀ K : Act → World → Prop, Shut (∀ b v, (S v) → (S v → Ords P md ops Q S x n (d.setIfInBounds i true) b v) → K b v) → if Region.wanted o (yielded ops a.tmps) = true then Oper.wp P o a w K Q else K (a.put o.dst undef) w) :
  Ords P md ops Q S x (n + 1) d a w := by
 refine ⟨fun h0 => (by rw [hr] at h0; cases h0), fun j hj => ?_⟩
 rw [hr] at hj
 obtain rfl : j = i := by simpa using hj
 exact wpOp_step ho fun K hK => h K fun b v hS hW => hK b v ⟨fun _ => hS, hW hS⟩
/-- number x, the last one -/
theorem Ords.last {o : Oper} {n : Nat} {d : Array Bool} {a : Act} {w : World} (hr : Region.ready md ops d = [x]) (ho : ops[x]? = some o) (hd : Region.ready md ops (d.setIfInBounds x true) = [])
  (h : ∀ K : Act → World → Prop, Shut (∀ b v, Q .normal b v → K b v) → if Region.wanted o (yielded ops a.tmps) = true then Oper.wp P o a w K Q else K (a.put o.dst undef) w) :
  Ords P md ops Q S x (n + 1) d a w := by
 refine ⟨fun h0 => (by rw [hr] at h0; cases h0), fun j hj => ?_⟩
 rw [hr] at hj
 obtain rfl : j = x := by simpa using hj
 refine wpOp_step ho fun K hK => h K fun b v hq => hK b v ⟨fun h => absurd rfl h, ?_⟩
 cases n with
 | zero => exact ⟨hd, hq⟩
 | succ n => exact ⟨fun _ => hq, by rw [hd]; simp⟩
/-- the beginning -/
theorem Ords.start {id : Nat} {a : Act} {w : World} (hm : P.follows .mixedOrders = true) (hS : S w.drew)
  (h : S w.drew → Ords P .any ops Q S x ops.size (Array.replicate ops.size false) a w.drew) : (Code.region id ops true).wp P Q a w :=
 wp_region_any hm (Ords.any _ _ _ _ (h hS))
end
end Go.Proofs.YtglailcfgcdagaaGreat
/- Steps through a region that draws its order, in few words. Conditions: none. -/
namespace Go.Proofs.YtglailcfgcdagaaGreat
open Go.RowKit
section
variable {P : Program} {L : List Oper} {Q : Exit → Act → World → Prop} {md : Region.Mode} {S : World → Prop}
end
end Go.Proofs.YtglailcfgcdagaaGreat
