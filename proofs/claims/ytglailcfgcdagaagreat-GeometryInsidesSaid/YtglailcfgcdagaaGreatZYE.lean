/- Integers: the walk of Pow. Conditions: none. -/
import Derived.Test.YtglailcfgcdagaaGreatZYC
import Derived.Test.YtglailcfgcdagaaGreatZNtA
import Derived.Test.YtglailcfgcdagaaGreatSh1
import Derived.Laws.IdiomCopy
import Derived.Lib.EndianMore
set_option linter.unusedVariables false
set_option linter.unusedSimpArgs false
namespace Go.Proofs.YtglailcfgcdagaaGreat
open Go.RowKit Big
end Go.Proofs.YtglailcfgcdagaaGreat
/- Integers: the walk of Digits. Conditions: none. -/
namespace Go.Proofs.YtglailcfgcdagaaGreat
open Go.RowKit Big
theorem Mg.grown {w w' : World} {A : Option Addr} {c : Nat} {xs : List Nat} {row : Option Nat} (h : Mg w A c xs) (hg : w.grownBy w' row) (hne : 0 < xs.length → ∀ p, A = some p → some p.block ≠ row) : Mg w' A c xs :=
 ⟨h.cap, h.max, h.ok, fun hl => by
  obtain ⟨b, o, e, hB, hc⟩ := h.rd hl
  exact ⟨b, o, e, Nat.lt_of_lt_of_le hB hg.size, fun j hj => (World.cell?_of_block (a := ⟨b, o + j, none⟩) (hg.block b hB (hne hl _ e))).trans (hc j hj)⟩⟩
theorem rd_one {α : Type} (f : α → Value) (w : World) (x : α) (t : TypeId) : Rd f (w.alloc (.cells #[f x] t)) (some ⟨w.heap.size, 0, none⟩) [x] :=
 Rd.of_blk (heap_alloc_new _ _) (fun j hj => by match j, hj with | 0, _ => rfl)
end Go.Proofs.YtglailcfgcdagaaGreat
/- Integers: the walk of FromDigits. Conditions: none. -/
namespace Go.Proofs.YtglailcfgcdagaaGreat
open Go.RowKit Big
def okD (b : Nat) (l : List Int) : Prop := ∀ d ∈ l, 0 ≤ d ∧ d < (b : Int)
instance (b : Nat) (l : List Int) : Decidable (okD b l) := inferInstanceAs (Decidable (∀ d ∈ l, 0 ≤ d ∧ d < (b : Int)))
end Go.Proofs.YtglailcfgcdagaaGreat
/- The comparison of two integers field by field (the reference's Same, the laws' same). Conditions: none. -/
namespace Go.Proofs.YtglailcfgcdagaaGreat
open Go.RowKit Big
def RetB (w : World) (b : Bool) (e : Ending) (w' : World) : Prop := e = .returned (.bool b) ∧ Below w.heap.size w w'
end Go.Proofs.YtglailcfgcdagaaGreat
/- The contracts of package bigint once more, the sign, the length and the limbs of each integer under names of their own. Conditions: none. -/
namespace Go.Proofs.YtglailcfgcdagaaGreat
open Go.RowKit Big
/-! ### cells of boxes over later worlds -/
theorem keep_cell {W w' : World} {g o : Nat} {v : Value} (h : Below W.heap.size W w') (hc : W.cell? ⟨g, o, none⟩ = some v) : w'.cell? ⟨g, o, none⟩ = some v := by
 have hg : g < W.heap.size := by
  rcases Nat.lt_or_ge g W.heap.size with h1 | h1
  ·exact h1
  ·simp [World.cell?, Array.getElem?_eq_none h1] at hc
 exact (h.cell (p := ⟨g, o, none⟩) hg).trans hc
theorem bel_step {w V w' : World} (h0 : Below w.heap.size w V) (h : Below V.heap.size V w') : Below w.heap.size w w' := h0.trans (h.mono h0.size)
theorem cell_lt {W : World} {g o : Nat} {v : Value} (hc : W.cell? ⟨g, o, none⟩ = some v) : g < W.heap.size := by
 rcases Nat.lt_or_ge g W.heap.size with h1 | h1
 ·exact h1
 ·simp [World.cell?, Array.getElem?_eq_none h1] at hc
theorem keep_alloc {W : World} {g o : Nat} {v : Value} {b : Obj} (hc : W.cell? ⟨g, o, none⟩ = some v) : (W.alloc b).cell? ⟨g, o, none⟩ = some v :=
 keep_cell ((Below.refl _ _).alloc (Nat.le_refl _) _) hc
theorem keep_drew {W : World} {g o : Nat} {v : Value} (hc : W.cell? ⟨g, o, none⟩ = some v) : W.drew.cell? ⟨g, o, none⟩ = some v := hc
theorem keep_set {W : World} {g o k i : Nat} {v u : Value} (hne : k ≠ g) (hc : W.cell? ⟨g, o, none⟩ = some v) : (W.setCell ⟨k, i, none⟩ u).cell? ⟨g, o, none⟩ = some v := (cell_far hne).trans hc
theorem at_alloc0 {W : World} {g : Nat} {a b : Value} {t : TypeId} (hg : g = W.heap.size) : (W.alloc (.cells #[a, b] t)).cell? ⟨g, 0, none⟩ = some a := by
 subst hg; exact (World.cell?_alloc_at _ _ _ _ rfl).trans rfl
theorem at_alloc1 {W : World} {g : Nat} {a b : Value} {t : TypeId} (hg : g = W.heap.size) : (W.alloc (.cells #[a, b] t)).cell? ⟨g, 1, none⟩ = some b := by
 subst hg; exact (World.cell?_alloc_at _ _ _ _ rfl).trans rfl
theorem at_set {W : World} {g i : Nat} {v u : Value} (h : W.cell? ⟨g, i, none⟩ = some v) : (W.setCell ⟨g, i, none⟩ u).cell? ⟨g, i, none⟩ = some u := by
 simp [go_sem, h]
theorem keep_off {W : World} {g i j : Nat} {v u : Value} (hne : i ≠ j) (hc : W.cell? ⟨g, j, none⟩ = some v) : (W.setCell ⟨g, i, none⟩ u).cell? ⟨g, j, none⟩ = some v := (cell_set_ne hne).trans hc
theorem Mg.alloc {W : World} {A : Option Addr} {c : Nat} {xs : List Nat} {b : Obj} (h : Mg W A c xs) : Mg (W.alloc b) A c xs := h.below ((Below.refl _ _).alloc (Nat.le_refl _) _)
theorem Mg.setB {W : World} {A : Option Addr} {c : Nat} {xs : List Nat} {g : Nat} {u : Value} (hv : W.cell? ⟨g, 0, none⟩ = some (.bool false)) (h : Mg W A c xs) : Mg (W.setCell ⟨g, 0, none⟩ u) A c xs := h.set_ g 0 _ u hv (by simp)
theorem Mg.setS {W : World} {A : Option Addr} {c : Nat} {xs : List Nat} {g : Nat} {u : Value} (hv : W.cell? ⟨g, 1, none⟩ = some (.slice none 0 0)) (h : Mg W A c xs) : Mg (W.setCell ⟨g, 1, none⟩ u) A c xs := h.set_ g 1 _ u hv (by simp)
theorem new2 {W w' : World} {a b c d : Value} {t u : TypeId} (h : Below ((W.alloc (.cells #[a, b] t)).alloc (.cells #[c, d] u)).heap.size ((W.alloc (.cells #[a, b] t)).alloc (.cells #[c, d] u)) w') :
  w'.cell? ⟨W.heap.size, 0, none⟩ = some a ∧ w'.cell? ⟨W.heap.size, 1, none⟩ = some b ∧ w'.cell? ⟨W.heap.size + 1, 0, none⟩ = some c ∧ w'.cell? ⟨W.heap.size + 1, 1, none⟩ = some d := by
 obtain ⟨p1, p2, p3, p4, p7⟩ := box2_keep h
 exact ⟨(p1 0).trans rfl, (p1 1).trans rfl, (p3 0).trans rfl, (p3 1).trans rfl⟩
theorem new3 {W w' : World} {a b c d e f : Value} {t u v : TypeId} (h : Below (((W.alloc (.cells #[a, b] t)).alloc (.cells #[c, d] u)).alloc (.cells #[e, f] v)).heap.size (((W.alloc (.cells #[a, b] t)).alloc (.cells #[c, d] u)).alloc (.cells #[e, f] v)) w') :
  w'.cell? ⟨W.heap.size, 0, none⟩ = some a ∧ w'.cell? ⟨W.heap.size, 1, none⟩ = some b ∧ w'.cell? ⟨W.heap.size + 1, 0, none⟩ = some c ∧ w'.cell? ⟨W.heap.size + 1, 1, none⟩ = some d ∧ w'.cell? ⟨W.heap.size + 1 + 1, 0, none⟩ = some e ∧ w'.cell? ⟨W.heap.size + 1 + 1, 1, none⟩ = some f := by
 obtain ⟨p1, p2, p3, p4, p5, p6, p7⟩ := box3_keep h
 exact ⟨(p1 0).trans rfl, (p1 1).trans rfl, (p3 0).trans rfl, (p3 1).trans rfl, (p5 0).trans rfl, (p5 1).trans rfl⟩
/-- z's sign, number of limbs and limbs -/
structure Iz (z : Int) (b : Bool) (n : Nat) (xs : List Nat) : Prop where
 hb : b = decide (z < 0)
 hx : xs = limbs z.natAbs
 hn : n = xs.length
theorem iz (z : Int) : ∃ b n xs, Hid (Iz z b n xs) := ⟨_, _, _, rfl, rfl, rfl⟩
theorem Iz.le {z : Int} {b : Bool} {n : Nat} {xs : List Nat} (h : Iz z b n xs) (f : fits z) : n ≤ 512 := by
 obtain ⟨rfl, rfl, rfl⟩ := h; exact f
theorem Iz.zero {z : Int} {b : Bool} {n : Nat} {xs : List Nat} (h : Iz z b n xs) : n = 0 ↔ z = 0 := by
 obtain ⟨rfl, rfl, rfl⟩ := h
 rw [List.length_eq_zero_iff, limbs_eq_nil]; omega
def GZ (w : World) (b : Bool) (n : Nat) (xs : List Nat) (e : Ending) (w' : World) : Prop :=
 ∃ A c, e = .returned (.agg #[.bool b, .slice A n c]) ∧ Mg w' A c xs ∧ Below w.heap.size w w'
def GZE (w : World) (b : Bool) (n : Nat) (xs : List Nat) (err : Int) (e : Ending) (w' : World) : Prop :=
 ∃ A c, e = .returned (.tuple #[.agg #[.bool b, .slice A n c], .int .i64 err]) ∧ Mg w' A c xs ∧ Below w.heap.size w w'
def GDM (w : World) (b : Bool) (n : Nat) (xs : List Nat) (b' : Bool) (n' : Nat) (xs' : List Nat) (err : Int) (e : Ending) (w' : World) : Prop :=
 ∃ A c B d, e = .returned (.tuple #[.agg #[.bool b, .slice A n c], .agg #[.bool b', .slice B n' d], .int .i64 err]) ∧ Mg w' A c xs ∧ Mg w' B d xs' ∧ Below w.heap.size w w'
section
variable {x y z r err : Int} {b b' b2 b3 : Bool} {n n' n2 n3 : Nat} {xs ys zs rs : List Nat} {A B : Option Addr} {c d : Nat} {w : World}
variable (hx : Iz x b n xs) (hy : Iz y b' n' ys)
include hx hy
section
variable (hz : Iz z b2 n2 zs) (he : fitE r = (z, err)) (ha : Mg w A c xs) (hb : Mg w B d ys) (fx : fits x) (fy : fits y)
include hz he ha hb fx fy
theorem Sub_g (h : x - y = r) : Calls Tryz.prog 44 #[.agg #[.bool b, .slice A n c], .agg #[.bool b', .slice B n' d]] w (GZE w b2 n2 zs err) := by
 obtain ⟨rfl, rfl, rfl⟩ := hx; obtain ⟨rfl, rfl, rfl⟩ := hy; obtain ⟨rfl, rfl, rfl⟩ := hz; subst h
 have := Sub_ok x y A B c d w ha hb fx fy; unfold RetF at this; rw [he] at this; exact this
theorem Mul_g (h : x * y = r) : Calls Tryz.prog 42 #[.agg #[.bool b, .slice A n c], .agg #[.bool b', .slice B n' d]] w (GZE w b2 n2 zs err) := by
 obtain ⟨rfl, rfl, rfl⟩ := hx; obtain ⟨rfl, rfl, rfl⟩ := hy; obtain ⟨rfl, rfl, rfl⟩ := hz; subst h
 have := Mul_ok x y A B c d w ha hb fx fy; unfold RetF at this; rw [he] at this; exact this
end
end
section
variable {x z r err : Int} {b b2 : Bool} {n n2 : Nat} {xs zs : List Nat} {A : Option Addr} {c : Nat} {w : World}
theorem FromInt_g (hz : Iz z b2 n2 zs) (h1 : -9223372036854775808 ≤ z) (h2 : z ≤ 9223372036854775807) : Calls Tryz.prog 43 #[.int .i64 z] w (GZ w b2 n2 zs) := by
 obtain ⟨rfl, rfl, rfl⟩ := hz
 exact FromInt_ok z w h1 h2
end
end Go.Proofs.YtglailcfgcdagaaGreat
