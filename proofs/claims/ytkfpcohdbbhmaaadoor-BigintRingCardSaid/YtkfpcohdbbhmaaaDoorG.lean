/- The contracts of package bigint once more, the sign, the length and the limbs of each integer under names of their own. Conditions: none. -/
import Derived.Test.YtkfpcohdbbhmaaaDoorBi25
import Derived.Test.YtkfpcohdbbhmaaaDoorBiD
import Derived.Test.YtkfpcohdbbhmaaaDoorSame
set_option linter.unusedVariables false
set_option linter.unusedSimpArgs false
namespace Go.Proofs.YtkfpcohdbbhmaaaDoor
open Go.RowKit Big

/-! ### cells of boxes over later worlds -/
theorem keep_cell {W w' : World} {g o : Nat} {v : Value} (h : Below W.heap.size W w') (hc : W.cell? ⟨g, o, none⟩ = some v) : w'.cell? ⟨g, o, none⟩ = some v := by
  have hg : g < W.heap.size := by
    rcases Nat.lt_or_ge g W.heap.size with h1 | h1
    · exact h1
    · simp [World.cell?, Array.getElem?_eq_none h1] at hc
  exact (h.cell (p := ⟨g, o, none⟩) hg).trans hc
theorem bel_step {w V w' : World} (h0 : Below w.heap.size w V) (h : Below V.heap.size V w') : Below w.heap.size w w' := h0.trans (h.mono h0.size)
theorem cell_lt {W : World} {g o : Nat} {v : Value} (hc : W.cell? ⟨g, o, none⟩ = some v) : g < W.heap.size := by
  rcases Nat.lt_or_ge g W.heap.size with h1 | h1
  · exact h1
  · simp [World.cell?, Array.getElem?_eq_none h1] at hc
theorem keep_alloc {W : World} {g o : Nat} {v : Value} {b : Obj} (hc : W.cell? ⟨g, o, none⟩ = some v) : (W.alloc b).cell? ⟨g, o, none⟩ = some v :=
  keep_cell ((Below.refl _ _).alloc (Nat.le_refl _) _) hc
theorem keep_drew {W : World} {g o : Nat} {v : Value} (hc : W.cell? ⟨g, o, none⟩ = some v) : W.drew.cell? ⟨g, o, none⟩ = some v := hc
theorem keep_set {W : World} {g o k i : Nat} {v u : Value} (hne : k ≠ g) (hc : W.cell? ⟨g, o, none⟩ = some v) : (W.setCell ⟨k, i, none⟩ u).cell? ⟨g, o, none⟩ = some v := (cell_far hne).trans hc
theorem at_alloc0 {W : World} {g : Nat} {a b : Value} {t : TypeId} (hg : g = W.heap.size) : (W.alloc (.cells #[a, b] t)).cell? ⟨g, 0, none⟩ = some a := by
  subst hg; exact (World.cell?_alloc_at _ _ _ _ rfl).trans rfl
theorem at_alloc1 {W : World} {g : Nat} {a b : Value} {t : TypeId} (hg : g = W.heap.size) : (W.alloc (.cells #[a, b] t)).cell? ⟨g, 1, none⟩ = some b := by
  subst hg; exact (World.cell?_alloc_at _ _ _ _ rfl).trans rfl
theorem at_set {W : World} {g i : Nat} {v u : Value} (h : W.cell? ⟨g, i, none⟩ = some v) : (W.setCell ⟨g, i, none⟩ u).cell? ⟨g, i, none⟩ = some u := by
  simp [go_sem, h]
theorem keep_off {W : World} {g i j : Nat} {v u : Value} (hne : i ≠ j) (hc : W.cell? ⟨g, j, none⟩ = some v) : (W.setCell ⟨g, i, none⟩ u).cell? ⟨g, j, none⟩ = some v := (cell_set_ne hne).trans hc
theorem Mg.alloc {W : World} {A : Option Addr} {c : Nat} {xs : List Nat} {b : Obj} (h : Mg W A c xs) : Mg (W.alloc b) A c xs := h.below ((Below.refl _ _).alloc (Nat.le_refl _) _)
theorem Mg.of_self {W : World} {A : Option Addr} {c : Nat} {xs : List Nat} (h : Mg W A c xs) : Mg W A c xs := h
theorem Mg.setB {W : World} {A : Option Addr} {c : Nat} {xs : List Nat} {g : Nat} {u : Value} (hv : W.cell? ⟨g, 0, none⟩ = some (.bool false)) (h : Mg W A c xs) : Mg (W.setCell ⟨g, 0, none⟩ u) A c xs := h.set_ g 0 _ u hv (by simp)
theorem Mg.setS {W : World} {A : Option Addr} {c : Nat} {xs : List Nat} {g : Nat} {u : Value} (hv : W.cell? ⟨g, 1, none⟩ = some (.slice none 0 0)) (h : Mg W A c xs) : Mg (W.setCell ⟨g, 1, none⟩ u) A c xs := h.set_ g 1 _ u hv (by simp)
theorem at_setB {W : World} {g : Nat} {u : Value} (h : W.cell? ⟨g, 0, none⟩ = some (.bool false)) : (W.setCell ⟨g, 0, none⟩ u).cell? ⟨g, 0, none⟩ = some u := at_set h
theorem at_setS {W : World} {g : Nat} {u : Value} (h : W.cell? ⟨g, 1, none⟩ = some (.slice none 0 0)) : (W.setCell ⟨g, 1, none⟩ u).cell? ⟨g, 1, none⟩ = some u := at_set h
theorem new1 {W w' : World} {a b : Value} {t : TypeId} (h : Below (W.alloc (.cells #[a, b] t)).heap.size (W.alloc (.cells #[a, b] t)) w') :
    w'.cell? ⟨W.heap.size, 0, none⟩ = some a ∧ w'.cell? ⟨W.heap.size, 1, none⟩ = some b := by
  obtain ⟨p, _, _⟩ := box_keep h
  exact ⟨(p 0).trans rfl, (p 1).trans rfl⟩
theorem new2 {W w' : World} {a b c d : Value} {t u : TypeId} (h : Below ((W.alloc (.cells #[a, b] t)).alloc (.cells #[c, d] u)).heap.size ((W.alloc (.cells #[a, b] t)).alloc (.cells #[c, d] u)) w') :
    w'.cell? ⟨W.heap.size, 0, none⟩ = some a ∧ w'.cell? ⟨W.heap.size, 1, none⟩ = some b ∧ w'.cell? ⟨W.heap.size + 1, 0, none⟩ = some c ∧ w'.cell? ⟨W.heap.size + 1, 1, none⟩ = some d := by
  obtain ⟨p1, p2, p3, p4, p7⟩ := box2_keep h
  exact ⟨(p1 0).trans rfl, (p1 1).trans rfl, (p3 0).trans rfl, (p3 1).trans rfl⟩
theorem new3 {W w' : World} {a b c d e f : Value} {t u v : TypeId} (h : Below (((W.alloc (.cells #[a, b] t)).alloc (.cells #[c, d] u)).alloc (.cells #[e, f] v)).heap.size (((W.alloc (.cells #[a, b] t)).alloc (.cells #[c, d] u)).alloc (.cells #[e, f] v)) w') :
    w'.cell? ⟨W.heap.size, 0, none⟩ = some a ∧ w'.cell? ⟨W.heap.size, 1, none⟩ = some b ∧ w'.cell? ⟨W.heap.size + 1, 0, none⟩ = some c ∧ w'.cell? ⟨W.heap.size + 1, 1, none⟩ = some d ∧ w'.cell? ⟨W.heap.size + 1 + 1, 0, none⟩ = some e ∧ w'.cell? ⟨W.heap.size + 1 + 1, 1, none⟩ = some f := by
  obtain ⟨p1, p2, p3, p4, p5, p6, p7⟩ := box3_keep h
  exact ⟨(p1 0).trans rfl, (p1 1).trans rfl, (p3 0).trans rfl, (p3 1).trans rfl, (p5 0).trans rfl, (p5 1).trans rfl⟩

/-- z's sign, number of limbs and limbs -/
structure Iz (z : Int) (b : Bool) (n : Nat) (xs : List Nat) : Prop where
  hb : b = decide (z < 0)
  hx : xs = limbs z.natAbs
  hn : n = xs.length
theorem iz (z : Int) : ∃ b n xs, Hid (Iz z b n xs) := ⟨_, _, _, rfl, rfl, rfl⟩
theorem Iz.le {z : Int} {b : Bool} {n : Nat} {xs : List Nat} (h : Iz z b n xs) (f : fits z) : n ≤ 512 := by
  obtain ⟨rfl, rfl, rfl⟩ := h; exact f
theorem Iz.zero {z : Int} {b : Bool} {n : Nat} {xs : List Nat} (h : Iz z b n xs) : n = 0 ↔ z = 0 := by
  obtain ⟨rfl, rfl, rfl⟩ := h
  rw [List.length_eq_zero_iff, limbs_eq_nil]; omega

def GZ (w : World) (b : Bool) (n : Nat) (xs : List Nat) (e : Ending) (w' : World) : Prop :=
  ∃ A c, e = .returned (.agg #[.bool b, .slice A n c]) ∧ Mg w' A c xs ∧ Below w.heap.size w w'
def GZE (w : World) (b : Bool) (n : Nat) (xs : List Nat) (err : Int) (e : Ending) (w' : World) : Prop :=
  ∃ A c, e = .returned (.tuple #[.agg #[.bool b, .slice A n c], .int .i64 err]) ∧ Mg w' A c xs ∧ Below w.heap.size w w'
def GDM (w : World) (b : Bool) (n : Nat) (xs : List Nat) (b' : Bool) (n' : Nat) (xs' : List Nat) (err : Int) (e : Ending) (w' : World) : Prop :=
  ∃ A c B d, e = .returned (.tuple #[.agg #[.bool b, .slice A n c], .agg #[.bool b', .slice B n' d], .int .i64 err]) ∧ Mg w' A c xs ∧ Mg w' B d xs' ∧ Below w.heap.size w w'

section
variable {x y z r err : Int} {b b' b2 b3 : Bool} {n n' n2 n3 : Nat} {xs ys zs rs : List Nat} {A B : Option Addr} {c d : Nat} {w : World}
variable (hx : Iz x b n xs) (hy : Iz y b' n' ys)
include hx hy
section
variable (hz : Iz z b2 n2 zs) (he : fitE r = (z, err)) (ha : Mg w A c xs) (hb : Mg w B d ys) (fx : fits x) (fy : fits y)
include hz he ha hb fx fy
theorem Add_g (h : x + y = r) : Calls Tryd.prog 40 #[.agg #[.bool b, .slice A n c], .agg #[.bool b', .slice B n' d]] w (GZE w b2 n2 zs err) := by
  obtain ⟨rfl, rfl, rfl⟩ := hx; obtain ⟨rfl, rfl, rfl⟩ := hy; obtain ⟨rfl, rfl, rfl⟩ := hz; subst h
  have := Add_ok x y A B c d w ha hb fx fy; unfold RetF at this; rw [he] at this; exact this
theorem Sub_g (h : x - y = r) : Calls Tryd.prog 42 #[.agg #[.bool b, .slice A n c], .agg #[.bool b', .slice B n' d]] w (GZE w b2 n2 zs err) := by
  obtain ⟨rfl, rfl, rfl⟩ := hx; obtain ⟨rfl, rfl, rfl⟩ := hy; obtain ⟨rfl, rfl, rfl⟩ := hz; subst h
  have := Sub_ok x y A B c d w ha hb fx fy; unfold RetF at this; rw [he] at this; exact this
theorem Mul_g (h : x * y = r) : Calls Tryd.prog 27 #[.agg #[.bool b, .slice A n c], .agg #[.bool b', .slice B n' d]] w (GZE w b2 n2 zs err) := by
  obtain ⟨rfl, rfl, rfl⟩ := hx; obtain ⟨rfl, rfl, rfl⟩ := hy; obtain ⟨rfl, rfl, rfl⟩ := hz; subst h
  have := Mul_ok x y A B c d w ha hb fx fy; unfold RetF at this; rw [he] at this; exact this
end
theorem GCD_g (hz : Iz z b2 n2 zs) (ha : Mg w A c xs) (hb : Mg w B d ys) (fx : fits x) (fy : fits y) (h : ((Nat.gcd x.natAbs y.natAbs : Nat) : Int) = z) : Calls Tryd.prog 17 #[.agg #[.bool b, .slice A n c], .agg #[.bool b', .slice B n' d]] w (GZE w b2 n2 zs 0) := by
  obtain ⟨rfl, rfl, rfl⟩ := hx; obtain ⟨rfl, rfl, rfl⟩ := hy; obtain ⟨rfl, rfl, rfl⟩ := hz; subst h
  exact GCD_ok x y A B c d w ha hb fx fy
theorem Cmp_g (ha : Mg w A c xs) (hb : Mg w B d ys) (fx : fits x) (fy : fits y) (k : Int) (h : zord x y = k) : Calls Tryd.prog 44 #[.agg #[.bool b, .slice A n c], .agg #[.bool b', .slice B n' d]] w (RetI w k) := by
  obtain ⟨rfl, rfl, rfl⟩ := hx; obtain ⟨rfl, rfl, rfl⟩ := hy; subst h
  exact Cmp_ok x y A B c d w ha hb fx fy
theorem DivMod_g (hz : Iz z b2 n2 zs) (hr : Iz r b3 n3 rs) (ha : Mg w A c xs) (hb : Mg w B d ys) (fx : fits x) (fy : fits y) (h0 : y ≠ 0) (h : dmQ x y = z) (h2 : dmR x y = r) : Calls Tryd.prog 15 #[.agg #[.bool b, .slice A n c], .agg #[.bool b', .slice B n' d]] w (GDM w b2 n2 zs b3 n3 rs 0) := by
  obtain ⟨rfl, rfl, rfl⟩ := hx; obtain ⟨rfl, rfl, rfl⟩ := hy; obtain ⟨rfl, rfl, rfl⟩ := hz; obtain ⟨rfl, rfl, rfl⟩ := hr; subst h; subst h2
  exact DivMod_ok x y A B c d w ha hb fx fy h0
theorem Same_g (ha : Mg w A c xs) (hb : Mg w B d ys) (t : Bool) (h : decide (x = y) = t) : Calls Tryd.prog 19 #[.agg #[.bool b, .slice A n c], .agg #[.bool b', .slice B n' d]] w (RetB w t) := by
  obtain ⟨rfl, rfl, rfl⟩ := hx; obtain ⟨rfl, rfl, rfl⟩ := hy; subst h
  exact same_z x y A B c d w ha hb
end
section
variable {x z r err : Int} {b b2 : Bool} {n n2 : Nat} {xs zs : List Nat} {A : Option Addr} {c : Nat} {w : World}
theorem Valid_g (hx : Iz x b n xs) (ha : Mg w A c xs) (fx : fits x) : Calls Tryd.prog 29 #[.agg #[.bool b, .slice A n c]] w (RetB w true) := by
  obtain ⟨rfl, rfl, rfl⟩ := hx
  exact Valid_t ha fx
theorem Neg_g (hx : Iz x b n xs) (hz : Iz z b2 n2 zs) (ha : Mg w A c xs) (fx : fits x) (h : -x = z) : Calls Tryd.prog 43 #[.agg #[.bool b, .slice A n c]] w (GZ w b2 n2 zs) := by
  obtain ⟨rfl, rfl, rfl⟩ := hx; obtain ⟨rfl, rfl, rfl⟩ := hz; subst h
  exact Neg_ok x A c w ha fx
theorem Pow_g (hx : Iz x b n xs) (hz : Iz z b2 n2 zs) (N : Nat) (k : Int) (hk : k = N) (he : fitE r = (z, err)) (ha : Mg w A c xs) (fx : fits x) (hN : N ≤ 9223372036854775807) (h : x ^ N = r) : Calls Tryd.prog 21 #[.agg #[.bool b, .slice A n c], .int .i64 k] w (GZE w b2 n2 zs err) := by
  obtain ⟨rfl, rfl, rfl⟩ := hx; obtain ⟨rfl, rfl, rfl⟩ := hz; subst h; subst hk
  have := Pow_ok x N A c w ha fx hN; unfold RetF at this; rw [he] at this; exact this
theorem FromInt_g (hz : Iz z b2 n2 zs) (h1 : -9223372036854775808 ≤ z) (h2 : z ≤ 9223372036854775807) : Calls Tryd.prog 30 #[.int .i64 z] w (GZ w b2 n2 zs) := by
  obtain ⟨rfl, rfl, rfl⟩ := hz
  exact FromInt_ok z w h1 h2
theorem ToInt_g (hx : Iz x b n xs) (ha : Mg w A c xs) (fx : fits x) (k : Int) (h : toI x = (k, err)) : Calls Tryd.prog 31 #[.agg #[.bool b, .slice A n c]] w (RetIE w k err) := by
  obtain ⟨rfl, rfl, rfl⟩ := hx
  have := ToInt_ok x A c w ha fx; rw [h] at this; exact this
end
/-- the laws' examples hold in whatever world comes after w -/
def ExOk (w : World) : Prop := ∀ w1, Below w.heap.size w w1 → Calls Tryd.prog 20 #[] w1 (RetB w1 true)
end Go.Proofs.YtkfpcohdbbhmaaaDoor
