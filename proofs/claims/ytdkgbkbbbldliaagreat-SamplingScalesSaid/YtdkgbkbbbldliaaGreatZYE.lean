/- Integers: the walk of Pow. Conditions: none. -/
import Derived.Test.YtdkgbkbbbldliaaGreatZYC
import Derived.Test.YtdkgbkbbbldliaaGreatZNtA
import Derived.Laws.IdiomCopy
import Derived.Lib.EndianMore
import Derived.Lib.OthersKept
set_option linter.unusedVariables false
set_option linter.unusedSimpArgs false
namespace Go.Proofs.YtdkgbkbbbldliaaGreat
open Go.RowKit Big
theorem Dp {a b k j : Nat} (h1 : (limbs a).length ≤ k) (h2 : (limbs b).length ≤ j) : (limbs (a * b)).length ≤ k + j := by
 rw [K1] at *
 rw [Nat.pow_add]
 exact Nat.mul_lt_mul'' h1 h2
theorem Mg.grown {w w' : World} {A : Option Addr} {c : Nat} {xs : List Nat} {row : Option Nat} (h : Mg w A c xs) (hg : w.grownBy w' row) (hne : 0 < xs.length → ∀ p, A = some p → some p.block ≠ row) : Mg w' A c xs :=
 ⟨h.cap, h.max, h.ok, fun hl => by
  obtain ⟨b, o, e, hB, hc⟩ := h.rd hl
  exact ⟨b, o, e, Nat.lt_of_lt_of_le hB hg.size, fun j hj => (World.cell?_of_block (a := ⟨b, o + j, none⟩) (hg.block b hB (hne hl _ e))).trans (hc j hj)⟩⟩
theorem Za {α : Type} (f : α → Value) (w : World) (x : α) (t : TypeId) : Rd f (w.alloc (.cells #[f x] t)) (some ⟨w.heap.size, 0, none⟩) [x] :=
 Rd.of_blk (heap_alloc_new _ _) (fun j hj => by match j, hj with | 0, _ => rfl)
def okD (b : Nat) (l : List Int) : Prop := ∀ d ∈ l, 0 ≤ d ∧ d < (b : Int)
instance (b : Nat) (l : List Int) : Decidable (okD b l) := inferInstanceAs (Decidable (∀ d ∈ l, 0 ≤ d ∧ d < (b : Int)))
def Dz (na nb : Bool) (xs ys : List Nat) : Bool := decide (na = nb ∧ xs = ys)
def RetB (w : World) (b : Bool) (e : Ending) (w' : World) : Prop := e = .returned (.bool b) ∧ Below w.heap.size w w'
theorem boxes2 (w : World) (X Y : Array Value) (t u : TypeId) : (∀ i, ((w.alloc (.cells X t)).alloc (.cells Y u)).cell? ⟨w.heap.size, i, none⟩ = X[i]?) ∧ (∀ i, ((w.alloc (.cells X t)).alloc (.cells Y u)).cell? ⟨w.heap.size + 1, i, none⟩ = Y[i]?) := by
 obtain ⟨p1, p2, p3, p4, p7⟩ := Jl (w1 := (w.alloc (.cells X t)).alloc (.cells Y u)) (Below.refl _ _)
 exact ⟨p1, p3⟩
set_option maxHeartbeats 1000000 in
theorem Same_lens (na : Bool) (A B : Option Addr) (c d : Nat) (xs ys : List Nat) (w : World) (ha : Mg w A c xs) (hb : Mg w B d ys) (h : xs.length = ys.length) :
  Calls Tryz.prog 81 #[.agg #[.bool na, .slice A xs.length c], .agg #[.bool na, .slice B ys.length d]] w (RetB w (decide (xs = ys))) := by
 have m1 := ha.cap
 have m2 := ha.max
 have m3 := hb.cap
 have m4 := hb.max
 have hl1 : ((xs.length : Int) != (ys.length : Int)) = false := by simp [h]
 have HL := hid h
 clear h
 go_enter Tryz.func81, Tryz.ntmps81
 go_wp2
 go_loopw [5] (fun i wr => ∃ k : Nat, k ≤ xs.length ∧ i = .int .i64 k ∧ Below w.heap.size w wr ∧ wr.cell? ⟨w.heap.size, 0, none⟩ = some (.bool na) ∧ wr.cell? ⟨w.heap.size, 1, none⟩ = some (.slice A xs.length c) ∧ wr.cell? ⟨w.heap.size + 1, 0, none⟩ = some (.bool na) ∧ wr.cell? ⟨w.heap.size + 1, 1, none⟩ = some (.slice B ys.length d) ∧ Hid (xs.take k = ys.take k)) (fun i _ => xs.length - (intOf i).toNat)
 case atStart =>
  obtain ⟨p1, p2⟩ := boxes2 w #[.bool na, .slice A xs.length c] #[.bool na, .slice B ys.length d] 27 27
  exact ⟨0, Nat.zero_le _, rfl, BL, (p1 0).trans rfl, (p1 1).trans rfl, (p2 0).trans rfl, (p2 1).trans rfl, by unfold Hid; simp⟩
 case round =>
  obtain ⟨k, hk, rfl, hbl, p1, p2, p3, p4, heq⟩ := hrel
  by_cases h0 : k < xs.length
  ·have hk2 : k < ys.length := by have := HL.out; omega
   obtain ⟨ba, oa, rfl, hba, hca⟩ := ha.rd.at_ h0
   obtain ⟨bb, ob, rfl, hbb, hcb⟩ := hb.rd.at_ hk2
   have c1 := (hbl.cell (p := ⟨ba, oa + k, none⟩) hba).trans (hca k h0)
   have c2 := (hbl.cell (p := ⟨bb, ob + k, none⟩) hbb).trans (hcb k hk2)
   unfold lim at c1 c2
   clear hca hcb
   by_cases hlt : xs[k] = ys[k]
   ·have t1 : ((xs[k] : Int) != (ys[k] : Int)) = false := by simp [hlt]
    have he : Hid (xs.take (k + 1) = ys.take (k + 1)) := by
     unfold Hid
     rw [List.take_succ_eq_append_getElem h0, List.take_succ_eq_append_getElem hk2, heq.out, hlt]
    clear hlt
    go_wp2
    go_quiet (fail)
    go_wp2
    go_roundw
    case rel => exact ⟨k + 1, by omega, by go_num, (by repeat (first | exact hbl | refine Below.drew ?_ | refine Ki ?_ _ | refine Below.setCell ?_ (by exact Nat.le_refl _) _ | refine Below.alloc ?_ (by simp; omega) _)), p1, p2, p3, p4, he⟩
    case measure => simp [intOf]; omega
   ·have t1 : ((xs[k] : Int) != (ys[k] : Int)) = true := by rw [bne_iff_ne]; omega
    have hne : decide (xs = ys) = false := by
     rw [decide_eq_false_iff_not]
     rintro rfl
     exact hlt rfl
    have HN := hid hne
    clear hlt hne
    go_wp2
    go_quiet (fail)
    go_wp2
    go_ret
    exact ⟨by rw [HN.out]; rfl, (by repeat (first | exact hbl | refine Below.drew ?_ | refine Ki ?_ _ | refine Below.setCell ?_ (by exact Nat.le_refl _) _ | refine Below.alloc ?_ (by simp; omega) _))⟩
  ·obtain rfl : k = xs.length := by omega
   have hle : xs = ys := by
    have h1 := heq.out
    rw [List.take_length, HL.out, List.take_length] at h1
    exact h1
   have HE := hid hle
   clear hle
   go_wp2
   go_ret
   exact ⟨by rw [decide_eq_true HE.out]; rfl, hbl⟩
set_option maxHeartbeats 1000000 in
theorem Same_any (na nb : Bool) (A B : Option Addr) (c d : Nat) (xs ys : List Nat) (w : World) (ha : Mg w A c xs) (hb : Mg w B d ys) :
  Calls Tryz.prog 81 #[.agg #[.bool na, .slice A xs.length c], .agg #[.bool nb, .slice B ys.length d]] w (RetB w (Dz na nb xs ys)) := by
 by_cases h : xs.length = ys.length
 ·by_cases hn : na = nb
  ·subst hn
   have := Same_lens na A B c d xs ys w ha hb h
   have e : Dz na na xs ys = decide (xs = ys) := by simp [Dz]
   rw [e]
   exact this
  ·have e : Dz na nb xs ys = false := by simp [Dz, hn]
   rw [e]
   clear e ha hb h
   cases na <;> cases nb <;> simp at hn
   all_goals
    go_enter Tryz.func81, Tryz.ntmps81
    go_wp2
    go_ret
    exact ⟨rfl, BL⟩
 ·have e : Dz na nb xs ys = false := by
   unfold Dz
   rw [decide_eq_false_iff_not]
   rintro ⟨_, rfl⟩
   exact h rfl
  have hl1 : ((xs.length : Int) != (ys.length : Int)) = true := by rw [bne_iff_ne]; omega
  rw [e]
  clear e ha hb h
  cases na <;> cases nb
  all_goals
   go_enter Tryz.func81, Tryz.ntmps81
   go_wp2
   go_ret
   exact ⟨rfl, BL⟩
/-! ### cells of boxes over later worlds -/
theorem Ka {W w' : World} {g o : Nat} {v : Value} (h : Below W.heap.size W w') (hc : W.cell? ⟨g, o, none⟩ = some v) : w'.cell? ⟨g, o, none⟩ = some v := by
 have hg : g < W.heap.size := by
  rcases Nat.lt_or_ge g W.heap.size with h1 | h1
  ·exact h1
  ·simp [World.cell?, Array.getElem?_eq_none h1] at hc
 exact (h.cell (p := ⟨g, o, none⟩) hg).trans hc
theorem Kb {w V w' : World} (h0 : Below w.heap.size w V) (h : Below V.heap.size V w') : Below w.heap.size w w' := h0.trans (h.mono h0.size)
theorem Kd {W : World} {g o : Nat} {v : Value} (hc : W.cell? ⟨g, o, none⟩ = some v) : g < W.heap.size := by
 rcases Nat.lt_or_ge g W.heap.size with h1 | h1
 ·exact h1
 ·simp [World.cell?, Array.getElem?_eq_none h1] at hc
theorem Kk {W : World} {g o : Nat} {v : Value} {b : Obj} (hc : W.cell? ⟨g, o, none⟩ = some v) : (W.alloc b).cell? ⟨g, o, none⟩ = some v :=
 Ka ((Below.refl _ _).alloc (Nat.le_refl _) _) hc
theorem Kn {W : World} {g o : Nat} {v : Value} (hc : W.cell? ⟨g, o, none⟩ = some v) : W.drew.cell? ⟨g, o, none⟩ = some v := hc
theorem Kh {W : World} {g o k i : Nat} {v u : Value} (hne : k ≠ g) (hc : W.cell? ⟨g, o, none⟩ = some v) : (W.setCell ⟨k, i, none⟩ u).cell? ⟨g, o, none⟩ = some v := (Qc hne).trans hc
theorem K5 {W : World} {g : Nat} {a b : Value} {t : TypeId} (hg : g = W.heap.size) : (W.alloc (.cells #[a, b] t)).cell? ⟨g, 0, none⟩ = some a := by
 subst hg; exact (World.cell?_alloc_at _ _ _ _ rfl).trans rfl
theorem K7 {W : World} {g : Nat} {a b : Value} {t : TypeId} (hg : g = W.heap.size) : (W.alloc (.cells #[a, b] t)).cell? ⟨g, 1, none⟩ = some b := by
 subst hg; exact (World.cell?_alloc_at _ _ _ _ rfl).trans rfl
theorem Q6 {W : World} {g i : Nat} {v u : Value} (h : W.cell? ⟨g, i, none⟩ = some v) : (W.setCell ⟨g, i, none⟩ u).cell? ⟨g, i, none⟩ = some u := by
 simp [go_sem, h]
theorem K6 {W : World} {g i j : Nat} {v u : Value} (hne : i ≠ j) (hc : W.cell? ⟨g, j, none⟩ = some v) : (W.setCell ⟨g, i, none⟩ u).cell? ⟨g, j, none⟩ = some v := (K0 hne).trans hc
theorem Mg.alloc {W : World} {A : Option Addr} {c : Nat} {xs : List Nat} {b : Obj} (h : Mg W A c xs) : Mg (W.alloc b) A c xs := h.below ((Below.refl _ _).alloc (Nat.le_refl _) _)
theorem Mg.setB {W : World} {A : Option Addr} {c : Nat} {xs : List Nat} {g : Nat} {u : Value} (hv : W.cell? ⟨g, 0, none⟩ = some (.bool false)) (h : Mg W A c xs) : Mg (W.setCell ⟨g, 0, none⟩ u) A c xs := h.set_ g 0 _ u hv (by simp)
theorem Mg.setS {W : World} {A : Option Addr} {c : Nat} {xs : List Nat} {g : Nat} {u : Value} (hv : W.cell? ⟨g, 1, none⟩ = some (.slice none 0 0)) (h : Mg W A c xs) : Mg (W.setCell ⟨g, 1, none⟩ u) A c xs := h.set_ g 1 _ u hv (by simp)
theorem Ug {W : World} {g : Nat} {u : Value} (h : W.cell? ⟨g, 0, none⟩ = some (.bool false)) : (W.setCell ⟨g, 0, none⟩ u).cell? ⟨g, 0, none⟩ = some u := Q6 h
theorem Ui {W : World} {g : Nat} {u : Value} (h : W.cell? ⟨g, 1, none⟩ = some (.slice none 0 0)) : (W.setCell ⟨g, 1, none⟩ u).cell? ⟨g, 1, none⟩ = some u := Q6 h
theorem new1 {W w' : World} {a b : Value} {t : TypeId} (h : Below (W.alloc (.cells #[a, b] t)).heap.size (W.alloc (.cells #[a, b] t)) w') :
  w'.cell? ⟨W.heap.size, 0, none⟩ = some a ∧ w'.cell? ⟨W.heap.size, 1, none⟩ = some b := by
 obtain ⟨p, _, _⟩ := Ks h
 exact ⟨(p 0).trans rfl, (p 1).trans rfl⟩
theorem new2 {W w' : World} {a b c d : Value} {t u : TypeId} (h : Below ((W.alloc (.cells #[a, b] t)).alloc (.cells #[c, d] u)).heap.size ((W.alloc (.cells #[a, b] t)).alloc (.cells #[c, d] u)) w') :
  w'.cell? ⟨W.heap.size, 0, none⟩ = some a ∧ w'.cell? ⟨W.heap.size, 1, none⟩ = some b ∧ w'.cell? ⟨W.heap.size + 1, 0, none⟩ = some c ∧ w'.cell? ⟨W.heap.size + 1, 1, none⟩ = some d := by
 obtain ⟨p1, p2, p3, p4, p7⟩ := Jl h
 exact ⟨(p1 0).trans rfl, (p1 1).trans rfl, (p3 0).trans rfl, (p3 1).trans rfl⟩
/-- z's sign, number of limbs and limbs -/
structure Iz (z : Int) (b : Bool) (n : Nat) (xs : List Nat) : Prop where
 hb : b = decide (z < 0)
 hx : xs = limbs z.natAbs
 hn : n = xs.length
theorem iz (z : Int) : ∃ b n xs, Hid (Iz z b n xs) := ⟨_, _, _, rfl, rfl, rfl⟩
theorem Iz.le {z : Int} {b : Bool} {n : Nat} {xs : List Nat} (h : Iz z b n xs) (f : fits z) : n ≤ 512 := by
 obtain ⟨rfl, rfl, rfl⟩ := h; exact f
theorem Iz.zero {z : Int} {b : Bool} {n : Nat} {xs : List Nat} (h : Iz z b n xs) : n = 0 ↔ z = 0 := by
 obtain ⟨rfl, rfl, rfl⟩ := h
 rw [List.length_eq_zero_iff, Jp]; omega
def GZ (w : World) (b : Bool) (n : Nat) (xs : List Nat) (e : Ending) (w' : World) : Prop :=
 ∃ A c, e = .returned (.agg #[.bool b, .slice A n c]) ∧ Mg w' A c xs ∧ Below w.heap.size w w'
def GZE (w : World) (b : Bool) (n : Nat) (xs : List Nat) (err : Int) (e : Ending) (w' : World) : Prop :=
 ∃ A c, e = .returned (.tuple #[.agg #[.bool b, .slice A n c], .int .i64 err]) ∧ Mg w' A c xs ∧ Below w.heap.size w w'
def GDM (w : World) (b : Bool) (n : Nat) (xs : List Nat) (b' : Bool) (n' : Nat) (xs' : List Nat) (err : Int) (e : Ending) (w' : World) : Prop :=
 ∃ A c B d, e = .returned (.tuple #[.agg #[.bool b, .slice A n c], .agg #[.bool b', .slice B n' d], .int .i64 err]) ∧ Mg w' A c xs ∧ Mg w' B d xs' ∧ Below w.heap.size w w'
section
variable {x y z r err : Int} {b b' b2 b3 : Bool} {n n' n2 n3 : Nat} {xs ys zs rs : List Nat} {A B : Option Addr} {c d : Nat} {w : World}
variable (hx : Iz x b n xs) (hy : Iz y b' n' ys)
include hx hy
section
variable (hz : Iz z b2 n2 zs) (he : fitE r = (z, err)) (ha : Mg w A c xs) (hb : Mg w B d ys) (fx : fits x) (fy : fits y)
include hz he ha hb fx fy
theorem Add_g (h : x + y = r) : Calls Tryz.prog 97 #[.agg #[.bool b, .slice A n c], .agg #[.bool b', .slice B n' d]] w (GZE w b2 n2 zs err) := by
 obtain ⟨rfl, rfl, rfl⟩ := hx; obtain ⟨rfl, rfl, rfl⟩ := hy; obtain ⟨rfl, rfl, rfl⟩ := hz; subst h
 have := Add_ok x y A B c d w ha hb fx fy; unfold RetF at this; rw [he] at this; exact this
theorem Sub_g (h : x - y = r) : Calls Tryz.prog 155 #[.agg #[.bool b, .slice A n c], .agg #[.bool b', .slice B n' d]] w (GZE w b2 n2 zs err) := by
 obtain ⟨rfl, rfl, rfl⟩ := hx; obtain ⟨rfl, rfl, rfl⟩ := hy; obtain ⟨rfl, rfl, rfl⟩ := hz; subst h
 have := Sub_ok x y A B c d w ha hb fx fy; unfold RetF at this; rw [he] at this; exact this
theorem Mul_g (h : x * y = r) : Calls Tryz.prog 96 #[.agg #[.bool b, .slice A n c], .agg #[.bool b', .slice B n' d]] w (GZE w b2 n2 zs err) := by
 obtain ⟨rfl, rfl, rfl⟩ := hx; obtain ⟨rfl, rfl, rfl⟩ := hy; obtain ⟨rfl, rfl, rfl⟩ := hz; subst h
 have := Mul_ok x y A B c d w ha hb fx fy; unfold RetF at this; rw [he] at this; exact this
end
theorem GCD_g (hz : Iz z b2 n2 zs) (ha : Mg w A c xs) (hb : Mg w B d ys) (fx : fits x) (fy : fits y) (h : ((Nat.gcd x.natAbs y.natAbs : Nat) : Int) = z) : Calls Tryz.prog 148 #[.agg #[.bool b, .slice A n c], .agg #[.bool b', .slice B n' d]] w (GZE w b2 n2 zs 0) := by
 obtain ⟨rfl, rfl, rfl⟩ := hx; obtain ⟨rfl, rfl, rfl⟩ := hy; obtain ⟨rfl, rfl, rfl⟩ := hz; subst h
 exact GCD_ok x y A B c d w ha hb fx fy
theorem Cmp_g (ha : Mg w A c xs) (hb : Mg w B d ys) (fx : fits x) (fy : fits y) (k : Int) (h : zord x y = k) : Calls Tryz.prog 149 #[.agg #[.bool b, .slice A n c], .agg #[.bool b', .slice B n' d]] w (RetI w k) := by
 obtain ⟨rfl, rfl, rfl⟩ := hx; obtain ⟨rfl, rfl, rfl⟩ := hy; subst h
 exact Cmp_ok x y A B c d w ha hb fx fy
theorem Dh (hz : Iz z b2 n2 zs) (hr : Iz r b3 n3 rs) (ha : Mg w A c xs) (hb : Mg w B d ys) (fx : fits x) (fy : fits y) (h0 : y ≠ 0) (h : dmQ x y = z) (h2 : dmR x y = r) : Calls Tryz.prog 125 #[.agg #[.bool b, .slice A n c], .agg #[.bool b', .slice B n' d]] w (GDM w b2 n2 zs b3 n3 rs 0) := by
 obtain ⟨rfl, rfl, rfl⟩ := hx; obtain ⟨rfl, rfl, rfl⟩ := hy; obtain ⟨rfl, rfl, rfl⟩ := hz; obtain ⟨rfl, rfl, rfl⟩ := hr; subst h; subst h2
 exact DivMod_ok x y A B c d w ha hb fx fy h0
end
section
variable {x z r err : Int} {b b2 : Bool} {n n2 : Nat} {xs zs : List Nat} {A : Option Addr} {c : Nat} {w : World}
theorem Neg_g (hx : Iz x b n xs) (hz : Iz z b2 n2 zs) (ha : Mg w A c xs) (fx : fits x) (h : -x = z) : Calls Tryz.prog 123 #[.agg #[.bool b, .slice A n c]] w (GZ w b2 n2 zs) := by
 obtain ⟨rfl, rfl, rfl⟩ := hx; obtain ⟨rfl, rfl, rfl⟩ := hz; subst h
 exact Neg_ok x A c w ha fx
theorem Q7 (hz : Iz z b2 n2 zs) (h1 : -9223372036854775808 ≤ z) (h2 : z ≤ 9223372036854775807) : Calls Tryz.prog 75 #[.int .i64 z] w (GZ w b2 n2 zs) := by
 obtain ⟨rfl, rfl, rfl⟩ := hz
 exact FromInt_ok z w h1 h2
theorem ToInt_g (hx : Iz x b n xs) (ha : Mg w A c xs) (fx : fits x) (k : Int) (h : toI x = (k, err)) : Calls Tryz.prog 60 #[.agg #[.bool b, .slice A n c]] w (RetIE w k err) := by
 obtain ⟨rfl, rfl, rfl⟩ := hx
 have := ToInt_ok x A c w ha fx; rw [h] at this; exact this
end
def digit (x : UInt8) : Prop := 48 ≤ x.toNat ∧ x.toNat ≤ 57
instance (x : UInt8) : Decidable (digit x) := inferInstanceAs (Decidable (_ ∧ _))
end Go.Proofs.YtdkgbkbbbldliaaGreat
