/- Geometry in plain numbers: points, lines, boxes; what Cross, Through, Order, Overlap, Union, Hull and Area2 answer. Conditions: none. -/
import Derived.Test.YtglailcfgcdagaaGreatZNtA
set_option linter.unusedVariables false
set_option linter.unusedSimpArgs false
namespace Go.Proofs.YtglailcfgcdagaaGreat
open Go.RowKit Big
/-- a coordinate that is in range -/
def inP (p : Int × Int) : Bool := decide (-16777216 ≤ p.1 ∧ p.1 ≤ 16777216 ∧ -16777216 ≤ p.2 ∧ p.2 ≤ 16777216)
/-- the first error of points -/
def chkP (l : List (Int × Int)) : Int := if 4096 < l.length then 4 else if l.all inP then 0 else 3
def crsZ (o a b : Int × Int) : Int := (a.1 - o.1) * (b.2 - o.2) - (a.2 - o.2) * (b.1 - o.1)
/-- what Cross answers -/
def crsE (o a b : Int × Int) : Int × Int := if chkP [o, a, b] = 0 then (crsZ o a b, 0) else (0, chkP [o, a, b])
def sqZ (a b : Int × Int) : Int := (a.1 - b.1) * (a.1 - b.1) + (a.2 - b.2) * (a.2 - b.2)
/-- three points, turned so that they go clockwise -/
def turnP (a b c : Int × Int) : (Int × Int) × (Int × Int) × (Int × Int) := if crsZ a b c < 0 then (a, c, b) else (a, b, c)
/-- the first corner is opposite to the longest side -/
def ordP (a b c : Int × Int) : (Int × Int) × (Int × Int) × (Int × Int) :=
 if sqZ a c ≤ sqZ b c ∧ sqZ a b ≤ sqZ b c then turnP a b c else if sqZ a b ≤ sqZ a c then turnP b a c else turnP c b a
/-- what Order answers -/
def ordE (a b c : Int × Int) : ((Int × Int) × (Int × Int) × (Int × Int)) × Int :=
 if chkP [a, b, c] = 0 then (if crsZ a b c = 0 then (((0, 0), (0, 0), (0, 0)), 24) else (ordP a b c, 0)) else (((0, 0), (0, 0), (0, 0)), chkP [a, b, c])
/-- the divisor of a line's numbers, with its sign -/
def lnD (p q : Int) : Int := if p < 0 ∨ (p = 0 ∧ q < 0) then -(Int.gcd p q : Int) else (Int.gcd p q : Int)
def lnP (a b : Int × Int) : Int := (b.2 - a.2).tdiv (lnD (b.2 - a.2) (a.1 - b.1))
def lnQ (a b : Int × Int) : Int := (a.1 - b.1).tdiv (lnD (b.2 - a.2) (a.1 - b.1))
/-- what Through answers -/
def thrE (a b : Int × Int) : (Int × Int × Int) × Int :=
 if chkP [a, b] = 0 then (if a = b then ((0, 0, 0), 24) else ((lnP a b, lnQ a b, lnP a b * a.1 + lnQ a b * a.2), 0)) else ((0, 0, 0), chkP [a, b])
/-- a box: its corner and its sides -/
structure Bx where
 x : Int
 y : Int
 w : Int
 h : Int
deriving DecidableEq
def empZ (b : Bx) : Bool := decide (b.w < 1 ∨ b.h < 1 ∨ b.x < -1073741824 ∨ 1073741824 < b.x ∨ b.y < -1073741824 ∨ 1073741824 < b.y ∨ 1073741824 < b.w ∨ 1073741824 < b.h)
def noX : Bx := ⟨0, 0, 0, 0⟩
def btwZ (l t r b : Int) : Bx := ⟨l, t, r - l, b - t⟩
/-- what Overlap answers -/
def ovlE (a b : Bx) : Bx × Bool :=
 if empZ a || empZ b then (noX, false)
 else
  if (min (a.x + a.w) (b.x + b.w) - max a.x b.x < 1) ∨ (min (a.y + a.h) (b.y + b.h) - max a.y b.y < 1) then (noX, false)
  else (btwZ (max a.x b.x) (max a.y b.y) (min (a.x + a.w) (b.x + b.w)) (min (a.y + a.h) (b.y + b.h)), true)
/-- twice the signed area -/
def areaL (l : List (Int × Int)) : Int := ((List.range l.length).map fun i => (l.getD i (0, 0)).1 * (l.getD ((i + 1) % l.length) (0, 0)).2 - (l.getD ((i + 1) % l.length) (0, 0)).1 * (l.getD i (0, 0)).2).sum
/-- what Area2 answers -/
def areaE (l : List (Int × Int)) : Int × Int := if chkP l = 0 then (areaL l, 0) else (0, chkP l)
def cmpP (a b : Int × Int) : Int := if a.1 < b.1 then -1 else if b.1 < a.1 then 1 else if a.2 < b.2 then -1 else if b.2 < a.2 then 1 else 0
/-- of successive points that are the same only the first stays -/
def dedP : List (Int × Int) → List (Int × Int)
 | [] => []
 | a :: l => a :: (match l with | [] => [] | b :: r => if a = b then (dedP (b :: r)).tail else dedP (b :: r))
/-- the different points of a list, sorted -/
def sortP (l : List (Int × Int)) : List (Int × Int) := dedP (l.mergeSort fun x y => !decide (cmpP y x < 0))
/-- the stack of half, its top first, behind the loop that pops -/
def popP : List (Int × Int) → Int × Int → List (Int × Int)
 | b :: a :: r, p => if crsZ a b p ≤ 0 then popP (a :: r) p else b :: a :: r
 | r, _ => r
def pushP (r : List (Int × Int)) (p : Int × Int) : List (Int × Int) := p :: popP r p
def halfP (l : List (Int × Int)) : List (Int × Int) := (l.foldl pushP []).reverse
def hullP (l : List (Int × Int)) : List (Int × Int) :=
 if (sortP l).length = 1 then sortP l else (halfP (sortP l)).dropLast ++ (halfP (sortP l).reverse).dropLast
/-- what Hull answers -/
def hullE (l : List (Int × Int)) : List (Int × Int) × Int := if chkP l = 0 then (if l.length = 0 then ([], 5) else (hullP l, 0)) else ([], chkP l)
theorem chkP_3 {a b c : Int × Int} : chkP [a, b, c] = if inP a ∧ inP b ∧ inP c then 0 else 3 := by unfold chkP; simp
theorem chkP_2 {a b : Int × Int} : chkP [a, b] = if inP a ∧ inP b then 0 else 3 := by unfold chkP; simp
theorem inP_iff {p : Int × Int} : inP p = true ↔ -16777216 ≤ p.1 ∧ p.1 ≤ 16777216 ∧ -16777216 ≤ p.2 ∧ p.2 ≤ 16777216 := by unfold inP; simp
end Go.Proofs.YtglailcfgcdagaaGreat
/- Geometry in plain numbers: divisors, the numbers of a line. Conditions: none. -/
namespace Go.Proofs.YtglailcfgcdagaaGreat
open Go.RowKit Big
theorem igcd_step (a b : Int) : Int.gcd b (a.tmod b) = Int.gcd a b := by
 rw [Int.gcd, Int.gcd, Int.natAbs_tmod, Nat.gcd_comm, ← Nat.gcd_rec, Nat.gcd_comm]
theorem igcd_nil (a : Int) : (Int.gcd a 0 : Int) = max a (-a) := by
 rw [Int.gcd_zero_right]; omega
theorem tmod_lt_abs (a : Int) {b : Int} (h : b ≠ 0) : (a.tmod b).natAbs < b.natAbs := by
 rw [Int.natAbs_tmod]; exact Nat.mod_lt _ (by omega)
theorem igcd_pos {p q : Int} (h : ¬(p = 0 ∧ q = 0)) : 1 ≤ (Int.gcd p q : Int) := by
 have := Nat.pos_of_ne_zero (n := Int.gcd p q) (fun h0 => h (by rw [Int.gcd_eq_zero_iff] at h0; exact h0))
 omega
theorem igcd_le {p q k : Int} (h : ¬(p = 0 ∧ q = 0)) (hp : -k ≤ p ∧ p ≤ k) (hq : -k ≤ q ∧ q ≤ k) : (Int.gcd p q : Int) ≤ k := by
 by_cases h0 : p = 0
 ·have := Int.natAbs_dvd_natAbs.mpr (Int.gcd_dvd_right (a := p) (b := q))
  have := Nat.le_of_dvd (by omega) this
  omega
 ·have := Int.natAbs_dvd_natAbs.mpr (Int.gcd_dvd_left (a := p) (b := q))
  have := Nat.le_of_dvd (by omega) this
  omega
theorem lnD_ne {p q : Int} (h : ¬(p = 0 ∧ q = 0)) : lnD p q ≠ 0 := by
 have := igcd_pos h
 unfold lnD; split <;> omega
theorem pts_ne {a b : Int × Int} (h : a ≠ b) : ¬(b.2 - a.2 = 0 ∧ a.1 - b.1 = 0) := fun h0 => h (Prod.ext (by omega) (by omega))
theorem crs_swap (a b c : Int × Int) : crsZ a c b = -crsZ a b c := by unfold crsZ; grind
end Go.Proofs.YtglailcfgcdagaaGreat
/- Geometry in plain lists: the different points of a sorted list, one more at the end. Conditions: none. -/
namespace Go.Proofs.YtglailcfgcdagaaGreat
open Go.RowKit Big
theorem dedP_cons (a : Int × Int) (l : List (Int × Int)) : ∃ r, dedP (a :: l) = a :: r := by
 cases l with
 | nil => exact ⟨[], rfl⟩
 | cons b m => exact ⟨_, by simp only [dedP]; rfl⟩
theorem dedP_two (x y : Int × Int) (m : List (Int × Int)) : dedP (x :: y :: m) = x :: (if x = y then (dedP (y :: m)).tail else dedP (y :: m)) := by simp only [dedP]
theorem dedP_snoc : ∀ (l : List (Int × Int)) (a b : Int × Int), dedP (l ++ [a] ++ [b]) = if a = b then dedP (l ++ [a]) else dedP (l ++ [a]) ++ [b]
 | [], a, b => by
  show dedP [a, b] = if a = b then dedP [a] else dedP [a] ++ [b]
  rw [dedP_two]
  by_cases h : a = b
  ·rw [if_pos h, if_pos h]; rfl
  ·rw [if_neg h, if_neg h]; rfl
 | x :: l, a, b => by
  have ih := dedP_snoc l a b
  obtain ⟨y, m, hm⟩ : ∃ y m, l ++ [a] = y :: m := by
   cases l with
   | nil => exact ⟨a, [], rfl⟩
   | cons y m => exact ⟨y, m ++ [a], rfl⟩
  rw [show x :: l ++ [a] ++ [b] = x :: (l ++ [a] ++ [b]) by simp, show x :: l ++ [a] = x :: (l ++ [a]) by simp]
  rw [hm] at ih ⊢
  obtain ⟨r, hr⟩ := dedP_cons y m
  rw [show y :: m ++ [b] = y :: (m ++ [b]) by simp] at ih ⊢
  rw [dedP_two, dedP_two, ih]
  by_cases h : a = b
  ·rw [if_pos h, if_pos h]
  ·rw [if_neg h, if_neg h, hr]
   by_cases h2 : x = y
   ·rw [if_pos h2, if_pos h2]; rfl
   ·rw [if_neg h2, if_neg h2]; rfl
theorem dedP_le : ∀ l : List (Int × Int), (dedP l).length ≤ l.length
 | [] => Nat.le_refl _
 | [a] => Nat.le_refl _
 | a :: b :: r => by
  have ih := dedP_le (b :: r)
  rw [dedP_two]
  split
  ·simp at ih ⊢; omega
  ·simp at ih ⊢; omega
theorem dedP_take {L : List (Int × Int)} {i : Nat} (h : i + 1 < L.length) : dedP (L.take (i + 2)) = if L[i] = L[i + 1] then dedP (L.take (i + 1)) else dedP (L.take (i + 1)) ++ [L[i + 1]] := by
 rw [List.take_succ_eq_append_getElem h, List.take_succ_eq_append_getElem (show i < L.length by omega)]
 exact dedP_snoc _ _ _
theorem dedP_first {L : List (Int × Int)} (h : 0 < L.length) : dedP (L.take 1) = [L[0]] := by
 rw [List.take_succ_eq_append_getElem h]; rfl
end Go.Proofs.YtglailcfgcdagaaGreat
/- Convex geometry in plain numbers: what the chain of half is. Conditions: none. -/
namespace Go.Proofs.YtglailcfgcdagaaGreat
open Go.RowKit Big
/-- a comes before b: by X, then by Y -/
def lexP (a b : Int × Int) : Prop := a.1 < b.1 ∨ (a.1 = b.1 ∧ a.2 < b.2)
def leP (a b : Int × Int) : Prop := a.1 < b.1 ∨ (a.1 = b.1 ∧ a.2 ≤ b.2)
theorem leP_refl (a : Int × Int) : leP a a := Or.inr ⟨rfl, Int.le_refl _⟩
theorem lexP.le {a b : Int × Int} (h : lexP a b) : leP a b := by unfold lexP at h; unfold leP; omega
theorem lexP.trans {a b c : Int × Int} (h : lexP a b) (h2 : lexP b c) : lexP a c := by unfold lexP at *; omega
theorem leP.lt {a b c : Int × Int} (h : leP a b) (h2 : lexP b c) : lexP a c := by unfold leP lexP at *; omega
theorem leP.trans {a b c : Int × Int} (h : leP a b) (h2 : leP b c) : leP a c := by unfold leP at *; omega
theorem lex_total (a b : Int × Int) : leP a b ∨ lexP b a := by unfold leP lexP; omega
theorem lex_ne {a b : Int × Int} (h : lexP a b) : a ≠ b := fun e => by subst e; unfold lexP at h; omega
theorem lex_asymm {a b : Int × Int} (h : lexP a b) (h2 : leP b a) : False := by unfold leP lexP at *; omega
theorem leP_antisymm {a b : Int × Int} (h : leP a b) (h2 : leP b a) : a = b := by unfold leP at *; exact Prod.ext (by omega) (by omega)
theorem lex_of_ne {a b : Int × Int} (h : leP a b) (hn : a ≠ b) : lexP a b := by
 rcases lex_total b a with h2 | h2
 ·exact absurd (leP_antisymm h h2) hn
 ·exact h2
/-- a vector that points to the right, or straight down -/
def posV (x y : Int) : Prop := 0 < x ∨ (x = 0 ∧ 0 < y)
def nnV (x y : Int) : Prop := 0 < x ∨ (x = 0 ∧ 0 ≤ y)
theorem posV.nn {x y : Int} (h : posV x y) : nnV x y := by unfold posV at h; unfold nnV; omega
theorem vec_id (x1 y1 x2 y2 x3 y3 : Int) : (x1 * y3 - y1 * x3) * x2 = (x1 * y2 - y1 * x2) * x3 + (x2 * y3 - y2 * x3) * x1 := by grind
theorem vec_weak {x1 y1 x2 y2 x3 y3 : Int} (hu : nnV x1 y1) (hv : posV x2 y2) (hw : nnV x3 y3) (h1 : 0 ≤ x1 * y2 - y1 * x2) (h2 : 0 ≤ x2 * y3 - y2 * x3) : 0 ≤ x1 * y3 - y1 * x3 := by
 have hx1 : 0 ≤ x1 := by unfold nnV at hu; omega
 have hx3 : 0 ≤ x3 := by unfold nnV at hw; omega
 rcases hv with hv | ⟨hv, hv2⟩
 ·have hid := vec_id x1 y1 x2 y2 x3 y3
  have a1 := Int.mul_nonneg h1 hx3
  have a2 := Int.mul_nonneg h2 hx1
  by_cases hc : 0 ≤ x1 * y3 - y1 * x3
  ·exact hc
  ·have := Int.mul_neg_of_neg_of_pos (show x1 * y3 - y1 * x3 < 0 by omega) hv
   omega
 ·subst hv
  simp only [Int.mul_zero, Int.zero_mul, Int.sub_zero, Int.zero_sub] at h1 h2
  have h3 : x3 = 0 := by
   by_cases h : 0 < x3
   ·have := Int.mul_pos hv2 h; omega
   ·omega
  subst h3
  have hy3 : 0 ≤ y3 := by unfold nnV at hw; omega
  rw [Int.mul_zero, Int.sub_zero]
  exact Int.mul_nonneg hx1 hy3
theorem vec_strict {x1 y1 x2 y2 x3 y3 : Int} (hu : posV x1 y1) (hv : posV x2 y2) (hw : nnV x3 y3) (h1 : 0 ≤ x1 * y2 - y1 * x2) (h2 : 0 < x2 * y3 - y2 * x3) : 0 < x1 * y3 - y1 * x3 := by
 have hx1 : 0 ≤ x1 := by unfold posV at hu; omega
 have hx3 : 0 ≤ x3 := by unfold nnV at hw; omega
 rcases hv with hv | ⟨hv, hv2⟩
 ·have hid := vec_id x1 y1 x2 y2 x3 y3
  have a1 := Int.mul_nonneg h1 hx3
  have hx : 0 < x1 := by
   rcases hu with hu | ⟨hu, hu2⟩
   ·exact hu
   ·subst hu
    have := Int.mul_pos hu2 hv
    rw [Int.zero_mul] at h1
    omega
  have a2 := Int.mul_pos h2 hx
  by_cases hc : 0 < x1 * y3 - y1 * x3
  ·exact hc
  ·have := Int.mul_nonpos_of_nonpos_of_nonneg (show x1 * y3 - y1 * x3 ≤ 0 by omega) (Int.le_of_lt hv)
   omega
 ·subst hv
  rw [Int.zero_mul] at h2
  have := Int.mul_nonneg (Int.le_of_lt hv2) hx3
  omega
theorem posV_of {a b : Int × Int} (h : lexP a b) : posV (b.1 - a.1) (b.2 - a.2) := by unfold lexP at h; unfold posV; omega
theorem nnV_of {a b : Int × Int} (h : leP a b) : nnV (b.1 - a.1) (b.2 - a.2) := by unfold leP at h; unfold nnV; omega
/-- an angle to the left, and one more -/
theorem crs_chain {a b c p : Int × Int} (h1 : lexP a b) (h2 : lexP b c) (h3 : lexP c p) (k1 : 0 < crsZ a b c) (k2 : 0 < crsZ b c p) : 0 < crsZ a b p := by
 have e1 : (b.1 - a.1) * (c.2 - b.2) - (b.2 - a.2) * (c.1 - b.1) = crsZ a b c := by unfold crsZ; grind
 have e2 : (c.1 - b.1) * (p.2 - c.2) - (c.2 - b.2) * (p.1 - c.1) = crsZ b c p := by unfold crsZ; grind
 have := vec_strict (posV_of h1) (posV_of h2) (posV_of h3).nn (by omega) (by omega)
 have e : crsZ a b p = crsZ a b c + ((b.1 - a.1) * (p.2 - c.2) - (b.2 - a.2) * (p.1 - c.1)) := by unfold crsZ; grind
 omega
/-- popping: a point between a and t -/
theorem crs_pop1 {a t p s : Int × Int} (h1 : lexP a t) (h2 : lexP a p) (h3 : leP a s) (k1 : crsZ a t p ≤ 0) (k2 : 0 ≤ crsZ a t s) : 0 ≤ crsZ a p s := by
 have := vec_weak (posV_of h2).nn (posV_of h1) (nnV_of h3) (by unfold crsZ at k1; grind) (by unfold crsZ at k2; exact k2)
 unfold crsZ; exact this
/-- popping: a point behind t -/
theorem crs_pop2 {a t p s : Int × Int} (h1 : lexP a t) (h2 : lexP t p) (h3 : lexP s p) (k1 : crsZ a t p ≤ 0) (k2 : 0 ≤ crsZ t p s) : 0 ≤ crsZ a p s := by
 have e1 : (p.1 - s.1) * (p.2 - t.2) - (p.2 - s.2) * (p.1 - t.1) = crsZ t p s := by unfold crsZ; grind
 have e2 : (p.1 - t.1) * (t.2 - a.2) - (p.2 - t.2) * (t.1 - a.1) = -crsZ a t p := by unfold crsZ; grind
 have := vec_weak (posV_of h3).nn (posV_of h2) (posV_of h1).nn (by omega) (by omega)
 have e : crsZ a p s = ((p.1 - s.1) * (t.2 - a.2) - (p.2 - s.2) * (t.1 - a.1)) + crsZ t p s := by unfold crsZ; grind
 omega
/-- a point before the new edge -/
theorem crs_back {a t p s : Int × Int} (h1 : lexP a t) (h2 : lexP t p) (h3 : lexP s t) (k1 : 0 < crsZ a t p) (k2 : 0 ≤ crsZ a t s) : 0 < crsZ t p s := by
 have e1 : (t.1 - s.1) * (t.2 - a.2) - (t.2 - s.2) * (t.1 - a.1) = crsZ a t s := by unfold crsZ; grind
 have e2 : (t.1 - a.1) * (p.2 - t.2) - (t.2 - a.2) * (p.1 - t.1) = crsZ a t p := by unfold crsZ; grind
 have := vec_strict (posV_of h3) (posV_of h1) (posV_of h2).nn (by omega) (by omega)
 have e : crsZ t p s = (t.1 - s.1) * (p.2 - t.2) - (t.2 - s.2) * (p.1 - t.1) := by unfold crsZ; grind
 omega
theorem crs_self1 (a b : Int × Int) : crsZ a b a = 0 := by unfold crsZ; grind
theorem crs_self2 (a b : Int × Int) : crsZ a b b = 0 := by unfold crsZ; grind
/-- an edge below which no point of S lies; those on it lie between its ends -/
def Edge (S : List (Int × Int)) (a b : Int × Int) : Prop := lexP a b ∧ ∀ s ∈ S, 0 ≤ crsZ a b s ∧ (crsZ a b s = 0 → leP a s ∧ leP s b)
/-- the edges of a stack, its top first -/
def Edges (S : List (Int × Int)) : List (Int × Int) → Prop
 | b :: a :: r => Edge S a b ∧ Edges S (a :: r)
 | _ => True
def Conv : List (Int × Int) → Prop
 | c :: b :: a :: r => 0 < crsZ a b c ∧ Conv (b :: a :: r)
 | _ => True
theorem Conv.tail {t : Int × Int} {r : List (Int × Int)} (h : Conv (t :: r)) : Conv r := by
 cases r with
 | nil => trivial
 | cons b r =>
  cases r with
  | nil => trivial
  | cons a r => exact h.2
theorem Edges.tail {S : List (Int × Int)} {t : Int × Int} {r : List (Int × Int)} (h : Edges S (t :: r)) : Edges S r := by
 cases r with
 | nil => trivial
 | cons b r => exact h.2
/-- the old edges stay edges -/
theorem edges_up {S : List (Int × Int)} {p : Int × Int} : ∀ (r : List (Int × Int)) (b a : Int × Int), Edges S (b :: a :: r) → Conv (b :: a :: r) → 0 < crsZ a b p → lexP b p → Edges (S ++ [p]) (b :: a :: r)
 | r, b, a, hE, hC, hk, hl => by
  refine ⟨⟨hE.1.1, fun s hs => ?_⟩, ?_⟩
  ·rcases List.mem_append.1 hs with hs | hs
   ·exact hE.1.2 s hs
   ·obtain rfl := List.mem_singleton.1 hs
    exact ⟨Int.le_of_lt hk, fun e => by omega⟩
  ·cases r with
   | nil => trivial
   | cons a2 r => exact edges_up r a a2 hE.2 hC.2 (crs_chain hE.2.1.1 hE.1.1 hl hC.1 hk) (hE.1.1.trans hl)
/-- what stays on the stack behind the pops -/
structure Popped (S : List (Int × Int)) (p : Int × Int) (r : List (Int × Int)) : Prop where
 ex : ∃ t r', r = t :: r' ∧ (∀ s ∈ S, leP t s → 0 ≤ crsZ t p s) ∧ (∀ a r'', r' = a :: r'' → 0 < crsZ a t p)
 edges : Edges S r
 conv : Conv r
 sub : ∀ s ∈ r, s ∈ S
 bot : ∀ s ∈ S, ∃ b, r.getLast? = some b ∧ leP b s
theorem popped {S : List (Int × Int)} {p : Int × Int} (hp : ∀ s ∈ S, lexP s p) : ∀ (r' : List (Int × Int)) (t : Int × Int),
  (∀ s ∈ S, leP t s → 0 ≤ crsZ t p s) → Edges S (t :: r') → Conv (t :: r') → (∀ s ∈ t :: r', s ∈ S) → (∀ s ∈ S, ∃ b, (t :: r').getLast? = some b ∧ leP b s) → Popped S p (popP (t :: r') p)
 | [], t, hT, hE, hC, hs, hb => by
  unfold popP
  exact ⟨⟨t, [], rfl, hT, fun a r h => by cases h⟩, hE, hC, hs, hb⟩
 | a :: r, t, hT, hE, hC, hs, hb => by
  unfold popP
  by_cases hk : crsZ a t p ≤ 0
  ·rw [if_pos hk]
   refine popped hp r a (fun s hs2 hl => ?_) hE.2 hC.tail (fun s h => hs s (List.mem_cons_of_mem _ h)) (fun s h => ?_)
   ·rcases lex_total t s with h | h
    ·exact crs_pop2 hE.1.1 (hp t (hs t (List.mem_cons_self ..))) (hp s hs2) hk (hT s hs2 h)
    ·exact crs_pop1 hE.1.1 (hE.1.1.trans (hp t (hs t (List.mem_cons_self ..)))) hl hk (hE.1.2 s hs2).1
   ·obtain ⟨b, h1, h2⟩ := hb s h
    exact ⟨b, by rw [← h1, List.getLast?_cons_cons], h2⟩
  ·rw [if_neg hk]
   exact ⟨⟨t, a :: r, rfl, hT, fun a2 r2 h => by injection h with h1 h2; subst h1; omega⟩, hE, hC, hs, hb⟩
/-- the stack of half behind the points S -/
structure Stk (S r : List (Int × Int)) : Prop where
 top : r.head? = S.getLast?
 bot : r.getLast? = S.head?
 edges : Edges S r
 conv : Conv r
 sub : ∀ s ∈ r, s ∈ S
theorem stk_push {S r : List (Int × Int)} {p : Int × Int} (h : Stk S r) (hs : S.Pairwise lexP) (hp : ∀ s ∈ S, lexP s p) : Stk (S ++ [p]) (pushP r p) := by
 cases S with
 | nil =>
  have h1 := h.top
  cases r with
  | nil => exact ⟨rfl, rfl, trivial, trivial, fun s hs => hs⟩
  | cons t r => simp at h1
 | cons q S =>
  cases r with
  | nil => have h1 := h.bot; simp at h1
  | cons t r' =>
   have hlast : ∀ s ∈ q :: S, leP s t := by
    have h1 := h.top
    simp only [List.head?_cons] at h1
    obtain ⟨ys, hy⟩ := List.getLast?_eq_some_iff.1 h1.symm
    intro s hs2
    rw [hy] at hs hs2
    rcases List.mem_append.1 hs2 with h2 | h2
    ·exact ((List.pairwise_append.1 hs).2.2 s h2 t (List.mem_singleton_self t)).le
    ·obtain rfl := List.mem_singleton.1 h2; exact leP_refl _
   have hfirst : ∀ s ∈ q :: S, leP q s := fun s hs2 => by
    rcases List.mem_cons.1 hs2 with rfl | h2
    ·exact leP_refl _
    ·exact ((List.pairwise_cons.1 hs).1 s h2).le
   have hP := popped hp r' t (fun s hs2 hl => by
    have e := leP_antisymm hl (hlast s hs2)
    subst e
    rw [crs_self1]; omega) h.edges h.conv h.sub (fun s hs2 => ⟨q, h.bot, hfirst s hs2⟩)
   obtain ⟨t2, r2, e2, hT2, hk2⟩ := hP.ex
   have hbl : (popP (t :: r') p).getLast? = some q := by
    obtain ⟨b, hb1, hb2⟩ := hP.bot q (List.mem_cons_self ..)
    have hbm : b ∈ q :: S := hP.sub b (List.mem_of_getLast? hb1)
    rw [hb1, leP_antisymm hb2 (hfirst b hbm)]
   have hpe := hP.edges
   have hpc := hP.conv
   have hps := hP.sub
   unfold pushP
   rw [e2] at hbl hpe hpc hps ⊢
   have ht2 : lexP t2 p := hp t2 (hps t2 (List.mem_cons_self ..))
   refine ⟨by rw [List.getLast?_concat]; rfl, by rw [List.getLast?_cons_cons, hbl]; rfl, ?_, ?_, ?_⟩
   ·refine ⟨⟨ht2, fun s hs2 => ?_⟩, ?_⟩
    ·rcases List.mem_append.1 hs2 with h3 | h3
     ·rcases lex_total t2 s with h4 | h4
      ·exact ⟨hT2 s h3 h4, fun _ => ⟨h4, (hp s h3).le⟩⟩
      ·cases r2 with
       | nil =>
        simp only [List.getLast?_singleton, Option.some.injEq] at hbl
        subst hbl
        exact (lex_asymm h4 (hfirst s h3)).elim
       | cons a r3 =>
        have h5 := crs_back hpe.1.1 ht2 h4 (hk2 a r3 rfl) (hpe.1.2 s h3).1
        exact ⟨Int.le_of_lt h5, fun e => by omega⟩
     ·obtain rfl := List.mem_singleton.1 h3
      rw [crs_self2]
      exact ⟨Int.le_refl _, fun _ => ⟨ht2.le, leP_refl _⟩⟩
    ·cases r2 with
     | nil => trivial
     | cons a r3 => exact edges_up r3 t2 a hpe hpc (hk2 a r3 rfl) ht2
   ·cases r2 with
    | nil => trivial
    | cons a r3 => exact ⟨hk2 a r3 rfl, hpc⟩
   ·intro s hs2
    rcases List.mem_cons.1 hs2 with rfl | h3
    ·exact List.mem_append_right _ (List.mem_singleton_self _)
    ·exact List.mem_append_left _ (hps s h3)
theorem stk_fold : ∀ (T S r : List (Int × Int)), Stk S r → (S ++ T).Pairwise lexP → Stk (S ++ T) (T.foldl pushP r)
 | [], S, r, h, _ => by simpa using h
 | p :: T, S, r, h, hs => by
  have h1 := List.pairwise_append.1 hs
  have := stk_fold T (S ++ [p]) (pushP r p) (stk_push h h1.1 fun s h2 => h1.2.2 s h2 p (List.mem_cons_self ..)) (by simpa using hs)
  simpa using this
theorem stk_half {S : List (Int × Int)} (hs : S.Pairwise lexP) : Stk S (S.foldl pushP []) := by
 have := stk_fold S [] [] ⟨rfl, rfl, trivial, trivial, fun s h => h⟩ (by simpa using hs)
 simpa using this
end Go.Proofs.YtglailcfgcdagaaGreat
/- Convex geometry in plain lists: the hull as a round of edges. Conditions: none. -/
namespace Go.Proofs.YtglailcfgcdagaaGreat
open Go.RowKit Big
/-- successive elements stand in R -/
def links {α : Type} (R : α → α → Prop) : List α → Prop
 | a :: b :: l => R a b ∧ links R (b :: l)
 | _ => True
theorem links_mono {α : Type} {R R' : α → α → Prop} (h : ∀ a b, R a b → R' a b) : ∀ l : List α, links R l → links R' l
 | [], _ => trivial
 | [_], _ => trivial
 | a :: b :: l, hl => ⟨h a b hl.1, links_mono h (b :: l) hl.2⟩
theorem links_snoc {α : Type} {R : α → α → Prop} {a b : α} : ∀ l : List α, links R (l ++ [a]) → R a b → links R (l ++ [a] ++ [b])
 | [], _, h => ⟨h, trivial⟩
 | [x], hl, h => ⟨hl.1, h, trivial⟩
 | x :: y :: l, hl, h => ⟨hl.1, links_snoc (y :: l) hl.2 h⟩
theorem links_join {α : Type} {R : α → α → Prop} {a : α} {m : List α} (hm : links R (a :: m)) : ∀ l : List α, links R (l ++ [a]) → links R (l ++ a :: m)
 | [], _ => hm
 | [x], hl => ⟨hl.1, hm⟩
 | x :: y :: l, hl => ⟨hl.1, links_join hm (y :: l) hl.2⟩
theorem links_map {α β : Type} {R : α → α → Prop} {R' : β → β → Prop} {f : β → α} (h : ∀ a b, R (f a) (f b) → R' a b) : ∀ l : List β, links R (l.map f) → links R' l
 | [], _ => trivial
 | [_], _ => trivial
 | a :: b :: l, hl => ⟨h a b hl.1, links_map h (b :: l) hl.2⟩
theorem links_get {α : Type} {R : α → α → Prop} : ∀ {l : List α}, links R l → ∀ j (h : j + 1 < l.length), R l[j] l[j + 1]
 | [], _, j, h => by simp at h
 | [_], _, j, h => by simp at h
 | a :: b :: l, hl, 0, _ => hl.1
 | a :: b :: l, hl, j + 1, h => links_get (l := b :: l) hl.2 j (by simpa using h)
theorem links_rev_edges {S : List (Int × Int)} : ∀ r : List (Int × Int), Edges S r → links (Edge S) r.reverse
 | [], _ => trivial
 | [_], _ => trivial
 | b :: a :: r, h => by
  have ih := links_rev_edges (a :: r) h.2
  simp only [List.reverse_cons] at ih ⊢
  exact links_snoc _ ih h.1
theorem links_lex : ∀ l : List (Int × Int), links lexP l → l.Pairwise lexP
 | [], _ => List.Pairwise.nil
 | [_], _ => by simp
 | a :: b :: l, h => by
  have ih := links_lex (b :: l) h.2
  refine List.pairwise_cons.2 ⟨fun s hs => ?_, ih⟩
  rcases List.mem_cons.1 hs with rfl | hs
  ·exact h.1
  ·exact h.1.trans ((List.pairwise_cons.1 ih).1 s hs)
/-- what half answers at sorted points -/
structure HalfOf (S h : List (Int × Int)) : Prop where
 first : h.head? = S.head?
 last : h.getLast? = S.getLast?
 edges : links (Edge S) h
 sorted : h.Pairwise lexP
 sub : ∀ s ∈ h, s ∈ S
theorem half_of {S : List (Int × Int)} (hs : S.Pairwise lexP) : HalfOf S (halfP S) := by
 have h := stk_half hs
 have he := links_rev_edges _ h.edges
 exact ⟨by rw [halfP, List.head?_reverse, h.bot], by rw [halfP, List.getLast?_reverse, h.top], he, links_lex _ (links_mono (fun a b h => h.1) _ he), fun s hs2 => h.sub s (by rw [halfP] at hs2; exact List.mem_reverse.1 hs2)⟩
/-- the point on the other side -/
def negP (p : Int × Int) : Int × Int := (-p.1, -p.2)
theorem neg_neg (p : Int × Int) : negP (negP p) = p := by unfold negP; simp
theorem crs_neg (a b c : Int × Int) : crsZ (negP a) (negP b) (negP c) = crsZ a b c := by unfold crsZ negP; grind
theorem sq_neg (a b : Int × Int) : sqZ (negP a) (negP b) = sqZ a b := by unfold sqZ negP; grind
theorem lex_neg {a b : Int × Int} : lexP (negP a) (negP b) ↔ lexP b a := by unfold lexP negP; omega
theorem le_neg {a b : Int × Int} : leP (negP a) (negP b) ↔ leP b a := by unfold leP negP; omega
theorem pop_neg : ∀ (r : List (Int × Int)) (p : Int × Int), popP (r.map negP) (negP p) = (popP r p).map negP
 | [], p => rfl
 | [_], p => rfl
 | b :: a :: r, p => by
  have ih := pop_neg (a :: r) p
  simp only [List.map_cons] at ih ⊢
  unfold popP
  rw [crs_neg, ih]
  split <;> rfl
theorem fold_neg : ∀ (S r : List (Int × Int)), (S.map negP).foldl pushP (r.map negP) = (S.foldl pushP r).map negP
 | [], r => rfl
 | p :: S, r => by
  have ih := fold_neg S (pushP r p)
  simp only [List.map_cons, List.foldl_cons]
  rw [← ih]
  unfold pushP
  rw [pop_neg]; rfl
theorem half_neg (S : List (Int × Int)) : halfP (S.map negP) = (halfP S).map negP := by
 unfold halfP
 have := fold_neg S []
 simp only [List.map_nil] at this
 rw [this, List.map_reverse]
/-- q follows p: no point lies on the other side, and those on the line lie between p and q -/
def NextP (l : List (Int × Int)) (p q : Int × Int) : Prop :=
 q ∈ l ∧ q ≠ p ∧ ∀ s ∈ l, 0 ≤ crsZ p q s ∧ (crsZ p q s = 0 → (leP p s ∧ leP s q) ∨ (leP q s ∧ leP s p))
/-- a round of edges that begins with the first point -/
structure HullOf (l h : List (Int × Int)) : Prop where
 ex : ∃ f h', h = f :: h' ∧ f ∈ l ∧ (∀ s ∈ l, leP f s) ∧ (∀ s ∈ h', s ≠ f) ∧ links (NextP l) (h ++ [f])
theorem links_and {α : Type} {R : α → α → Prop} {M : α → Prop} : ∀ l : List α, links R l → (∀ s ∈ l, M s) → links (fun a b => R a b ∧ M b) l
 | [], _, _ => trivial
 | [_], _, _ => trivial
 | a :: b :: l, h, hm => ⟨⟨h.1, hm b (by simp)⟩, links_and (b :: l) h.2 fun s hs => hm s (List.mem_cons_of_mem _ hs)⟩
theorem hull_two {S : List (Int × Int)} (hs : S.Pairwise lexP) (h2 : 2 ≤ S.length) : HullOf S ((halfP S).dropLast ++ (halfP S.reverse).dropLast) := by
 have hA := half_of hs
 have hr : (S.reverse.map negP).Pairwise lexP := by
  rw [List.pairwise_map, List.pairwise_reverse]
  exact hs.imp fun h => lex_neg.2 h
 have hB := half_of hr
 rw [half_neg] at hB
 generalize halfP S = A at hA ⊢
 generalize halfP S.reverse = B at hB ⊢
 obtain ⟨f, z, m, rfl⟩ : ∃ f z m, S = f :: (m ++ [z]) := by
  cases S with
  | nil => simp at h2
  | cons f S =>
   rcases List.eq_nil_or_concat S with rfl | ⟨m, z, rfl⟩
   ·simp at h2
   ·exact ⟨f, z, m, by simp⟩
 have hfz : lexP f z := (List.pairwise_cons.1 hs).1 z (by simp)
 have el : (f :: (m ++ [z])).getLast? = some z := List.getLast?_concat (l := f :: m)
 have hA1 := hA.first
 have hA2 := hA.last
 have hB1 := hB.first
 have hB2 := hB.last
 rw [List.head?_cons] at hA1
 rw [el] at hA2
 rw [List.head?_map, List.head?_map, List.head?_reverse, el, Option.map_some] at hB1
 rw [List.getLast?_map, List.getLast?_map, List.getLast?_reverse, List.head?_cons, Option.map_some] at hB2
 obtain ⟨b1, hB3, hb1⟩ := Option.map_eq_some_iff.1 hB1
 obtain ⟨b2, hB4, hb2⟩ := Option.map_eq_some_iff.1 hB2
 clear hB1 hB2
 have hb1 : b1 = z := by rw [← neg_neg b1, hb1, neg_neg]
 have hb2 : b2 = f := by rw [← neg_neg b2, hb2, neg_neg]
 subst hb1 hb2
 obtain ⟨A1, rfl⟩ := List.getLast?_eq_some_iff.1 hA2
 obtain ⟨B1, rfl⟩ := List.getLast?_eq_some_iff.1 hB4
 rw [List.dropLast_concat, List.dropLast_concat]
 cases A1 with
 | nil =>
  simp at hA1
  exact absurd hA1.symm (lex_ne hfz)
 | cons a A1 =>
  simp at hA1
  subst hA1
  cases B1 with
  | nil =>
   simp at hB3
   exact absurd hB3 (lex_ne hfz)
  | cons b B1 =>
   simp at hB3
   subst hB3
   have hff : ∀ s ∈ a :: (m ++ [b]), leP a s := fun s h => by
    rcases List.mem_cons.1 h with rfl | h
    ·exact leP_refl _
    ·exact ((List.pairwise_cons.1 hs).1 s h).le
   refine ⟨a, A1 ++ b :: B1, by simp, by simp, hff, ?_, ?_⟩
   ·intro s h
    rcases List.mem_append.1 h with h | h
    ·have := hA.sorted
     simp only [List.cons_append] at this
     exact fun e => lex_ne ((List.pairwise_cons.1 this).1 s (List.mem_append_left _ h)) e.symm
    ·have := hB.sorted
     rw [List.map_append] at this
     have := (List.pairwise_append.1 this).2.2 (negP s) (List.mem_map_of_mem h) (negP a) (by simp)
     exact fun e => lex_ne (lex_neg.1 this) e.symm
   ·have lA : links (NextP (a :: (m ++ [b]))) (a :: A1 ++ [b]) := by
     refine links_mono ?_ _ (links_and _ hA.edges hA.sub)
     rintro p q ⟨⟨h3, h4⟩, h5⟩
     exact ⟨h5, (lex_ne h3).symm, fun s hs3 => ⟨(h4 s hs3).1, fun e => Or.inl ((h4 s hs3).2 e)⟩⟩
    have lB : links (NextP (a :: (m ++ [b]))) (b :: B1 ++ [a]) := by
     refine links_map (R := fun p q => Edge ((a :: (m ++ [b])).reverse.map negP) p q ∧ q ∈ (a :: (m ++ [b])).reverse.map negP) (f := negP) ?_ _ (links_and _ hB.edges hB.sub)
     rintro p q ⟨⟨h3, h4⟩, h5⟩
     have hm : ∀ s, negP s ∈ (a :: (m ++ [b])).reverse.map negP ↔ s ∈ a :: (m ++ [b]) := fun s => by
      rw [List.mem_map]
      constructor
      ·rintro ⟨x, hx, he⟩
       have : x = s := by rw [← neg_neg x, he, neg_neg]
       subst this
       exact List.mem_reverse.1 hx
      ·exact fun hx => ⟨s, List.mem_reverse.2 hx, rfl⟩
     refine ⟨(hm q).1 h5, fun e => lex_ne (lex_neg.1 h3) e, fun s hs3 => ?_⟩
     have := h4 (negP s) ((hm s).2 hs3)
     rw [crs_neg, le_neg, le_neg] at this
     exact ⟨this.1, fun e => Or.inr ⟨(this.2 e).2, (this.2 e).1⟩⟩
    have := links_join (l := a :: A1) (m := B1 ++ [a]) lB lA
    simpa using this
end Go.Proofs.YtglailcfgcdagaaGreat
/- Convex geometry in plain lists: the reference's way around the hull, and its agreement with the chains. Conditions: none. -/
namespace Go.Proofs.YtglailcfgcdagaaGreat
open Go.RowKit Big
theorem sq_abs {x y : Int} (h : x.natAbs ≤ y.natAbs) : x * x ≤ y * y := by
 rw [← Int.natAbs_mul_self' x, ← Int.natAbs_mul_self' y]
 exact_mod_cast Nat.mul_le_mul h h
theorem sq_abs_lt {x y : Int} (h : x.natAbs < y.natAbs) : x * x < y * y := by
 rw [← Int.natAbs_mul_self' x, ← Int.natAbs_mul_self' y]
 exact_mod_cast Nat.mul_self_lt_mul_self h
theorem far_in {p q s : Int × Int} (hc : crsZ p q s = 0) (h1 : leP p s) (h2 : leP s q) (hn : s ≠ q) : sqZ p s < sqZ p q := by
 have e : (q.1 - p.1) * (s.2 - p.2) = (q.2 - p.2) * (s.1 - p.1) := by unfold crsZ at hc; omega
 have e1 : sqZ p s = (s.1 - p.1) * (s.1 - p.1) + (s.2 - p.2) * (s.2 - p.2) := by unfold sqZ; grind
 have e2 : sqZ p q = (q.1 - p.1) * (q.1 - p.1) + (q.2 - p.2) * (q.2 - p.2) := by unfold sqZ; grind
 have hne : ¬(s.1 = q.1 ∧ s.2 = q.2) := fun h => hn (Prod.ext h.1 h.2)
 rw [e1, e2]
 unfold leP at h1 h2
 have r0 : 0 ≤ q.1 - p.1 := by omega
 have r1 : 0 ≤ s.1 - p.1 := by omega
 have r2 : s.1 - p.1 ≤ q.1 - p.1 := by omega
 have r3 : q.1 - p.1 = 0 → 0 ≤ s.2 - p.2 ∧ s.2 - p.2 < q.2 - p.2 := by omega
 have r4 : s.1 - p.1 = q.1 - p.1 → s.2 - p.2 ≠ q.2 - p.2 := by omega
 generalize q.1 - p.1 = X at *
 generalize q.2 - p.2 = Y at *
 generalize s.1 - p.1 = x at *
 generalize s.2 - p.2 = y at *
 by_cases hX : X = 0
 ·obtain ⟨h3, h4⟩ := r3 hX
  obtain rfl : x = 0 := by omega
  subst hX
  have := sq_abs_lt (x := y) (y := Y) (by omega)
  omega
 ·have hxl : x < X := by
   by_cases hx : x = X
   ·subst hx
    have : y = Y := by
     rw [Int.mul_comm Y x] at e
     exact Int.eq_of_mul_eq_mul_left hX e
    exact absurd this (r4 rfl)
   ·omega
  have h3 := sq_abs_lt (x := x) (y := X) (by omega)
  have h4 : y.natAbs ≤ Y.natAbs := by
   have e3 := congrArg Int.natAbs e
   rw [Int.natAbs_mul, Int.natAbs_mul] at e3
   have : X.natAbs * y.natAbs ≤ X.natAbs * Y.natAbs := by
    rw [e3, Nat.mul_comm]
    exact Nat.mul_le_mul_right _ (by omega)
   exact Nat.le_of_mul_le_mul_left this (by omega)
  have := sq_abs h4
  omega
theorem far_seg {p q s : Int × Int} (hc : crsZ p q s = 0) (h : (leP p s ∧ leP s q) ∨ (leP q s ∧ leP s p)) (hn : s ≠ q) : sqZ p s < sqZ p q := by
 rcases h with ⟨h1, h2⟩ | ⟨h1, h2⟩
 ·exact far_in hc h1 h2 hn
 ·rw [← sq_neg p s, ← sq_neg p q]
  exact far_in (by rw [crs_neg]; exact hc) (le_neg.2 h2) (le_neg.2 h1) fun e => hn (by rw [← neg_neg s, e, neg_neg])
/-- one step of the reference's next -/
def nxS (p best s : Int × Int) : Int × Int := if best = p ∨ crsZ p best s < 0 ∨ (crsZ p best s = 0 ∧ sqZ p best < sqZ p s) then s else best
/-- the corner that follows a corner -/
def nxtP (l : List (Int × Int)) (p : Int × Int) : Int × Int := l.foldl (nxS p) p
theorem nxt_stay {l : List (Int × Int)} {p q : Int × Int} (hq : q ≠ p) : ∀ m : List (Int × Int), (∀ s ∈ m, 0 ≤ crsZ p q s ∧ (crsZ p q s = 0 → (leP p s ∧ leP s q) ∨ (leP q s ∧ leP s p))) → m.foldl (nxS p) q = q
 | [], _ => rfl
 | s :: m, h => by
  have hs := h s (List.mem_cons_self ..)
  have e : nxS p q s = q := by
   unfold nxS
   rw [if_neg]
   rintro (h1 | h1 | ⟨h1, h2⟩)
   ·exact hq h1
   ·omega
   ·by_cases e : s = q
    ·subst e; omega
    ·have := far_seg h1 (hs.2 h1) e; omega
  rw [List.foldl_cons, e]
  exact nxt_stay (l := l) hq m fun s h2 => h s (List.mem_cons_of_mem _ h2)
theorem nxt_find {p q : Int × Int} (hq : q ≠ p) : ∀ (m : List (Int × Int)) (best : Int × Int), q ∈ m → (∀ s ∈ m, 0 ≤ crsZ p q s ∧ (crsZ p q s = 0 → (leP p s ∧ leP s q) ∨ (leP q s ∧ leP s p))) →
  (best = p ∨ (0 ≤ crsZ p q best ∧ (crsZ p q best = 0 → (leP p best ∧ leP best q) ∨ (leP q best ∧ leP best p)))) → m.foldl (nxS p) best = q
 | [], best, h, _, _ => by simp at h
 | s :: m, best, hm, hs, hb => by
  rw [List.foldl_cons]
  by_cases e : s = q
  ·subst e
   have e2 : nxS p best s = s := by
    unfold nxS
    by_cases h1 : best = p
    ·rw [if_pos (Or.inl h1)]
    ·rcases hb with hb | hb
     ·exact absurd hb h1
     ·by_cases h2 : best = s
      ·subst h2; split <;> rfl
      ·have hsw : crsZ p best s = -crsZ p s best := crs_swap p s best
       rw [if_pos]
       by_cases h3 : crsZ p best s < 0
       ·exact Or.inr (Or.inl h3)
       ·have h4 : crsZ p s best = 0 := by omega
        exact Or.inr (Or.inr ⟨by omega, far_seg h4 (hb.2 h4) h2⟩)
   rw [e2]
   exact nxt_stay (l := m) hq m fun t h2 => hs t (List.mem_cons_of_mem _ h2)
  ·have hm2 : q ∈ m := by
    rcases List.mem_cons.1 hm with h | h
    ·exact absurd h.symm e
    ·exact h
   refine nxt_find hq m _ hm2 (fun t h2 => hs t (List.mem_cons_of_mem _ h2)) ?_
   unfold nxS
   split
   ·exact Or.inr (hs s (List.mem_cons_self ..))
   ·exact hb
theorem nxt_eq {l : List (Int × Int)} {p q : Int × Int} (h : NextP l p q) : nxtP l p = q :=
 nxt_find h.2.1 l p h.1 h.2.2 (Or.inl rfl)
theorem nxt_same {p : Int × Int} : ∀ l : List (Int × Int), (∀ s ∈ l, s = p) → nxtP l p = p
 | [], _ => rfl
 | s :: l, h => by
  unfold nxtP
  have e := h s (List.mem_cons_self ..)
  subst e
  rw [List.foldl_cons]
  have e2 : nxS s s s = s := by unfold nxS; simp
  rw [e2]
  exact nxt_same l fun t h2 => h t (List.mem_cons_of_mem _ h2)
/-- the first point by X and by Y -/
def fstS (f s : Int × Int) : Int × Int := if s.1 < f.1 ∨ (s.1 = f.1 ∧ s.2 < f.2) then s else f
def fstP (l : List (Int × Int)) : Int × Int := l.foldl fstS (l.headD (0, 0))
theorem fst_fold {f : Int × Int} : ∀ (l : List (Int × Int)) (a : Int × Int), (a = f ∨ f ∈ l) → leP f a → (∀ s ∈ l, leP f s) → l.foldl fstS a = f
 | [], a, h, _, _ => by
  rcases h with h | h
  ·exact h
  ·simp at h
 | s :: l, a, h, ha, hs => by
  rw [List.foldl_cons]
  have hs1 := hs s (List.mem_cons_self ..)
  refine fst_fold l _ ?_ ?_ fun t h2 => hs t (List.mem_cons_of_mem _ h2)
  ·unfold fstS
   rcases h with rfl | h
   ·left
    rw [if_neg]
    unfold leP at hs1; omega
   ·rcases List.mem_cons.1 h with rfl | h
    ·by_cases e : a = f
     ·subst e; left; split <;> rfl
     ·left
      rw [if_pos]
      have := lex_of_ne ha (fun h => e h.symm)
      unfold lexP at this; omega
    ·exact Or.inr h
  ·unfold fstS
   split
   ·exact hs1
   ·exact ha
theorem fst_eq {l : List (Int × Int)} {f : Int × Int} (hf : f ∈ l) (h : ∀ s ∈ l, leP f s) : fstP l = f := by
 cases l with
 | nil => simp at hf
 | cons a l => exact fst_fold _ _ (Or.inr hf) (h a (List.mem_cons_self ..)) h
/-- the reference's walk around the hull: what is left of it -/
def wrapR (l : List (Int × Int)) (f : Int × Int) : Nat → Int × Int → List (Int × Int)
 | 0, p => [p]
 | n + 1, p => if nxtP l p = f then [p] else p :: wrapR l f n (nxtP l p)
def hullR (l : List (Int × Int)) : List (Int × Int) := wrapR l (fstP l) (l.length + 1) (fstP l)
theorem wrap_eq {l : List (Int × Int)} {f : Int × Int} : ∀ (h : List (Int × Int)) (p : Int × Int) (n : Nat), links (NextP l) (p :: h ++ [f]) → (∀ s ∈ h, s ≠ f) → h.length < n → wrapR l f n p = p :: h
 | _, _, 0, _, _, hn => by omega
 | [], p, n + 1, hl, _, _ => by
  unfold wrapR
  rw [if_pos (nxt_eq hl.1)]
 | q :: h, p, n + 1, hl, hf, hn => by
  unfold wrapR
  have e := nxt_eq hl.1
  rw [e, if_neg (hf q (List.mem_cons_self ..)), wrap_eq h q n hl.2 (fun s h2 => hf s (List.mem_cons_of_mem _ h2)) (by simpa using hn)]
theorem hullR_eq {l h : List (Int × Int)} (hh : HullOf l h) (hn : h.length ≤ l.length + 1) : hullR l = h := by
 obtain ⟨f, h', rfl, hf, hmin, hne, hl⟩ := hh.ex
 unfold hullR
 rw [fst_eq hf hmin]
 exact wrap_eq h' f _ hl hne (by simp at hn; omega)
theorem hullR_one {l : List (Int × Int)} {p : Int × Int} (h0 : l ≠ []) (h : ∀ s ∈ l, s = p) : hullR l = [p] := by
 have hp : p ∈ l := by
  cases l with
  | nil => exact absurd rfl h0
  | cons a l => have := h a (List.mem_cons_self ..); subst this; exact List.mem_cons_self ..
 have e : fstP l = p := fst_eq hp fun s hs => by rw [h s hs]; exact leP_refl _
 unfold hullR wrapR
 rw [e, nxt_same l h, if_pos rfl]
end Go.Proofs.YtglailcfgcdagaaGreat
/- Convex geometry in plain lists: both hulls agree; the hull turns in one direction, is its own hull, and does not depend on the points' order. Conditions: none. -/
namespace Go.Proofs.YtglailcfgcdagaaGreat
open Go.RowKit Big
theorem cmp_lex {x y : Int × Int} : cmpP y x < 0 ↔ lexP y x := by
 unfold cmpP lexP; split
 ·constructor <;> intro _ <;> omega
 ·split
  ·constructor <;> intro _ <;> omega
  ·split
   ·constructor <;> intro _ <;> omega
   ·split <;> constructor <;> intro _ <;> omega
theorem sort_le (l : List (Int × Int)) : (l.mergeSort fun x y => !decide (cmpP y x < 0)).Pairwise leP := by
 have := List.pairwise_mergeSort (le := fun x y => !decide (cmpP y x < 0)) (fun a b c h1 h2 => by
  simp only [Bool.not_eq_true', decide_eq_false_iff_not, cmp_lex] at h1 h2 ⊢
  unfold lexP at *; omega) (fun a b => by
  simp only [Bool.or_eq_true, Bool.not_eq_true', decide_eq_false_iff_not, cmp_lex]
  unfold lexP; omega) l
 refine this.imp fun {a b} h => ?_
 simp only [Bool.not_eq_true', decide_eq_false_iff_not, cmp_lex] at h
 unfold lexP at h; unfold leP; omega
theorem ded_mem {s : Int × Int} : ∀ l : List (Int × Int), s ∈ dedP l ↔ s ∈ l
 | [] => Iff.rfl
 | [a] => Iff.rfl
 | a :: b :: r => by
  have ih := ded_mem (s := s) (b :: r)
  obtain ⟨m, hm⟩ := dedP_cons b r
  rw [dedP_two]
  rw [hm] at ih ⊢
  by_cases h : a = b
  ·subst h
   rw [if_pos rfl]
   simp only [List.tail_cons, List.mem_cons] at ih ⊢
   constructor
   ·intro h
    have := ih.1 h
    exact Or.inr this
   ·rintro (h | h)
    ·exact Or.inl h
    ·exact ih.2 h
  ·rw [if_neg h]
   simp only [List.mem_cons] at ih ⊢
   rw [ih]
theorem ded_sorted : ∀ l : List (Int × Int), l.Pairwise leP → (dedP l).Pairwise lexP
 | [], _ => List.Pairwise.nil
 | [a], _ => by simp [dedP]
 | a :: b :: r, h => by
  have ih := ded_sorted (b :: r) (List.pairwise_cons.1 h).2
  have hab := (List.pairwise_cons.1 h).1 b (by simp)
  obtain ⟨m, hm⟩ := dedP_cons b r
  rw [dedP_two]
  rw [hm] at ih ⊢
  by_cases e : a = b
  ·subst e
   rw [if_pos rfl]; exact ih
  ·rw [if_neg e]
   refine List.pairwise_cons.2 ⟨fun s hs => ?_, ih⟩
   have := lex_of_ne hab e
   rcases List.mem_cons.1 hs with rfl | hs
   ·exact this
   ·exact this.trans ((List.pairwise_cons.1 ih).1 s hs)
theorem sortP_mem {s : Int × Int} (l : List (Int × Int)) : s ∈ sortP l ↔ s ∈ l := by
 unfold sortP; rw [ded_mem, List.mem_mergeSort]
theorem sortP_sorted (l : List (Int × Int)) : (sortP l).Pairwise lexP := ded_sorted _ (sort_le l)
theorem NextP.of_mem {l l' : List (Int × Int)} (h : ∀ s, s ∈ l ↔ s ∈ l') {p q : Int × Int} (hn : NextP l p q) : NextP l' p q :=
 ⟨(h q).1 hn.1, hn.2.1, fun s hs => hn.2.2 s ((h s).2 hs)⟩
theorem HullOf.of_mem {l l' h : List (Int × Int)} (he : ∀ s, s ∈ l ↔ s ∈ l') (hh : HullOf l h) : HullOf l' h := by
 obtain ⟨f, h', e, h1, h2, h3, h4⟩ := hh.ex
 exact ⟨f, h', e, (he f).1 h1, fun s hs => h2 s ((he s).2 hs), h3, links_mono (fun a b hn => hn.of_mem he) _ h4⟩
theorem links_fun {l : List (Int × Int)} {f : Int × Int} : ∀ (a b : List (Int × Int)) (x : Int × Int), links (NextP l) (x :: a ++ [f]) → links (NextP l) (x :: b ++ [f]) → (∀ s ∈ a, s ≠ f) → (∀ s ∈ b, s ≠ f) → a = b
 | [], [], _, _, _, _, _ => rfl
 | [], q :: b, x, h1, h2, _, k2 => by
  have e1 := nxt_eq h1.1
  have e2 := nxt_eq h2.1
  exact absurd (e2.symm.trans e1) (k2 q (by simp))
 | p :: a, [], x, h1, h2, k1, _ => by
  have e1 := nxt_eq h1.1
  have e2 := nxt_eq h2.1
  exact absurd (e1.symm.trans e2) (k1 p (by simp))
 | p :: a, q :: b, x, h1, h2, k1, k2 => by
  have e1 := nxt_eq h1.1
  have e2 := nxt_eq h2.1
  obtain rfl : p = q := e1.symm.trans e2
  rw [links_fun a b p h1.2 h2.2 (fun s hs => k1 s (List.mem_cons_of_mem _ hs)) (fun s hs => k2 s (List.mem_cons_of_mem _ hs))]
theorem links_app {α : Type} {R : α → α → Prop} : ∀ (a b : List α), links R (a ++ b) → links R b
 | [], _, h => h
 | [x], b, h => by
  cases b with
  | nil => trivial
  | cons y b => exact h.2
 | x :: y :: a, b, h => links_app (y :: a) b h.2
theorem links_nodup {l : List (Int × Int)} {f : Int × Int} : ∀ t : List (Int × Int), links (NextP l) (t ++ [f]) → (∀ s ∈ t, s ≠ f) → t.Nodup
 | [], _, _ => List.nodup_nil
 | x :: t, h, k => by
  have ih := links_nodup t (links_app [x] (t ++ [f]) h) fun s hs => k s (List.mem_cons_of_mem _ hs)
  refine List.nodup_cons.2 ⟨fun hx => ?_, ih⟩
  obtain ⟨u, v, e⟩ := List.append_of_mem hx
  subst e
  have h2 : links (NextP l) (x :: v ++ [f]) := links_app (x :: u) (x :: v ++ [f]) (by simpa using h)
  have := links_fun (u ++ x :: v) v x h h2 (fun s hs => k s (List.mem_cons_of_mem _ hs)) (fun s hs => k s (List.mem_cons_of_mem _ (by simp [hs])))
  have := congrArg List.length this
  simp at this
  omega
theorem len_sub {α : Type} [DecidableEq α] : ∀ (h l : List α), h.Nodup → (∀ s ∈ h, s ∈ l) → h.length ≤ l.length
 | [], l, _, _ => Nat.zero_le _
 | x :: h, l, hn, hs => by
  have hx := hs x (by simp)
  have := len_sub h (l.erase x) (List.nodup_cons.1 hn).2 fun s hs2 => by
   have : s ≠ x := fun e => (List.nodup_cons.1 hn).1 (e ▸ hs2)
   exact (List.mem_erase_of_ne this).2 (hs s (List.mem_cons_of_mem _ hs2))
  rw [List.length_erase_of_mem hx] at this
  have := List.length_pos_of_mem hx
  simp; omega
theorem links_mem {l : List (Int × Int)} : ∀ (h : List (Int × Int)) (x : Int × Int), links (NextP l) (x :: h) → ∀ s ∈ h, s ∈ l
 | [], _, _, s, hs => by simp at hs
 | y :: h, x, hl, s, hs => by
  rcases List.mem_cons.1 hs with rfl | hs
  ·exact hl.1.1
  ·exact links_mem h y hl.2 s hs
theorem HullOf.mem {l h : List (Int × Int)} (hh : HullOf l h) : ∀ s ∈ h, s ∈ l := by
 obtain ⟨f, h', rfl, h1, h2, h3, h4⟩ := hh.ex
 intro s hs
 rcases List.mem_cons.1 hs with rfl | hs
 ·exact h1
 ·exact links_mem (h' ++ [f]) f h4 s (List.mem_append_left _ hs)
theorem HullOf.nodup {l h : List (Int × Int)} (hh : HullOf l h) : h.Nodup := by
 obtain ⟨f, h', rfl, h1, h2, h3, h4⟩ := hh.ex
 exact List.nodup_cons.2 ⟨fun hf => h3 f hf rfl, links_nodup h' (links_app [f] (h' ++ [f]) h4) h3⟩
theorem HullOf.len {l h : List (Int × Int)} (hh : HullOf l h) : h.length ≤ l.length := len_sub h l hh.nodup hh.mem
theorem HullOf.eq {l h : List (Int × Int)} (hh : HullOf l h) : hullR l = h := hullR_eq hh (by have := hh.len; omega)
/-- either all points are the same, or the chains make a round -/
theorem hullP_cases {l : List (Int × Int)} (h0 : l ≠ []) : (∃ p, (∀ s ∈ l, s = p) ∧ hullP l = [p]) ∨ HullOf l (hullP l) := by
 have hm : ∀ s, s ∈ sortP l ↔ s ∈ l := fun s => sortP_mem l
 have hs := sortP_sorted l
 unfold hullP
 by_cases h1 : (sortP l).length = 1
 ·left
  rw [if_pos h1]
  obtain ⟨p, hp⟩ := List.length_eq_one_iff.1 h1
  rw [hp] at hm ⊢
  exact ⟨p, fun s h => List.mem_singleton.1 ((hm s).2 h), rfl⟩
 ·right
  rw [if_neg h1]
  have h2 : 2 ≤ (sortP l).length := by
   obtain ⟨a, ha⟩ := List.exists_mem_of_ne_nil l h0
   have := List.length_pos_of_mem ((hm a).2 ha)
   omega
  exact (hull_two hs h2).of_mem hm
theorem hullP_eq {l : List (Int × Int)} (h0 : l ≠ []) : hullP l = hullR l := by
 rcases hullP_cases h0 with ⟨p, h1, h2⟩ | h
 ·rw [h2, hullR_one h0 h1]
 ·exact h.eq.symm
theorem HullOf.own {l h : List (Int × Int)} (hh : HullOf l h) : HullOf h h := by
 have hm := hh.mem
 obtain ⟨f, h', rfl, h1, h2, h3, h4⟩ := hh.ex
 refine ⟨f, h', rfl, List.mem_cons_self .., fun s hs => h2 s (hm s hs), h3, ?_⟩
 have h5 := links_and _ h4 (M := fun s => s ∈ f :: h') (fun s hs => by
  rcases List.mem_append.1 hs with h | h
  ·exact h
  ·rw [List.mem_singleton.1 h]; exact List.mem_cons_self ..)
 exact links_mono (fun a b hn => ⟨hn.2, hn.1.2.1, fun s hs => hn.1.2.2 s (hm s hs)⟩) _ h5
theorem hullP_ne {l : List (Int × Int)} (h0 : l ≠ []) : hullP l ≠ [] := by
 rcases hullP_cases h0 with ⟨p, h1, h2⟩ | h
 ·rw [h2]; simp
 ·obtain ⟨f, h', e, _⟩ := h.ex
  rw [e]; simp
theorem hullP_sub {l : List (Int × Int)} (h0 : l ≠ []) : ∀ s ∈ hullP l, s ∈ l := by
 rcases hullP_cases h0 with ⟨p, h1, h2⟩ | h
 ·rw [h2]
  intro s hs
  rw [List.mem_singleton.1 hs]
  obtain ⟨a, ha⟩ := List.exists_mem_of_ne_nil l h0
  rw [← h1 a ha]; exact ha
 ·exact h.mem
theorem hullP_len {l : List (Int × Int)} (h0 : l ≠ []) : (hullP l).length ≤ l.length := by
 rcases hullP_cases h0 with ⟨p, h1, h2⟩ | h
 ·rw [h2]
  have := List.length_pos_iff.2 h0
  simp; omega
 ·exact h.len
/-- successive corners, around -/
theorem HullOf.next {l h : List (Int × Int)} (hh : HullOf l h) {j : Nat} (hj : j < h.length) : ∃ h2 : (j + 1) % h.length < h.length, NextP l h[j] h[(j + 1) % h.length] := by
 obtain ⟨f, h', rfl, h1, h2, h3, h4⟩ := hh.ex
 refine ⟨Nat.mod_lt _ (by omega), ?_⟩
 have h5 := links_get h4 j (by simpa using hj)
 by_cases e : j + 1 = (f :: h').length
 ·have e2 : (j + 1) % (f :: h').length = 0 := by rw [e, Nat.mod_self]
  simp only [e2]
  have e3 : (f :: h' ++ [f])[j]'(by simp; simp at hj; omega) = (f :: h')[j] := List.getElem_append_left hj
  have e4 : (f :: h' ++ [f])[j + 1]'(by simp; simp at hj; omega) = f := by
   rw [List.getElem_append_right (by omega)]; simp
  rw [e3, e4] at h5
  exact h5
 ·have hj2 : j + 1 < (f :: h').length := by omega
  simp only [Nat.mod_eq_of_lt hj2]
  rw [List.getElem_append_left hj, List.getElem_append_left hj2] at h5
  exact h5
/-- all points lie on one side of each edge -/
theorem HullOf.side {l h : List (Int × Int)} (hh : HullOf l h) {j : Nat} (hj : j < h.length) {s : Int × Int} (hs : s ∈ l) : 0 ≤ crsZ h[j] (h[(j + 1) % h.length]'(Nat.mod_lt _ (by omega))) s := by
 obtain ⟨h2, h3⟩ := hh.next hj
 exact (h3.2.2 s hs).1
end Go.Proofs.YtglailcfgcdagaaGreat
