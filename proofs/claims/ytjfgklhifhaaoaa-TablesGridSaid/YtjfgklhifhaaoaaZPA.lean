/- Tables in plain numbers: bitmaps, ruling lines, what Draw, Without and Locate answer. Conditions: none. -/
import Derived.Test.YtjfgklhifhaaoaaZTe0
set_option linter.unusedVariables false
set_option linter.unusedSimpArgs false
namespace Go.Proofs.Ytjfgklhifhaaoaa
/-- a bitmap: its sides and its pixels -/
structure Bm where
 w : Int
 h : Int
 d : List Bool
def noB : Bm := ⟨0, 0, []⟩
def sizeB (c r : Int) : Bool := decide (1 ≤ c ∧ c ≤ 4096 ∧ 1 ≤ r ∧ r ≤ 4096 ∧ c * r ≤ 4194304)
def bmB (m : Bm) : Bool := sizeB m.w m.h && decide ((m.d.length : Int) = m.w * m.h)
theorem sizeB_iff {c r : Int} : sizeB c r = true ↔ 1 ≤ c ∧ c ≤ 4096 ∧ 1 ≤ r ∧ r ≤ 4096 ∧ c * r ≤ 4194304 := by unfold sizeB; exact decide_eq_true_iff
theorem bmB_iff {m : Bm} : bmB m = true ↔ (1 ≤ m.w ∧ m.w ≤ 4096 ∧ 1 ≤ m.h ∧ m.h ≤ 4096 ∧ m.w * m.h ≤ 4194304) ∧ (m.d.length : Int) = m.w * m.h := by
 unfold bmB
 rw [Bool.and_eq_true, sizeB_iff, decide_eq_true_iff]
/-- a ruling line: vertical, At, Thick, From, To -/
structure Ru where
 v : Bool
 a : Int
 t : Int
 f : Int
 o : Int
deriving DecidableEq
instance : Inhabited Ru := ⟨⟨false, 0, 0, 0, 0⟩⟩
def okR (r : Ru) : Bool := decide (0 ≤ r.a ∧ 0 ≤ r.f ∧ 1 ≤ r.t ∧ r.f < r.o ∧ r.o ≤ 4096 ∧ r.a ≤ 4096 ∧ r.t ≤ 4096 - r.a)
theorem okR_iff {r : Ru} : okR r = true ↔ 0 ≤ r.a ∧ 0 ≤ r.f ∧ 1 ≤ r.t ∧ r.f < r.o ∧ r.o ≤ 4096 ∧ r.a ≤ 4096 ∧ r.t ≤ 4096 - r.a := by unfold okR; exact decide_eq_true_iff
/-- a box: x, y, w, h -/
structure Bx where
 x : Int
 y : Int
 w : Int
 h : Int
deriving DecidableEq
instance : Inhabited Bx := ⟨⟨0, 0, 0, 0⟩⟩
/-- a cell: its place, its spans, its box -/
structure Ce where
 r : Int
 c : Int
 rs : Int
 cs : Int
 b : Bx
deriving DecidableEq
instance : Inhabited Ce := ⟨⟨0, 0, 0, 0, default⟩⟩
/-- a table -/
structure Ta where
 r : Int
 c : Int
 l : List Ce
deriving DecidableEq
def noT : Ta := ⟨0, 0, []⟩
/-- the numbers that count -/
def nrB (x : Int) : Bool := decide (-1073741824 ≤ x ∧ x ≤ 1073741824)
/-- a box contains a point -/
def hitB (b : Bx) (x y : Int) : Bool := decide ((nrB x && nrB y && nrB b.x && nrB b.y && nrB b.w && nrB b.h) = true ∧ b.x ≤ x ∧ x < b.x + b.w ∧ b.y ≤ y ∧ y < b.y + b.h)
/-- what Locate answers -/
def locE (l : List Ce) (x y : Int) : Int × Int := if 4096 < l.length then (0, 4) else match l.findIdx? (fun c => hitB c.b x y) with
 | some i => ((i : Int), 0)
 | none => (0, 29)
theorem locE_long {l : List Ce} {x y : Int} (h : 4096 < l.length) : locE l x y = (0, 4) := by unfold locE; rw [if_pos h]
theorem locE_at {l : List Ce} {x y : Int} (h : ¬ 4096 < l.length) {i : Nat} (hi : i < l.length) (ht : hitB l[i].b x y = true) (hb : ∀ j (hj : j < l.length), j < i → hitB l[j].b x y = false) : locE l x y = ((i : Int), 0) := by
 unfold locE
 rw [if_neg h]
 have e : l.findIdx? (fun c => hitB c.b x y) = some i := by
  rw [List.findIdx?_eq_some_iff_getElem]
  exact ⟨hi, ht, fun j hj => by rw [hb j (by omega) hj]; simp⟩
 rw [e]
theorem locE_no {l : List Ce} {x y : Int} (h : ¬ 4096 < l.length) (hb : ∀ j (hj : j < l.length), hitB l[j].b x y = false) : locE l x y = (0, 29) := by
 unfold locE
 rw [if_neg h]
 have e : l.findIdx? (fun c => hitB c.b x y) = none := by
  rw [List.findIdx?_eq_none_iff]
  intro c hc
  obtain ⟨j, hj, e⟩ := List.getElem_of_mem hc
  rw [← e]; exact hb j hj
 rw [e]
theorem hitB_no {b : Bx} {x y : Int} (h : ¬ ((nrB x && nrB y && nrB b.x && nrB b.y && nrB b.w && nrB b.h) = true ∧ b.x ≤ x ∧ x < b.x + b.w ∧ b.y ≤ y ∧ y < b.y + b.h)) : hitB b x y = false := decide_eq_false h
theorem hitB_yes {b : Bx} {x y : Int} (h : (nrB x && nrB y && nrB b.x && nrB b.y && nrB b.w && nrB b.h) = true ∧ b.x ≤ x ∧ x < b.x + b.w ∧ b.y ≤ y ∧ y < b.y + b.h) : hitB b x y = true := decide_eq_true h
theorem nrB_iff {x : Int} : nrB x = true ↔ -1073741824 ≤ x ∧ x ≤ 1073741824 := by unfold nrB; exact decide_eq_true_iff
/-! painting -/
/-- the pixels of the box (columns X to U - 1, rows Y to V - 1) get a colour -/
def pntL (d : List Bool) (W X Y U V : Nat) (t : Bool) : List Bool := d.mapIdx fun i p => if X ≤ i % W ∧ i % W < U ∧ Y ≤ i / W ∧ i / W < V then t else p
/-- .. but only before row y, column x -/
def pntP (d : List Bool) (W X Y U V : Nat) (t : Bool) (y x : Nat) : List Bool := d.mapIdx fun i p => if X ≤ i % W ∧ i % W < U ∧ Y ≤ i / W ∧ i / W < V ∧ (i / W < y ∨ i / W = y ∧ i % W < x) then t else p
theorem pntL_len (d : List Bool) (W X Y U V : Nat) (t : Bool) : (pntL d W X Y U V t).length = d.length := by simp [pntL]
theorem pntP_len (d : List Bool) (W X Y U V : Nat) (t : Bool) (y x : Nat) : (pntP d W X Y U V t y x).length = d.length := by simp [pntP]
theorem pntP_zero (d : List Bool) (W X Y U V : Nat) (t : Bool) : pntP d W X Y U V t Y 0 = d := by
 apply List.ext_getElem
 ·simp [pntP]
 ·intro i h1 h2
  simp only [pntP, List.getElem_mapIdx]
  rw [if_neg]
  omega
theorem pntP_row (d : List Bool) (W X Y U V : Nat) (t : Bool) (y x : Nat) (hx : U ≤ x) : pntP d W X Y U V t y x = pntP d W X Y U V t (y + 1) 0 := by
 apply List.ext_getElem
 ·simp [pntP]
 ·intro i h1 h2
  simp only [pntP, List.getElem_mapIdx]
  congr 1
  rw [eq_iff_iff]; omega
theorem pntP_start (d : List Bool) (W X Y U V : Nat) (t : Bool) (y : Nat) : pntP d W X Y U V t y X = pntP d W X Y U V t y 0 := by
 apply List.ext_getElem
 ·simp [pntP]
 ·intro i h1 h2
  simp only [pntP, List.getElem_mapIdx]
  congr 1
  rw [eq_iff_iff]; omega
theorem pntP_end (d : List Bool) (W X Y U V : Nat) (t : Bool) (y : Nat) (hy : V ≤ y) : pntP d W X Y U V t y 0 = pntL d W X Y U V t := by
 apply List.ext_getElem
 ·simp [pntP, pntL]
 ·intro i h1 h2
  simp only [pntP, pntL, List.getElem_mapIdx]
  congr 1
  rw [eq_iff_iff]; omega
theorem pntP_set (d : List Bool) (W X Y U V : Nat) (t : Bool) (y x : Nat) (hxw : x < W) (h1 : X ≤ x) (h2 : x < U) (h3 : Y ≤ y) (h4 : y < V) : (pntP d W X Y U V t y x).set (y * W + x) t = pntP d W X Y U V t y (x + 1) := by
 have e1 : (y * W + x) % W = x := by rw [Nat.add_comm, Nat.add_mul_mod_self_right, Nat.mod_eq_of_lt hxw]
 have e2 : (y * W + x) / W = y := by rw [Nat.add_comm, Nat.add_mul_div_right _ _ (by omega), Nat.div_eq_of_lt hxw, Nat.zero_add]
 apply List.ext_getElem
 ·simp [pntP]
 ·intro i h5 h6
  rw [List.getElem_set]
  simp only [pntP, List.getElem_mapIdx]
  by_cases h : y * W + x = i
  ·rw [if_pos h, if_pos]
   subst h
   rw [e1, e2]; omega
  ·rw [if_neg h]
   congr 1
   rw [eq_iff_iff]
   have : ¬ (i / W = y ∧ i % W = x) := fun ⟨a, b⟩ => h (by rw [← a, ← b, Nat.mul_comm]; exact Nat.div_add_mod i W)
   omega
end Go.Proofs.Ytjfgklhifhaaoaa
/- Tables in plain numbers: what Draw and Without answer. Conditions: none. -/
namespace Go.Proofs.Ytjfgklhifhaaoaa
/-- a box of a bitmap gets a colour -/
def pntB (W H : Int) (d : List Bool) (b : Bx) (t : Bool) : List Bool := pntL d W.toNat b.x.toNat b.y.toNat (min (b.x + b.w) W).toNat (min (b.y + b.h) H).toNat t
theorem pntB_len (W H : Int) (d : List Bool) (b : Bx) (t : Bool) : (pntB W H d b t).length = d.length := pntL_len ..
/-- the box of a ruling line -/
def boxR (r : Ru) : Bx := if r.v then ⟨r.a, r.f, r.t, r.o - r.f⟩ else ⟨r.f, r.a, r.o - r.f, r.t⟩
def wipeL (W H : Int) (d : List Bool) (l : List Ru) : List Bool := l.foldl (fun d r => pntB W H d (boxR r) false) d
theorem wipeL_len (W H : Int) : ∀ (l : List Ru) (d : List Bool), (wipeL W H d l).length = d.length
 | [], d => rfl
 | r :: l, d => (wipeL_len W H l _).trans (pntB_len ..)
/-- what Without answers -/
def witE (m : Bm) (l : List Ru) : Bm × Int :=
 if bmB m then (if 4096 < l.length then (noB, 4) else if l.all okR then (⟨m.w, m.h, wipeL m.w m.h m.d l⟩, 0) else (noB, 3)) else (noB, 1)
/-- the sum of sizes, with lines between and around them -/
def extE (l : List Int) (t : Int) : Int := l.foldl (fun s n => s + (n + t)) t
theorem extE_go (t : Int) : ∀ (l : List Int) (s : Int), (∀ n ∈ l, 1 ≤ n ∧ n ≤ 4096) → 1 ≤ t → t ≤ 4096 → s ≤ l.foldl (fun s n => s + (n + t)) s ∧ l.foldl (fun s n => s + (n + t)) s ≤ s + 8192 * l.length
 | [], s, _, _, _ => by simp
 | n :: l, s, h, h1, h2 => by
  obtain ⟨a, b⟩ := extE_go t l (s + (n + t)) (fun x hx => h x (List.mem_cons_of_mem _ hx)) h1 h2
  have := h n (List.mem_cons_self ..)
  rw [List.foldl_cons, List.length_cons]
  omega
theorem extE_le {l : List Int} {t : Int} (h : ∀ n ∈ l, 1 ≤ n ∧ n ≤ 4096) (h1 : 1 ≤ t) (h2 : t ≤ 4096) : t ≤ extE l t ∧ extE l t ≤ t + 8192 * l.length := extE_go t l t h h1 h2
def badI (n : Int) : Bool := decide (n < 1 ∨ 4096 < n)
/-- the lines behind the columns: the state is the place and the pixels -/
def colS (W H t : Int) (s : Int × List Bool) (n : Int) : Int × List Bool := (s.1 + (n + t), pntB W H s.2 ⟨s.1 + n, 0, t, H⟩ true)
def rowS (W H t : Int) (s : Int × List Bool) (n : Int) : Int × List Bool := (s.1 + (n + t), pntB W H s.2 ⟨0, s.1 + n, W, t⟩ true)
def drwL (ws hs : List Int) (t W H : Int) : List Bool :=
 (hs.foldl (rowS W H t) (t, (ws.foldl (colS W H t) (t, pntB W H (pntB W H (List.replicate (W * H).toNat false) ⟨0, 0, t, H⟩ true) ⟨0, 0, W, t⟩ true)).2)).2
/-- what Draw answers -/
def drwE (ws hs : List Int) (t : Int) : Bm × Int :=
 if ws.length = 0 ∨ hs.length = 0 then (noB, 5)
 else if (ws.any badI || hs.any badI || badI t) = true then (noB, 3)
 else if 4096 < extE ws t ∨ 4096 < extE hs t ∨ 4194304 < extE ws t * extE hs t then (noB, 4)
 else (⟨extE ws t, extE hs t, drwL ws hs t (extE ws t) (extE hs t)⟩, 0)
end Go.Proofs.Ytjfgklhifhaaoaa
/- Tables in plain lists: runs of dark pixels, ruling lines of one direction. Conditions: none. -/
namespace Go.Proofs.Ytjfgklhifhaaoaa
/-- the end of the dark pixels from a on, at most n of them -/
def endR (p : Nat → Bool) (a : Nat) : Nat → Nat
 | 0 => a
 | n + 1 => if p a then endR p (a + 1) n else a
/-- the runs that begin before x: at least k of w pixels -/
def runX (p : Nat → Bool) (w k x : Nat) : List (Nat × Nat) := (List.range x).filterMap fun a => if p a && (a == 0 || !p (a - 1)) && decide (k ≤ endR p a (w - a) - a) then some (a, endR p a (w - a)) else none
def runL (p : Nat → Bool) (w k : Nat) : List (Nat × Nat) := runX p w k w
theorem endR_ge (p : Nat → Bool) : ∀ (n a : Nat), a ≤ endR p a n ∧ endR p a n ≤ a + n
 | 0, a => by simp [endR]
 | n + 1, a => by
  unfold endR
  have := endR_ge p n (a + 1)
  split <;> omega
theorem endR_in (p : Nat → Bool) : ∀ (n a x : Nat), a ≤ x → x < endR p a n → p x = true
 | 0, a, x, h1, h2 => by simp [endR] at h2; omega
 | n + 1, a, x, h1, h2 => by
  unfold endR at h2
  by_cases h : p a = true
  ·rw [if_pos h] at h2
   by_cases e : x = a
   ·rw [e]; exact h
   ·exact endR_in p n (a + 1) x (by omega) h2
  ·rw [if_neg h] at h2; omega
theorem endR_out (p : Nat → Bool) : ∀ (n a : Nat), endR p a n < a + n → p (endR p a n) = false
 | 0, a, h => by simp [endR] at h
 | n + 1, a, h => by
  unfold endR at h ⊢
  by_cases e : p a = true
  ·rw [if_pos e] at h ⊢
   exact endR_out p n (a + 1) (by omega)
  ·rw [if_neg e]; simpa using e
theorem endR_uni {p : Nat → Bool} {a n b : Nat} (h1 : a ≤ b) (h2 : b ≤ a + n) (h3 : ∀ x, a ≤ x → x < b → p x = true) (h4 : b < a + n → p b = false) : endR p a n = b := by
 obtain ⟨g1, g2⟩ := endR_ge p n a
 rcases Nat.lt_trichotomy (endR p a n) b with h | h | h
 ·have := endR_out p n a (by omega)
  rw [h3 _ g1 h] at this; cases this
 ·exact h
 ·have := endR_in p n a b h1 h
  rw [h4 (by omega)] at this; cases this
theorem runX_succ (p : Nat → Bool) (w k x : Nat) : runX p w k (x + 1) = runX p w k x ++ (if p x && (x == 0 || !p (x - 1)) && decide (k ≤ endR p x (w - x) - x) then [(x, endR p x (w - x))] else []) := by
 unfold runX
 rw [List.range_succ, List.filterMap_append]
 congr 1
 simp only [List.filterMap_cons, List.filterMap_nil]
 split <;> rename_i h <;> split at h <;> simp_all
/-- no run begins inside of one -/
theorem runX_in {p : Nat → Bool} {w k : Nat} : ∀ (m x : Nat), (∀ y, x ≤ y → y < x + m → y ≠ 0 ∧ (p y = false ∨ p (y - 1) = true)) → runX p w k (x + m) = runX p w k x
 | 0, x, _ => rfl
 | m + 1, x, h => by
  rw [← Nat.add_assoc, runX_succ, runX_in m x (fun y h1 h2 => h y h1 (by omega))]
  have := h (x + m) (by omega) (by omega)
  rcases this with ⟨h0, h1 | h1⟩
  ·simp [h1]
  ·have : (x + m == 0) = false := by simpa using h0
   simp [h1, this]
/-- one round of the loop over the pixels -/
theorem runX_step {p : Nat → Bool} {w k a b : Nat} (hk : 1 ≤ k) (ha : a < w) (h0 : a = 0 ∨ p (a - 1) = false) (hb : b = endR p a (w - a)) :
  runX p w k (b + 1) = runX p w k a ++ (if k ≤ b - a then [(a, b)] else []) := by
 obtain ⟨g1, g2⟩ := endR_ge p (w - a) a
 have g3 := endR_in p (w - a) a
 rw [← hb] at g1 g2 g3
 have hs : (a == 0 || !p (a - 1)) = true := by rcases h0 with h | h <;> simp [h]
 by_cases e : p a = true
 ·have hab : a < b := by
   rcases Nat.lt_or_ge a b with h | h
   ·exact h
   ·have : b = a := by omega
    have h4 := endR_out p (w - a) a (by omega)
    rw [← hb, this, e] at h4; cases h4
  have h5 := runX_in (p := p) (w := w) (k := k) (b - a) (a + 1) (fun y h1 h2 => ⟨by omega, by
   by_cases hy : y ≤ b
   ·exact .inr (g3 (y - 1) (by omega) (by omega))
   ·omega⟩)
  rw [show a + 1 + (b - a) = b + 1 by omega] at h5
  rw [h5, runX_succ, e, hs, ← hb]
  simp
 ·have e' : p a = false := by simpa using e
  have hab : b = a := by
   rcases Nat.lt_or_ge a b with h | h
   ·have := g3 a (Nat.le_refl _) h
    rw [e'] at this; cases this
   ·omega
  subst hab
  rw [runX_succ, e']
  simp; omega
/-- past the last pixel nothing begins -/
theorem runX_end {p : Nat → Bool} {w k x : Nat} (hk : 1 ≤ k) (hx : w ≤ x) : runX p w k x = runL p w k := by
 obtain ⟨m, rfl⟩ : ∃ m, x = w + m := ⟨x - w, by omega⟩
 clear hx
 unfold runL
 induction m with
 | zero => rfl
 | succ m ih =>
  rw [← Nat.add_assoc, runX_succ, ih]
  have : w - (w + m) = 0 := by omega
  rw [this]
  simp [endR]; omega
theorem mem_runL {p : Nat → Bool} {w k : Nat} {r : Nat × Nat} : r ∈ runL p w k ↔ (r.1 < w ∧ p r.1 = true ∧ (r.1 = 0 ∨ p (r.1 - 1) = false) ∧ r.2 = endR p r.1 (w - r.1) ∧ k ≤ r.2 - r.1) := by
 unfold runL runX
 rw [List.mem_filterMap]
 constructor
 ·rintro ⟨a, ha, h⟩
  rw [List.mem_range] at ha
  split at h
  ·rename_i hc
   obtain rfl := Option.some.inj h
   simp only [Bool.and_eq_true, decide_eq_true_eq, Bool.or_eq_true, beq_iff_eq, Bool.not_eq_true'] at hc
   exact ⟨ha, hc.1.1, hc.1.2, rfl, hc.2⟩
  ·cases h
 ·rintro ⟨h1, h2, h3, h4, h5⟩
  refine ⟨r.1, List.mem_range.2 h1, ?_⟩
  rw [if_pos]
  ·rw [← h4]
  ·rw [h4] at h5
   simp only [Bool.and_eq_true, decide_eq_true_eq, Bool.or_eq_true, beq_iff_eq, Bool.not_eq_true']
   exact ⟨⟨h2, h3⟩, h5⟩
theorem runL_srt (p : Nat → Bool) (w k : Nat) : (runL p w k).Pairwise fun r s => r.1 < s.1 := by
 unfold runL runX
 rw [List.pairwise_filterMap]
 refine List.pairwise_lt_range.imp ?_
 intro a b h r hr s hs
 split at hr
 ·obtain rfl := Option.some.inj hr
  split at hs
  ·obtain rfl := Option.some.inj hs
   exact h
  ·cases hs
 ·cases hr
theorem runL_len (p : Nat → Bool) (w k : Nat) : (runL p w k).length ≤ w := by
 unfold runL runX
 exact Nat.le_trans (List.length_filterMap_le ..) (by simp)
end Go.Proofs.Ytjfgklhifhaaoaa
/- Tables in plain lists: the ruling lines of one direction, as a sweep over the rows finds them. Conditions: none. -/
namespace Go.Proofs.Ytjfgklhifhaaoaa
/-- the row where a run that is in row y begins -/
def begR (R : Nat → List (Nat × Nat)) : Nat → Nat × Nat → Nat
 | 0, _ => 0
 | y + 1, r => if r ∈ R y then begR R y r else y + 1
/-- the runs of a row, none behind the last -/
def rowR (R : Nat → List (Nat × Nat)) (h y : Nat) : List (Nat × Nat) := if y < h then R y else []
def mkR (v : Bool) (a t : Nat) (r : Nat × Nat) : Ru := ⟨v, a, t, r.1, r.2⟩
/-- the lines that end before row y -/
def outR (R : Nat → List (Nat × Nat)) (h : Nat) (v : Bool) : Nat → List Ru
 | 0 => []
 | y + 1 => ((R y).filter fun r => decide (r ∉ rowR R h (y + 1))).map fun r => mkR v (begR R y r) (y + 1 - begR R y r) r
def accR (R : Nat → List (Nat × Nat)) (h : Nat) (v : Bool) : Nat → List Ru
 | 0 => []
 | n + 1 => accR R h v n ++ outR R h v n
/-- the lines in order -/
def linR (R : Nat → List (Nat × Nat)) (h : Nat) (v : Bool) : List Ru := (List.range h).flatMap fun k => ((R k).filter fun r => decide (k = 0 ∨ r ∉ R (k - 1))).map fun r => mkR v k (endR (fun y => decide (r ∈ R y)) k (h - k) - k) r
theorem begR_le (R : Nat → List (Nat × Nat)) : ∀ (y : Nat) (r : Nat × Nat), begR R y r ≤ y
 | 0, r => Nat.le_refl _
 | y + 1, r => by
  unfold begR
  split
  ·exact Nat.le_succ_of_le (begR_le R y r)
  ·exact Nat.le_refl _
theorem begR_in (R : Nat → List (Nat × Nat)) : ∀ (y : Nat) (r : Nat × Nat), r ∈ R y → ∀ z, begR R y r ≤ z → z ≤ y → r ∈ R z
  | 0, r, h, z, _, h2 => by obtain rfl : z = 0 := by omega
                            exact h
  | y + 1, r, h, z, h1, h2 => by
    unfold begR at h1
    by_cases e : z = y + 1
    · rw [e]; exact h
    · split at h1
      · rename_i hr
        exact begR_in R y r hr z h1 (by omega)
      · omega
theorem begR_out (R : Nat → List (Nat × Nat)) : ∀ (y : Nat) (r : Nat × Nat), begR R y r = 0 ∨ r ∉ R (begR R y r - 1)
 | 0, r => .inl rfl
 | y + 1, r => by
  unfold begR
  split
  ·exact begR_out R y r
  ·rename_i h; exact .inr h
theorem begR_uni {R : Nat → List (Nat × Nat)} {y k : Nat} {r : Nat × Nat} (hk : k ≤ y) (h : ∀ z, k ≤ z → z ≤ y → r ∈ R z) (h0 : k = 0 ∨ r ∉ R (k - 1)) : begR R y r = k := by
 have h1 := begR_in R y r (h y hk (Nat.le_refl _))
 have h2 := begR_le R y r
 rcases Nat.lt_trichotomy (begR R y r) k with e | e | e
 ·rcases h0 with h0 | h0
  ·omega
  ·exact absurd (h1 (k - 1) (by omega) (by omega)) h0
 ·exact e
 ·rcases begR_out R y r with h3 | h3
  ·omega
  ·exact absurd (h _ (by omega) (by omega)) h3
theorem mem_accR {R : Nat → List (Nat × Nat)} {h : Nat} {v : Bool} {u : Ru} : ∀ {n : Nat}, u ∈ accR R h v n ↔ ∃ y, y + 1 < n ∧ ∃ r, r ∈ R y ∧ r ∉ rowR R h (y + 1) ∧ u = mkR v (begR R y r) (y + 1 - begR R y r) r
 | 0 => by simp [accR]
 | n + 1 => by
  rw [accR, List.mem_append, mem_accR (n := n)]
  constructor
  ·rintro (⟨y, h1, r, h2⟩ | h1)
   ·exact ⟨y, by omega, r, h2⟩
   ·match n, h1 with
    | n + 1, h1 =>
     unfold outR at h1
     obtain ⟨r, hr, rfl⟩ := List.mem_map.1 h1
     obtain ⟨h2, h3⟩ := List.mem_filter.1 hr
     exact ⟨n, by omega, r, h2, by simpa using h3, rfl⟩
  ·rintro ⟨y, h1, r, h2, h3, rfl⟩
   by_cases e : y + 1 = n
   ·right
    subst e
    unfold outR
    exact List.mem_map.2 ⟨r, List.mem_filter.2 ⟨h2, by simpa using h3⟩, rfl⟩
   ·exact .inl ⟨y, by omega, r, h2, h3, rfl⟩
theorem mem_linR {R : Nat → List (Nat × Nat)} {h : Nat} {v : Bool} {u : Ru} : u ∈ linR R h v ↔ ∃ k, k < h ∧ ∃ r, r ∈ R k ∧ (k = 0 ∨ r ∉ R (k - 1)) ∧ u = mkR v k (endR (fun y => decide (r ∈ R y)) k (h - k) - k) r := by
 unfold linR
 rw [List.mem_flatMap]
 constructor
 ·rintro ⟨k, hk, hu⟩
  obtain ⟨r, hr, rfl⟩ := List.mem_map.1 hu
  obtain ⟨h2, h3⟩ := List.mem_filter.1 hr
  exact ⟨k, List.mem_range.1 hk, r, h2, by simpa using h3, rfl⟩
 ·rintro ⟨k, hk, r, h2, h3, rfl⟩
  exact ⟨k, List.mem_range.2 hk, List.mem_map.2 ⟨r, List.mem_filter.2 ⟨h2, by simpa using h3⟩, rfl⟩⟩
theorem acc_lin {R : Nat → List (Nat × Nat)} {h : Nat} {v : Bool} {u : Ru} : u ∈ accR R h v (h + 1) ↔ u ∈ linR R h v := by
 rw [mem_accR, mem_linR]
 constructor
 ·rintro ⟨y, hy, r, h1, h2, rfl⟩
  have hb := begR_le R y r
  have hin := begR_in R y r h1
  refine ⟨begR R y r, by omega, r, hin _ (Nat.le_refl _) hb, begR_out R y r, ?_⟩
  congr 1
  have : endR (fun y => decide (r ∈ R y)) (begR R y r) (h - begR R y r) = y + 1 := by
   refine endR_uni (by omega) (by omega) (fun z h3 h4 => decide_eq_true (hin z h3 (by omega))) (fun h3 => ?_)
   unfold rowR at h2
   rw [if_pos (by omega)] at h2
   exact decide_eq_false h2
  rw [this]
 ·rintro ⟨k, hk, r, h1, h2, rfl⟩
  obtain ⟨y, hy⟩ : ∃ y, endR (fun y => decide (r ∈ R y)) k (h - k) = y := ⟨_, rfl⟩
  obtain ⟨g1, g2⟩ := endR_ge (fun y => decide (r ∈ R y)) (h - k) k
  have g3 := endR_in (fun y => decide (r ∈ R y)) (h - k) k
  have g4 := endR_out (fun y => decide (r ∈ R y)) (h - k) k
  rw [hy] at g1 g2 g3 g4
  have hky : k < y := by
   rcases Nat.lt_or_ge k y with e | e
   ·exact e
   ·obtain rfl : y = k := by omega
    have := g4 (by omega)
    rw [decide_eq_true h1] at this; cases this
  have hbg : begR R (y - 1) r = k := begR_uni (by omega) (fun z h3 h4 => by simpa using g3 z h3 (by omega)) h2
  refine ⟨y - 1, by omega, r, by simpa using g3 (y - 1) (by omega) (by omega), ?_, ?_⟩
  ·rw [show y - 1 + 1 = y by omega]
   unfold rowR
   split
   ·simpa using g4 (by omega)
   ·simp
  ·rw [hbg, show y - 1 + 1 = y by omega, hy]
/-- order by At, then From -/
def ltR (a b : Ru) : Prop := a.a < b.a ∨ a.a = b.a ∧ a.f < b.f
theorem linR_srt {R : Nat → List (Nat × Nat)} {h : Nat} {v : Bool} (hR : ∀ y, (R y).Pairwise fun r s => r.1 < s.1) : (linR R h v).Pairwise ltR := by
 unfold linR
 rw [List.pairwise_flatMap]
 constructor
 ·intro k _
  rw [List.pairwise_map]
  refine ((hR k).filter _).imp ?_
  intro a b hab
  right
  exact ⟨rfl, by show (a.1 : Int) < b.1; omega⟩
 ·refine List.pairwise_lt_range.imp ?_
  intro a b hab x hx y hy
  obtain ⟨r, _, rfl⟩ := List.mem_map.1 hx
  obtain ⟨s, _, rfl⟩ := List.mem_map.1 hy
  left
  show (a : Int) < b
  omega
theorem nodup_of_srt {l : List Ru} (h : l.Pairwise ltR) : l.Nodup := h.imp fun {a b} hab e => by
 subst e
 unfold ltR at hab
 omega
theorem accR_nodup {R : Nat → List (Nat × Nat)} {h : Nat} {v : Bool} (hR : ∀ y, (R y).Pairwise fun r s => r.1 < s.1) : ∀ n, (accR R h v n).Nodup
 | 0 => List.nodup_nil
 | n + 1 => by
  rw [accR, List.nodup_append]
  refine ⟨accR_nodup hR n, ?_, ?_⟩
  ·match n with
   | 0 => exact List.nodup_nil
   | n + 1 =>
    unfold outR
    have h1 : ((R n).filter fun r => decide (r ∉ rowR R h (n + 1))).Pairwise (fun r s => r.1 < s.1) := (hR n).filter _
    unfold List.Nodup
    rw [List.pairwise_map]
    refine h1.imp ?_
    intro a b hab e
    unfold mkR at e
    simp only [Ru.mk.injEq] at e
    omega
  ·intro a ha b hb e
   subst e
   obtain ⟨y, hy, r, h1, h2, rfl⟩ := mem_accR.1 ha
   match n, hb with
   | n + 1, hb =>
    unfold outR at hb
    obtain ⟨s, hs, e⟩ := List.mem_map.1 hb
    unfold mkR at e
    simp only [Ru.mk.injEq] at e
    have b1 := begR_le R y r
    have b2 := begR_le R n s
    omega
theorem srt_uni : ∀ {l m : List Ru}, l.Pairwise ltR → m.Pairwise (fun a b => ¬ ltR b a) → l.Perm m → l = m
 | [], m, _, _, hp => by rw [List.nil_perm.1 hp]
 | a :: l, [], _, _, hp => by simp at hp
 | a :: l, b :: m, h1, h2, hp => by
  obtain ⟨h3, h4⟩ := List.pairwise_cons.1 h1
  obtain ⟨h5, h6⟩ := List.pairwise_cons.1 h2
  have e : a = b := by
   have hb : b ∈ a :: l := hp.mem_iff.2 (List.mem_cons_self ..)
   have ha : a ∈ b :: m := hp.mem_iff.1 (List.mem_cons_self ..)
   rcases List.mem_cons.1 hb with e | hb
   ·exact e.symm
   ·rcases List.mem_cons.1 ha with e | ha
    ·exact e
    ·exact absurd (h3 b hb) (h5 a ha)
  subst e
  rw [srt_uni h4 h6 ((List.perm_cons a).1 hp)]
/-- whatever the sort makes of what the sweep has found: it is the list of the lines in order -/
theorem swp_sort {R : Nat → List (Nat × Nat)} {h : Nat} {v : Bool} (hR : ∀ y, (R y).Pairwise fun r s => r.1 < s.1) {L : List Ru} (hp : L.Perm (accR R h v (h + 1))) (hs : L.Pairwise fun a b => ¬ ltR b a) : L = linR R h v := by
 refine (srt_uni (linR_srt hR) hs ?_).symm
 refine (List.Perm.trans ?_ hp.symm)
 exact (List.perm_ext_iff_of_nodup (nodup_of_srt (linR_srt hR)) (accR_nodup hR _)).2 fun u => acc_lin.symm
theorem accR_mono {R : Nat → List (Nat × Nat)} {h : Nat} {v : Bool} : ∀ {n m : Nat}, n ≤ m → (accR R h v n).length ≤ (accR R h v m).length
  | n, 0, hnm => by obtain rfl : n = 0 := by omega
                    exact Nat.le_refl _
  | n, m + 1, hnm => by
    by_cases e : n = m + 1
    · rw [e]; exact Nat.le_refl _
    · exact Nat.le_trans (accR_mono (n := n) (m := m) (by omega)) (by rw [accR, List.length_append]; omega)
theorem linR_len {R : Nat → List (Nat × Nat)} {h : Nat} {v : Bool} (hR : ∀ y, (R y).Pairwise fun r s => r.1 < s.1) : (linR R h v).length = (accR R h v (h + 1)).length :=
 ((List.perm_ext_iff_of_nodup (nodup_of_srt (linR_srt hR)) (accR_nodup hR _)).2 fun u => acc_lin.symm).length_eq
/-- the pixels of row (or column) y -/
def rowP (m : Bm) (y x : Nat) : Bool := m.d.getD (y * m.w.toNat + x) false
def colP (m : Bm) (y x : Nat) : Bool := m.d.getD (x * m.w.toNat + y) false
def rowsR (m : Bm) (k : Int) (y : Nat) : List (Nat × Nat) := runL (rowP m y) m.w.toNat k.toNat
def colsR (m : Bm) (k : Int) (y : Nat) : List (Nat × Nat) := runL (colP m y) m.h.toNat k.toNat
def linE (m : Bm) (k : Int) : List Ru := linR (rowsR m k) m.h.toNat false ++ linR (colsR m k) m.w.toNat true
/-- what Rules answers -/
def rulE (m : Bm) (k : Int) : List Ru × Int :=
 if bmB m then (if 1 ≤ k ∧ k ≤ 4096 then (if 4096 < (linE m k).length then ([], 4) else (linE m k, 0)) else ([], 3)) else ([], 1)
end Go.Proofs.Ytjfgklhifhaaoaa
/- Tables in plain lists: bands, spans, the frame of a table, its cells, as the package finds them. Conditions: none. -/
namespace Go.Proofs.Ytjfgklhifhaaoaa
def cmpP (a b : Int × Int) : Int := if a.1 < b.1 then -1 else if b.1 < a.1 then 1 else if a.2 < b.2 then -1 else if b.2 < a.2 then 1 else 0
/-- equal neighbours become one -/
def dedP : List (Int × Int) → List (Int × Int)
 | [] => []
 | a :: l => a :: (match l with | [] => [] | b :: r => if a = b then (dedP (b :: r)).tail else dedP (b :: r))
/-- the bands of a direction -/
def bndL (l : List Ru) (v : Bool) : List (Int × Int) := (l.filter fun r => r.v == v).map fun r => (r.a, r.t)
def bndE (l : List Ru) (v : Bool) : List (Int × Int) := dedP ((bndL l v).mergeSort fun x y => !decide (cmpP y x < 0))
/-- neighbours are apart -/
def aptL : List (Int × Int) → Bool
 | a :: b :: r => decide (a.1 + a.2 < b.1) && aptL (b :: r)
 | _ => true
def aptE (l : List (Int × Int)) : Bool := aptL l && decide (2 ≤ l.length)
/-- the first place with a property, -1 if there is none -/
def idxP (p : Int × Int → Bool) (l : List (Int × Int)) : Int := match l.findIdx? p with
 | some i => (i : Int)
 | none => -1
/-- a line of a table: the number of its band, and of those where it begins and ends -/
structure Sp where
 n : Nat
 f : Nat
 o : Nat
deriving DecidableEq
instance : Inhabited Sp := ⟨⟨0, 0, 0⟩⟩
def spnI (own oth : List (Int × Int)) (r : Ru) : Int × Int × Int := (idxP (fun b => decide (b = (r.a, r.t))) own, idxP (fun b => decide (b.1 = r.f)) oth, idxP (fun b => decide (b.1 + b.2 = r.o)) oth)
def spnB (own oth : List (Int × Int)) (r : Ru) : Bool := decide (0 ≤ (spnI own oth r).2.1 ∧ (spnI own oth r).2.1 < (spnI own oth r).2.2)
def spnO (own oth : List (Int × Int)) (r : Ru) : Sp := ⟨(spnI own oth r).1.toNat, (spnI own oth r).2.1.toNat, (spnI own oth r).2.2.toNat⟩
def ofV (l : List Ru) (v : Bool) : List Ru := l.filter fun r => r.v == v
def spnL (l : List Ru) (v : Bool) (own oth : List (Int × Int)) : List Sp := (ofV l v).map (spnO own oth)
def spnA (l : List Ru) (v : Bool) (own oth : List (Int × Int)) : Bool := (ofV l v).all (spnB own oth)
def cmpS (a b : Sp) : Int := if a.n < b.n then -1 else if b.n < a.n then 1 else if a.f < b.f then -1 else if b.f < a.f then 1 else 0
/-- spans of a band have nothing in common but their ends -/
def ordL : List Sp → Bool
 | a :: b :: r => decide (¬ (a.n = b.n ∧ b.f < a.o)) && ordL (b :: r)
 | _ => true
def ordW (n k : Nat) (s : Sp) : Bool := decide (s.n = 0 ∨ s.n + 1 = n) && !decide (s.f = 0 ∧ s.o + 1 = k)
def ordE (S : List Sp) (n k : Nat) : Bool := ordL S && !S.any (ordW n k) && decide (S.countP (fun s => s.n == 0) = 1) && decide (S.countP (fun s => s.n + 1 == n) = 1)
/-- separations -/
def mrkR (cols : Nat) (d : List Bool) (s : Sp) : List Bool := if s.n = 0 then d else (List.range' s.f (s.o - s.f)).foldl (fun d row => d.set (row * cols + s.n - 1) true) d
def mrkB (cols : Nat) (d : List Bool) (s : Sp) : List Bool := if s.n = 0 then d else (List.range' s.f (s.o - s.f)).foldl (fun d col => d.set ((s.n - 1) * cols + col) true) d
/-- the places of a table -/
structure Pl where
 rows : Nat
 cols : Nat
 R : List Bool
 B : List Bool
def at0 (l : List Bool) (i : Nat) : Bool := l.getD i false
def nxtL (p : Pl) (i : Nat) : List Nat :=
 (if 0 < i % p.cols ∧ at0 p.R (i - 1) = false then [i - 1] else []) ++ (if i % p.cols + 1 < p.cols ∧ at0 p.R i = false then [i + 1] else []) ++
 (if 0 < i / p.cols ∧ at0 p.B (i - p.cols) = false then [i - p.cols] else []) ++ (if i / p.cols + 1 < p.rows ∧ at0 p.B i = false then [i + p.cols] else [])
/-- the search of a cell: the marks, the stack, the number of places, top, bottom, left, right -/
structure Df where
 met : List Bool
 st : List Nat
 n : Nat
 t : Nat
 b : Nat
 l : Nat
 r : Nat
def pushD (s : List Bool × List Nat) (o : Nat) : List Bool × List Nat := if at0 s.1 o then s else (s.1.set o true, s.2 ++ [o])
def stepD (p : Pl) (s : Df) (i : Nat) : Df :=
 let q := (nxtL p i).foldl pushD (s.met, s.st.dropLast)
 ⟨q.1, q.2, s.n + 1, min s.t (i / p.cols), max s.b (i / p.cols), min s.l (i % p.cols), max s.r (i % p.cols)⟩
def runD (p : Pl) : Nat → Df → Df
 | 0, s => s
 | k + 1, s => match s.st.getLast? with
  | none => s
  | some i => runD p k (stepD p s i)
def fuelD (s : Df) : Nat := s.met.countP (· == false) + s.st.length
def startD (p : Pl) (met : List Bool) (i : Nat) : Df := ⟨met.set i true, [i], 0, i / p.cols, i / p.cols, i % p.cols, i % p.cols⟩
def findD (p : Pl) (met : List Bool) (i : Nat) : Df := runD p (fuelD (startD p met i)) (startD p met i)
/-- a place of the rectangle from which a neighbour in it is separated -/
def sepD (p : Pl) (s : Df) (row col : Nat) : Bool := decide (col < s.r) && at0 p.R (row * p.cols + col) || decide (row < s.b) && at0 p.B (row * p.cols + col)
def sepA (p : Pl) (s : Df) : Bool := (List.range' s.t (s.b + 1 - s.t)).any fun row => (List.range' s.l (s.r + 1 - s.l)).any fun col => sepD p s row col
/-- what cell answers: the marks, and the cell without its box -/
def celD (p : Pl) (s : Df) : Option Ce := if s.n = (s.b + 1 - s.t) * (s.r + 1 - s.l) then (if sepA p s then none else some ⟨s.t, s.l, (s.b + 1 - s.t : Nat), (s.r + 1 - s.l : Nat), ⟨0, 0, 0, 0⟩⟩) else none
/-- the frame of a table -/
structure Fr where
 H : List (Int × Int)
 V : List (Int × Int)
 A : List Sp
 D : List Sp
def plcE (f : Fr) : Pl :=
 let rows := f.H.length - 1
 let cols := f.V.length - 1
 ⟨rows, cols, f.D.foldl (mrkR cols) (List.replicate (rows * cols) false), f.A.foldl (mrkB cols) (List.replicate (rows * cols) false)⟩
def boxC (f : Fr) (c : Ce) : Ce :=
 let x := (f.V.getD c.c.toNat (0, 0)).1 + (f.V.getD c.c.toNat (0, 0)).2
 let y := (f.H.getD c.r.toNat (0, 0)).1 + (f.H.getD c.r.toNat (0, 0)).2
 { c with b := ⟨x, y, (f.V.getD (c.c + c.cs).toNat (0, 0)).1 - x, (f.H.getD (c.r + c.rs).toNat (0, 0)).1 - y⟩ }
/-- the cells from place i on -/
def celsE (f : Fr) (p : Pl) : Nat → Nat → List Bool → List Ce → Option (List Ce)
 | 0, _, _, l => some l
 | k + 1, i, met, l => if at0 met i then celsE f p k (i + 1) met l else match celD p (findD p met i) with
  | none => none
  | some c => celsE f p k (i + 1) (findD p met i).met (l ++ [boxC f c])
def spnLe (x y : Sp) : Bool := !decide (cmpS y x < 0)
/-- the frame of lines, if it is one -/
def bldE (l : List Ru) : Option Fr :=
 let H := bndE l false
 let V := bndE l true
 if aptE H && aptE V && spnA l false H V && spnA l true V H then
  let A := (spnL l false H V).mergeSort spnLe
  let D := (spnL l true V H).mergeSort spnLe
  if ordE A H.length V.length && ordE D V.length H.length then some ⟨H, V, A, D⟩ else none
 else none
/-- what Grid answers -/
def grdE (l : List Ru) : Ta × Int :=
 if l.length = 0 then (noT, 5)
 else if 512 < l.length then (noT, 4)
 else if l.all okR then match bldE l with
  | none => (noT, 9)
  | some f => match celsE f (plcE f) ((plcE f).rows * (plcE f).cols) 0 (List.replicate ((plcE f).rows * (plcE f).cols) false) [] with
   | none => (noT, 9)
   | some L => (⟨((plcE f).rows : Int), ((plcE f).cols : Int), L⟩, 0)
 else (noT, 3)
end Go.Proofs.Ytjfgklhifhaaoaa
