/- Rows of integers by value: the cells of an array of integers. Conditions: none. -/
import Derived.Test.YtglailcfgcdagaaGreatZYE
import Derived.Deep.MidRow
import Derived.Test.YtglailcfgcdagaaGreatZYI
import Derived.Test.YtglailcfgcdagaaGreatZYM
import Derived.Test.YtglailcfgcdagaaGreatZYH
set_option linter.unusedVariables false
set_option linter.unusedSimpArgs false
namespace Go.Proofs.YtglailcfgcdagaaGreat
open Go.RowKit Big
/-- an integer as it lies in an array -/
structure ZE where
 z : Int
 b : Bool
 n : Nat
 xs : List Nat
 A : Option Addr
 c : Nat
def ZE.cells (e : ZE) : List Value := [.bool e.b, .slice e.A e.n e.c]
def ZE.val (e : ZE) : Value := .agg #[.bool e.b, .slice e.A e.n e.c]
structure ZE.ok (w : World) (e : ZE) : Prop where
 i : Iz e.z e.b e.n e.xs
 m : Mg w e.A e.c e.xs
theorem ZE.ok.below {w w' : World} {e : ZE} (h : e.ok w) (hb : Below w.heap.size w w') : e.ok w' := ⟨h.i, h.m.below hb⟩
def cellsM : List ZE → List Value
 | [] => []
 | e :: l => e.cells ++ cellsM l
theorem cellsM_len (l : List ZE) : (cellsM l).length = 2 * l.length := by
 induction l with
 | nil => rfl
 | cons e l ih => simp [cellsM, ZE.cells, ih]; omega
theorem cellsM_get : ∀ (l : List ZE) (j : Nat) (h : j < l.length), (cellsM l)[j * 2]? = some (.bool l[j].b) ∧ (cellsM l)[j * 2 + 1]? = some (.slice l[j].A l[j].n l[j].c)
 | [], j, h => by simp at h
 | e :: l, 0, _ => ⟨rfl, rfl⟩
 | e :: l, j + 1, h => by
  have h' := cellsM_get l j (by simpa using h)
  have e1 : (j + 1) * 2 = j * 2 + 2 := by omega
  have e2 : (j + 1) * 2 + 1 = j * 2 + 1 + 2 := by omega
  rw [e1]
  exact ⟨h'.1, h'.2⟩
/-- an array of integers in its box -/
structure ArB (w : World) (g : Nat) (l : List ZE) : Prop where
 r : w.rangeAt g 0 (cellsM l)
 ok : ∀ e ∈ l, e.ok w
theorem ArB.below {w w' : World} {g : Nat} {l : List ZE} (h : ArB w g l) (hb : Below w.heap.size w w') : ArB w' g l :=
 ⟨fun j v hv => keep_cell hb (h.r j v hv), fun e he => (h.ok e he).below hb⟩
theorem ArB.cell {w : World} {g : Nat} {l : List ZE} (h : ArB w g l) (j : Nat) (hj : j < l.length) : w.cell? ⟨g, j * 2, none⟩ = some (.bool l[j].b) ∧ w.cell? ⟨g, j * 2 + 1, none⟩ = some (.slice l[j].A l[j].n l[j].c) := by
 obtain ⟨h1, h2⟩ := cellsM_get l j hj
 have a := h.r _ _ h1
 have b := h.r _ _ h2
 rw [Nat.zero_add] at a b
 exact ⟨a, b⟩
end Go.Proofs.YtglailcfgcdagaaGreat
/- Blocks that hold a whole array: entering, keeping, storing. Conditions: none. -/
namespace Go.Proofs.YtglailcfgcdagaaGreat
open Go.RowKit Big
theorem rng_below {w w' : World} {g o : Nat} {cs : List Value} (h : w.rangeAt g o cs) (hb : Below w.heap.size w w') : w'.rangeAt g o cs := fun j v hv => keep_cell hb (h j v hv)
theorem rng_alloc {w : World} {cs : List Value} {t : TypeId} : (w.alloc (.cells cs.toArray t)).rangeAt w.heap.size 0 cs := fun j v hv => by
 rw [Nat.zero_add, World.cell?_alloc_at _ _ _ _ rfl]; simpa using hv
theorem rng_set {w : World} {g o k i : Nat} {cs : List Value} {v : Value} (h : w.rangeAt g o cs) (hne : k ≠ g) : (w.setCell ⟨k, i, none⟩ v).rangeAt g o cs := fun j v hv => keep_set hne (h j v hv)
theorem rng_there {w : World} {g o : Nat} {cs : List Value} (h : w.rangeAt g o cs) (z : Zn w g) : w.there g o cs.length := fun j hj => ⟨h.isSome j hj, z.fr _⟩
theorem Zn.alloc_ {w : World} {g : Nat} {b : Obj} (h : Zn w g) : Zn (w.alloc b) g := h.below ((Below.refl _ _).alloc (Nat.le_refl _) _)
theorem Zn.new_ {w : World} {cs : Array Value} {t : TypeId} : Zn (w.alloc (.cells cs t)) w.heap.size := ⟨by simp, fun i => by simp [go_sem]⟩
theorem Zn.set_ {w : World} {g k i : Nat} {v : Value} (h : Zn w g) : Zn (w.setCell ⟨k, i, none⟩ v) g := ⟨by simpa using h.lt, fun i => by simpa using h.fr i⟩
theorem Zn.sets {k : Nat} : ∀ (vs : List Value) (w : World) (g o : Nat), Zn w g → Zn (w.setCells k o vs) g
 | [], _, _, _, h => h
 | v :: r, w, g, o, h => by rw [World.setCells]; exact Zn.sets r _ g (o + 1) h.set_
theorem below_sets {B : Nat} {a : World} {g : Nat} (hg : B ≤ g) : ∀ (vs : List Value) (w : World) (o : Nat), Below B a w → Below B a (w.setCells g o vs)
 | [], _, _, h => h
 | v :: r, w, o, h => by rw [World.setCells]; exact below_sets hg r _ (o + 1) (below_set h hg _ _)
/-- no number of 32 bits among the cells -/
def Npl (cs : List Value) : Prop := ∀ v ∈ cs, ∀ n, v ≠ .int .u32 n
theorem cellsM_npl (l : List ZE) : Npl (cellsM l) := by
 induction l with
 | nil => intro v hv; simp [cellsM] at hv
 | cons e l ih =>
  intro v hv
  rcases List.mem_append.1 hv with h | h
  ·simp only [ZE.cells, List.mem_cons, List.not_mem_nil, or_false] at h
   rcases h with rfl | rfl <;> simp
  ·exact ih v h
theorem Mg.sets {A : Option Addr} {c : Nat} {xs : List Nat} {g : Nat} : ∀ (vs cs : List Value) (w : World) (o : Nat), Mg w A c xs → w.rangeAt g o cs → vs.length ≤ cs.length → Npl cs → Mg (w.setCells g o vs) A c xs
 | [], _, _, _, h, _, _, _ => h
 | v :: r, [], _, _, _, _, hl, _ => by simp at hl
 | v :: r, c0 :: cs, w, o, h, hr, hl, hn => by
  rw [World.setCells]
  refine Mg.sets r cs _ (o + 1) (h.set_ g o c0 v ?_ (hn c0 (by simp))) ?_ (by simpa using hl) (fun v hv => hn v (by simp [hv]))
  ·have := hr 0 c0 rfl; rwa [Nat.add_zero] at this
  ·intro j u hu
   rw [cell_set_ne (by omega)]
   have := hr (j + 1) u hu
   rwa [show o + (j + 1) = o + 1 + j by omega] at this
theorem ZE.ok.sets {w : World} {e : ZE} {g o : Nat} {vs cs : List Value} (h : e.ok w) (hr : w.rangeAt g o cs) (hl : vs.length ≤ cs.length) (hn : Npl cs) : e.ok (w.setCells g o vs) := ⟨h.i, Mg.sets vs cs w o h.m hr hl hn⟩
theorem rng_same {w : World} {g o : Nat} {vs cs : List Value} (hr : w.rangeAt g o cs) (z : Zn w g) (hl : vs.length = cs.length) : (w.setCells g o vs).rangeAt g o vs :=
 World.rangeAt_setCells_same _ _ _ _ (by rw [hl]; exact rng_there hr z)
theorem keep_sets {W : World} {g o k i : Nat} {v : Value} {vs : List Value} (hne : k ≠ g) (hc : W.cell? ⟨g, o, none⟩ = some v) : (W.setCells k i vs).cell? ⟨g, o, none⟩ = some v := by
 rw [World.cell?_setCells_out k vs i W ⟨g, o, none⟩ (fun h _ => absurd h.symm hne)]
 exact hc
/-! ### entering a function whose boxes hold arrays -/
theorem enterR1 {w : World} {c0 : List Value} {t0 : TypeId} {P : World → Prop}
  (H : ∀ u, Below w.heap.size w u → u.rangeAt w.heap.size 0 c0 → Zn u w.heap.size → Hid (u.heap.size = w.heap.size + 1) → P u) : P (w.alloc (.cells c0.toArray t0)) :=
 H _ ((Below.refl _ _).alloc (Nat.le_refl _) _) rng_alloc Zn.new_ (by unfold Hid; simp)
theorem enterR2 {w : World} {c0 c1 : List Value} {t0 t1 : TypeId} {P : World → Prop}
  (H : ∀ u, Below w.heap.size w u → u.rangeAt w.heap.size 0 c0 → u.rangeAt (w.heap.size + 1) 0 c1 → Zn u w.heap.size → Zn u (w.heap.size + 1) → Hid (u.heap.size = w.heap.size + 1 + 1) → P u) : P ((w.alloc (.cells c0.toArray t0)).alloc (.cells c1.toArray t1)) := by
 have h1 := rng_alloc (w := w.alloc (.cells c0.toArray t0)) (cs := c1) (t := t1)
 have z1 := Zn.new_ (w := w.alloc (.cells c0.toArray t0)) (cs := c1.toArray) (t := t1)
 rw [World.size_alloc] at h1 z1
 exact H _ (((Below.refl _ _).alloc (Nat.le_refl _) _).alloc (by simp) _) (rng_below rng_alloc ((Below.refl _ _).alloc (Nat.le_refl _) _)) h1 Zn.new_.alloc_ z1 (by unfold Hid; simp)
theorem enterR3 {w : World} {c0 c1 c2 : List Value} {t0 t1 t2 : TypeId} {P : World → Prop}
  (H : ∀ u, Below w.heap.size w u → u.rangeAt w.heap.size 0 c0 → u.rangeAt (w.heap.size + 1) 0 c1 → u.rangeAt (w.heap.size + 1 + 1) 0 c2 → Zn u w.heap.size → Zn u (w.heap.size + 1) → Zn u (w.heap.size + 1 + 1) → Hid (u.heap.size = w.heap.size + 1 + 1 + 1) → P u) :
  P (((w.alloc (.cells c0.toArray t0)).alloc (.cells c1.toArray t1)).alloc (.cells c2.toArray t2)) := by
 refine enterR2 (P := fun v => P (v.alloc (.cells c2.toArray t2))) fun v hb r0 r1 z0 z1 hs => ?_
 have h2 := rng_alloc (w := v) (cs := c2) (t := t2)
 have z2 := Zn.new_ (w := v) (cs := c2.toArray) (t := t2)
 rw [hs.out] at h2 z2
 have hv : Below v.heap.size v (v.alloc (.cells c2.toArray t2)) := (Below.refl _ _).alloc (Nat.le_refl _) _
 exact H _ (bel_step hb hv) (rng_below r0 hv) (rng_below r1 hv) h2 z0.alloc_ z1.alloc_ z2 (by unfold Hid; simp [hs.out])
/-- a new block that holds an array -/
theorem enterR {w : World} {c : List Value} {t : TypeId} {P : World → Prop}
  (H : ∀ u, Below w.heap.size w u → u.rangeAt w.heap.size 0 c → Zn u w.heap.size → Hid (u.heap.size = w.heap.size + 1) → P u) : P (w.alloc (.cells c.toArray t)) := enterR1 H
def ZE.zero : ZE := ⟨0, false, 0, [], none, 0⟩
theorem ZE.zero_ok (w : World) : ZE.zero.ok w := ⟨⟨by simp [ZE.zero], by simp [ZE.zero, limbs_zero], rfl⟩, by
 have := mg_nil w; simpa [ZE.zero, limbs_zero] using this⟩
/-- the array is stored into the result's box -/
theorem fin_M {w u : World} {g : Nat} {l : List ZE} {cs : List Value} (hb : Below w.heap.size w u) (hg : w.heap.size ≤ g) (hr : u.rangeAt g 0 cs) (z : Zn u g) (hl : (cellsM l).length = cs.length) (hn : Npl cs) (hok : ∀ e ∈ l, e.ok u) :
  Below w.heap.size w (u.setCells g 0 (cellsM l)) ∧ (u.setCells g 0 (cellsM l)).rangeAt g 0 (cellsM l) ∧ (∀ e ∈ l, e.ok (u.setCells g 0 (cellsM l))) ∧ Zn (u.setCells g 0 (cellsM l)) g :=
 ⟨below_sets hg _ _ _ hb, rng_same hr z hl, fun e he => (hok e he).sets hr (by omega) hn, Zn.sets _ _ _ _ z⟩
end Go.Proofs.YtglailcfgcdagaaGreat
