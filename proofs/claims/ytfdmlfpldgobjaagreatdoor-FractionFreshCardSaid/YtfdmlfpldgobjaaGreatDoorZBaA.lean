/- Words for memory that the walks of this claim share: what a slice's elements are, facts kept from the walk, steps of Below. Conditions: none. -/
import Derived.Test.YtfdmlfpldgobjaaGreatDoorProg
import Derived.WalkKit
import Derived.WalkSpells
import Derived.WalkLawsBesides
import Derived.BigQuiet
import Derived.Deep.QuietTactic
import Derived.Deep.Draws
import Derived.Deep.OwnRows
import Derived.Test.YtfdmlfpldgobjaaGreatDoorZNtA
import Derived.Maps.AppendAt
set_option linter.unusedVariables false
set_option linter.unusedSimpArgs false
namespace Go.Proofs.YtfdmlfpldgobjaaGreatDoor
open Go.RowKit
theorem hid {p : Prop} (h : p) : Hid p := h
/-- The elements of a slice of one-cell elements: at the address A lie the values f x. -/
def Rd {α : Type} (f : α → Value) (w : World) (A : Option Addr) (xs : List α) : Prop :=
 0 < xs.length → ∃ b o, A = some ⟨b, o, none⟩ ∧ b < w.heap.size ∧ ∀ j (h : j < xs.length), w.cell? ⟨b, o + j, none⟩ = some (f xs[j])
section
variable {α : Type} {f : α → Value} {w w' : World} {A : Option Addr} {xs : List α}
theorem Rd.at_ (h : Rd f w A xs) {k : Nat} (hk : k < xs.length) :
  ∃ b o, A = some ⟨b, o, none⟩ ∧ b < w.heap.size ∧ ∀ j (h : j < xs.length), w.cell? ⟨b, o + j, none⟩ = some (f xs[j]) := h (by omega)
theorem Rd.below (h : Rd f w A xs) (hb : Below w.heap.size w w') : Rd f w' A xs := fun hl => by
 obtain ⟨b, o, e, hB, hc⟩ := h hl
 exact ⟨b, o, e, Nat.lt_of_lt_of_le hB hb.size, fun j hj => (hb.cell (p := ⟨b, o + j, none⟩) hB).trans (hc j hj)⟩
theorem Rd.take (h : Rd f w A xs) (n : Nat) : Rd f w A (xs.take n) := fun hl => by
 obtain ⟨b, o, e, hB, hc⟩ := h (by simp at hl; omega)
 refine ⟨b, o, e, hB, fun j hj => ?_⟩
 have hj' : j < xs.length := by simp at hj; omega
 rw [hc j hj', List.getElem_take]
theorem Rd.nil (w : World) (A : Option Addr) : Rd f w A [] := fun h => by simp at h
theorem Rd.of_blk {g : Nat} {cs : Array Value} {t : TypeId} {fr : Nat × Nat} (hg : w.heap[g]? = some (.cells cs t fr)) (hc : ∀ j (h : j < xs.length), cs[j]? = some (f xs[j])) : Rd f w (some ⟨g, 0, none⟩) xs := fun _ =>
 ⟨g, 0, rfl, (Array.getElem?_eq_some_iff.1 hg).1, fun j hj => by rw [Nat.zero_add, cell_of_row w g j cs t fr hg]; exact hc j hj⟩
end
theorem Bw {w v : World} {x : Obj} (h : Below w.heap.size w v) : Below w.heap.size w (v.alloc x) := h.alloc h.size x
theorem sA {w : World} {x : Obj} : (w.alloc x).heap.size = w.heap.size + 1 := by simp only [World.size_alloc]
theorem sS {w : World} {p : Addr} {x : Value} : (w.setCell p x).heap.size = w.heap.size := by simp only [World.size_setCell]
theorem sD {w : World} : w.drew.heap.size = w.heap.size := by simp only [World.size_drew]
theorem Bv (B : Nat) (w : World) : Below B w w := Below.refl B w
theorem Bd {B : Nat} {a w : World} (h : Below B a w) : Below B a w.drew := h.drew
theorem Ba {B : Nat} {a w : World} (h : Below B a w) (hB : B ≤ w.heap.size) (o : Obj) : Below B a (w.alloc o) := h.alloc hB o
theorem Bs {B : Nat} {a w : World} (h : Below B a w) {p : Addr} (hp : B ≤ p.block) (u : Value) : Below B a (w.setCell p u) := h.setCell hp u
theorem below_drewN {B : Nat} {a w : World} (h : Below B a w) (n : Nat) : Below B a (w.drewN n) := ⟨h.os, h.tape, h.output, h.size, h.block⟩
theorem Bn {B : Nat} {a w : World} (h : Below B a w) (n : Nat) : Below B a (w.drewN n) := below_drewN h n
theorem BG {n : Nat} {u v : World} (h : Below n u v := by repeat' (first | with_reducible assumption | apply Bv | apply Bw | apply Bd | apply Bn | apply Bs | apply Ba | omega | simp only [sA, sS, sD])) : Below n u v := h
/-- Old cells and old marks read as before. -/
theorem bcell {W w1 : World} (hb : Below W.heap.size W w1) : (∀ b o, b < W.heap.size → w1.cell? ⟨b, o, none⟩ = W.cell? ⟨b, o, none⟩) ∧ (∀ b o, b < W.heap.size → w1.frozen? ⟨b, o, none⟩ = W.frozen? ⟨b, o, none⟩) :=
 ⟨fun b o h => hb.cell (p := ⟨b, o, none⟩) h, fun b o h => hb.frozen (p := ⟨b, o, none⟩) h⟩
theorem ret_int {k : IntKind} {a b : Int} (h : a = b) : Ending.returned (.int k a) = .returned (.int k b) := by rw [h]
end Go.Proofs.YtfdmlfpldgobjaaGreatDoor
/- Magnitudes: walks of trim. Conditions: none. -/
namespace Go.Proofs.YtfdmlfpldgobjaaGreatDoor
open Go.RowKit Big
def lim (x : Nat) : Value := .int .u32 (x : Int)
/-- A slice of limbs: address A, capacity c, the limbs xs. -/
structure Mg (w : World) (A : Option Addr) (c : Nat) (xs : List Nat) : Prop where
 cap : xs.length ≤ c
 max : c ≤ 9223372036854775807
 ok : Ok xs
 rd : Rd lim w A xs
theorem Mg.below {w w' : World} {A : Option Addr} {c : Nat} {xs : List Nat} (h : Mg w A c xs) (hb : Below w.heap.size w w') : Mg w' A c xs := ⟨h.cap, h.max, h.ok, h.rd.below hb⟩
/-- what a function hands back: new memory or old, the limbs of n -/
def RetN (w : World) (n : Nat) (e : Ending) (w' : World) : Prop :=
 ∃ A c, e = .returned (.slice A (limbs n).length c) ∧ Mg w' A c (limbs n) ∧ Below w.heap.size w w'
/-- the same, the address told -/
def RetNA (w : World) (A : Option Addr) (n : Nat) (e : Ending) (w' : World) : Prop :=
 ∃ c, e = .returned (.slice A (limbs n).length c) ∧ Mg w' A c (limbs n) ∧ Below w.heap.size w w'
theorem RetNA.any {w w' : World} {A : Option Addr} {n : Nat} {e : Ending} (h : RetNA w A n e w') : RetN w n e w' := ⟨A, h⟩
/-- A is nil, or lies in a row of cells that is not older than B and of which no string shares a byte -/
def Nw (B : Nat) (w : World) (A : Option Addr) : Prop := ∀ p, A = some p → B ≤ p.block ∧ ∃ cs t, w.heap[p.block]? = some (.cells cs t)
theorem Nw.nil {B : Nat} {w : World} : Nw B w none := fun _ h => by cases h
theorem Nw.mono {B B' : Nat} {w : World} {A : Option Addr} (h : Nw B w A) (hB : B' ≤ B) : Nw B' w A := fun p e => ⟨Nat.le_trans hB (h p e).1, (h p e).2⟩
theorem Nw.below {B : Nat} {w w' : World} {A : Option Addr} (h : Nw B w A) (hb : Below w.heap.size w w') : Nw B w' A := fun p e => by
 obtain ⟨h1, cs, t, h2⟩ := h p e
 exact ⟨h1, cs, t, (hb.block _ (Array.getElem?_eq_some_iff.1 h2).1).trans h2⟩
theorem Nw.set {B : Nat} {w : World} {A : Option Addr} (h : Nw B w A) (a : Addr) (u : Value) : Nw B (w.setCell a u) A := fun p e => by
 obtain ⟨h1, cs, t, h2⟩ := h p e
 refine ⟨h1, ?_⟩
 by_cases hk : p.block = a.block
 ·refine ⟨if a.spot.isSome then cs else cs.setIfInBounds a.off u, t, ?_⟩
  simp only [World.setCell, Array.getElem?_modify]
  rw [if_pos hk.symm, h2]
  rfl
 ·exact ⟨cs, t, (Below.heap_setCell _ _ _ _ hk).trans h2⟩
theorem Nw.alloc {B : Nat} {w : World} {A : Option Addr} (h : Nw B w A) (o : Obj) : Nw B (w.alloc o) A := h.below ((Below.refl _ _).alloc (Nat.le_refl _) _)
theorem Nw.drew {B : Nat} {w : World} {A : Option Addr} (h : Nw B w A) : Nw B w.drew A := h
theorem Nw.of_blk {B g : Nat} {w : World} {cs : Array Value} {t : TypeId} {o : Nat} (h : w.heap[g]? = some (.cells cs t)) (hB : B ≤ g) : Nw B w (some ⟨g, o, none⟩) := fun p e => by
 cases e; exact ⟨hB, cs, t, h⟩
theorem own_nw {w : World} {base size : Nat} {t : TypeId} {A : Option Addr} {n c m : Nat} {xs : List Value} (h : w.ownsRow base t size (.slice A n c) m xs) : Nw base w A := by
 rcases h.2 with ⟨h1, _⟩ | ⟨g, cap, cur, h1, hbg, h2, _⟩
 ·cases h1; exact .nil
 ·cases h1; exact .of_blk h2 hbg
/-- the limbs of n in new memory -/
def RetNn (w : World) (n : Nat) (e : Ending) (w' : World) : Prop :=
 ∃ A c, e = .returned (.slice A (limbs n).length c) ∧ Mg w' A c (limbs n) ∧ Below w.heap.size w w' ∧ Hid (Nw w.heap.size w' A)
theorem RetNn.any {w w' : World} {n : Nat} {e : Ending} (h : RetNn w n e w') : RetN w n e w' := by
 obtain ⟨A, c, h1, h2, h3, _⟩ := h; exact ⟨A, c, h1, h2, h3⟩
theorem fin_trim {w w' : World} {A : Option Addr} {c : Nat} {xs : List Nat} (h : Mg w A c xs) (hb : Below w.heap.size w w') (n : Nat) (hn : n ≤ xs.length)
  (hz : ∀ i, n ≤ i → (hi : i < xs.length) → xs[i] = 0) (hl : n = 0 ∨ ∃ h : n - 1 < xs.length, xs[n - 1] ≠ 0) :
  RetNA w A (val xs) (.returned (.slice A n c)) w' := by
 have e := limbs_trim h.ok n hn hz hl
 have el : n = (limbs (val xs)).length := by rw [← e]; simp; omega
 refine ⟨c, by rw [← el], ⟨by rw [← el]; have := h.cap; omega, h.max, ok_limbs _, ?_⟩, hb⟩
 rw [← e]
 exact (h.rd.take n).below hb
set_option maxHeartbeats 400000 in
theorem trim_at (A : Option Addr) (c : Nat) (xs : List Nat) (w : World) (h : Mg w A c xs) :
  Calls Tryz.prog 97 #[.slice A xs.length c] w (RetNA w A (val xs)) := by
 have hcap := h.cap
 have hmax := h.max
 go_enter Tryz.func97, Tryz.ntmps97
 go_wp2
 go_loop [3] (fun i => ∃ k : Nat, k ≤ xs.length ∧ i = .int .i64 k ∧ Hid (∀ i, k ≤ i → (hi : i < xs.length) → xs[i] = 0)) (fun i => (intOf i).toNat)
 case atStart => exact ⟨xs.length, Nat.le_refl _, rfl, fun i h1 h2 => absurd h1 (by omega)⟩
 case round =>
  obtain ⟨k, hk, rfl, hz⟩ := hrel
  by_cases h0 : 0 < k
  ·have hk1 : k - 1 < xs.length := by omega
   obtain ⟨b, o, rfl, hb, hc⟩ := h.rd.at_ hk1
   have c1 := hc (k - 1) hk1
   unfold lim at c1
   clear hc
   by_cases he : xs[k - 1] = 0
   ·have he1 : ((xs[k - 1] : Int) == 0) = true := by simp [he]
    have HE := hid he
    clear he
    go_wp2
    go_round
    case rel => exact ⟨k - 1, by omega, by go_num, fun i h1 h2 => by
     by_cases hj : i = k - 1
     ·subst hj; exact HE.out
     ·exact hz.out i (by omega) h2⟩
    case measure => simp [intOf]; omega
   ·have he1 : ((xs[k - 1] : Int) == 0) = false := by simp; omega
    have HE := hid he
    clear he
    go_wp2
    go_ret
    exact fin_trim h (Below.refl _ _) k hk hz.out (.inr ⟨hk1, HE.out⟩)
  ·have hk0 : k = 0 := by omega
   subst hk0
   go_wp2
   go_ret
   exact fin_trim h (Below.refl _ _) 0 hk hz.out (.inl rfl)
theorem trim_any (A : Option Addr) (c : Nat) (xs : List Nat) (w : World) (h : Mg w A c xs) :
  Calls Tryz.prog 97 #[.slice A xs.length c] w (RetN w (val xs)) := (trim_at A c xs w h).mono fun _ _ h => h.any
/-- Block g holds just the limbs L. -/
def LB (w : World) (g : Nat) (L : List Nat) : Prop := w.heap[g]? = some (.cells (L.map lim).toArray 61 (0, 0))
section
variable {w w' : World} {g : Nat} {L : List Nat}
theorem LB.lt (h : LB w g L) : g < w.heap.size := (Array.getElem?_eq_some_iff.1 h).1
theorem LB.cell (h : LB w g L) (k : Nat) (hk : k < L.length) : w.cell? ⟨g, k, none⟩ = some (.int .u32 ((L[k] : Nat) : Int)) := by
 rw [cell_of_row w g k _ _ _ h]; simp [hk, lim]
theorem LB.free (h : LB w g L) (k : Nat) : w.frozen? ⟨g, k, none⟩ = false := frozen_of_row w g k _ _ h
theorem LB.drew (h : LB w g L) : LB w.drew g L := h
theorem LB.drewN (h : LB w g L) (n : Nat) : LB (w.drewN n) g L := h
theorem LB.alloc (h : LB w g L) (o : Obj) : LB (w.alloc o) g L := (Below.heap_alloc w o g h.lt).trans h
theorem LB.set_ (h : LB w g L) (k : Nat) (x : Int) (y : Nat) (hx : x = (y : Int)) : LB (w.setCell ⟨g, k, none⟩ (.int .u32 x)) g (L.set k y) := by
 unfold LB at h ⊢
 subst hx
 rw [heap_setCell_same w g k _ _ _ h]
 simp [lim]
theorem LB.below {B : Nat} (h : LB w g L) (hb : Below B w w') (hg : g < B) : LB w' g L := (hb.block g hg).trans h
theorem LB.nw (h : LB w g L) {B : Nat} (hB : B ≤ g) : Nw B w (some ⟨g, 0, none⟩) := .of_blk h hB
theorem LB.mg (h : LB w g L) (ho : Ok L) (hl : L.length ≤ 9223372036854775807) : Mg w (some ⟨g, 0, none⟩) L.length L :=
 ⟨Nat.le_refl _, hl, ho, Rd.of_blk h fun j hj => by simp [hj]⟩
theorem LB.made (w : World) (n : Nat) : LB (w.alloc (.cells (madeCells #[.int .u32 0] n) 61)) w.heap.size (List.replicate n 0) := by
 unfold LB
 rw [heap_alloc_new]
 have e : madeCells #[.int .u32 0] n = ((List.replicate n 0).map lim).toArray := by
  apply Array.ext
  ·simp [madeCells]
  ·intro i h1 h2
   simp [madeCells, lim, Nat.mod_one]
 rw [e]
end
theorem info32 : (Tryz.prog.info? 61).map (fun i => (i.zero, i.size, i.bytes)) = some (some (.int .u32 0), 1, 4) := by kernel_rfl
/-- make([]uint32, n): an equation for every world. -/
theorem make32 (n : Nat) (hn : n ≤ 70368744177664) (w : World) :
  (Instr.makeSlice 22 (.int .i64 (n : Int)) (.int .i64 (n : Int))).run Tryz.prog w = .ok (.slice (some ⟨w.heap.size, 0, none⟩) n n) (w.alloc (.cells (madeCells #[.int .u32 0] n) 61)) :=
 run_make_row' (P := Tryz.prog) 22 61 (.int .u32 0) 4 Tryz.underlying22 info32 rfl .i64 .i64 n (by omega) (by omega) w
end Go.Proofs.YtfdmlfpldgobjaaGreatDoor
/- Magnitudes: walks of split, add. Conditions: none. -/
namespace Go.Proofs.YtfdmlfpldgobjaaGreatDoor
open Go.RowKit Big
/-- split: the low and the high limb. -/
theorem split_any (p : Int) (w : World) (h0 : 0 ≤ p) (hp : p ≤ 18446744073709551615) :
  Calls Tryz.prog 96 #[.int .u64 p] w fun e w' => e = .returned (.agg #[.int .u32 (p % 4294967296), .int .u32 (p / 4294967296)]) ∧ Below w.heap.size w w' := by
 obtain ⟨n, rfl⟩ := Int.eq_ofNat_of_zero_le h0
 go_enter Tryz.func96, Tryz.ntmps96
 go_wp2
 exact bodyPost_ret (v := .agg #[.int .u32 ((n : Int) % 4294967296), .int .u32 ((n : Int) / 4294967296)]) (by simp [results, Tryz.results96, go_sem]) rfl ⟨rfl, (Below.refl _ _).alloc (Nat.le_refl _) _⟩
theorem set_zeros (D : List Nat) (m s k : Nat) (hk : D.length = k) (hm : 0 < m) : (D ++ List.replicate m 0).set k s = (D ++ [s]) ++ List.replicate (m - 1) 0 := by
 obtain ⟨m, rfl⟩ : ∃ q, m = q + 1 := ⟨m - 1, by omega⟩
 subst hk
 rw [List.set_append_right _ _ (Nat.le_refl _)]
 simp [List.replicate_succ]
/-- what the loop of add holds in its memory -/
def AddAt (xs ys : List Nat) (k q : Nat) (L : List Nat) : Prop :=
 ∃ D : List Nat, D.length = k ∧ L = D ++ List.replicate (xs.length + 1 - k) 0 ∧ addC xs ys 0 = D ++ addC (xs.drop k) (ys.drop k) q
theorem AddAt.len {xs ys L : List Nat} {k q : Nat} (h : AddAt xs ys k q L) (hk : k ≤ xs.length + 1) : L.length = xs.length + 1 := by
 obtain ⟨D, h1, h2, _⟩ := h; subst h2; simp; omega
theorem AddAt.start (xs ys : List Nat) : AddAt xs ys 0 0 (List.replicate (xs.length + 1) 0) := ⟨[], rfl, by simp, by simp⟩
theorem AddAt.both {xs ys L : List Nat} {k q : Nat} (h : AddAt xs ys k q L) (hx : k < xs.length) (hy : k < ys.length) :
  AddAt xs ys (k + 1) ((xs[k] + q + ys[k]) / 4294967296) (L.set k ((xs[k] + q + ys[k]) % 4294967296)) := by
 obtain ⟨D, h1, h2, h3⟩ := h
 refine ⟨D ++ [(xs[k] + q + ys[k]) % 4294967296], by simp [h1], ?_, ?_⟩
 ·rw [h2, set_zeros D _ _ k h1 (by omega)]; congr 2
 ·rw [h3, List.drop_eq_getElem_cons hx, List.drop_eq_getElem_cons hy, addC, show xs[k] + ys[k] + q = xs[k] + q + ys[k] by omega]
  simp
theorem AddAt.left {xs ys L : List Nat} {k q : Nat} (h : AddAt xs ys k q L) (hx : k < xs.length) (hy : ys.length ≤ k) :
  AddAt xs ys (k + 1) ((xs[k] + q) / 4294967296) (L.set k ((xs[k] + q) % 4294967296)) := by
 obtain ⟨D, h1, h2, h3⟩ := h
 refine ⟨D ++ [(xs[k] + q) % 4294967296], by simp [h1], ?_, ?_⟩
 ·rw [h2, set_zeros D _ _ k h1 (by omega)]; congr 2
 ·rw [h3, List.drop_eq_getElem_cons hx, List.drop_of_length_le hy, List.drop_of_length_le (by omega : ys.length ≤ k + 1), addC]
  simp
theorem AddAt.last {xs ys L : List Nat} {k q : Nat} (h : AddAt xs ys k q L) (hx : k = xs.length) (hy : ys.length ≤ k) : L.set k q = addC xs ys 0 := by
 obtain ⟨D, h1, h2, h3⟩ := h
 rw [h3, h2, set_zeros D _ _ k h1 (by omega), List.drop_of_length_le (by omega), List.drop_of_length_le hy, addC, show xs.length + 1 - k - 1 = 0 by omega]
 simp
theorem add_fin {A B : Option Addr} {c d : Nat} {xs ys L : List Nat} {w wr : World} {q : Nat} {R : Ending → World → Prop} (ha : Mg w A c xs) (hb : Mg w B d ys) (hl : ys.length ≤ xs.length) (hs : xs.length ≤ 1073741824)
  (hat : AddAt xs ys xs.length q L) (hL : LB wr w.heap.size L) (hbl : Below w.heap.size w wr) (hq : q ≤ 1) (hR : ∀ e w', RetNn w (val xs + val ys) e w' → R e w') :
  Calls Tryz.prog 97 #[.slice (some ⟨w.heap.size, 0, none⟩) (xs.length + 1) (xs.length + 1)] (wr.setCell ⟨w.heap.size, xs.length, none⟩ (.int .u32 q)) R := by
 have hlen := hat.len (Nat.le_succ _)
 have e := hat.last rfl hl
 have hS := hL.set_ xs.length (q : Int) q rfl
 rw [e] at hS
 have hll : (addC xs ys 0).length = xs.length + 1 := by rw [length_addC]; omega
 have hm := hS.mg (ok_addC xs ys 0 ha.ok hb.ok (by omega)) (by omega)
 have ht := trim_at _ _ _ _ hm
 rw [hll, val_addC] at ht
 refine ht.mono fun e' w' h => hR _ _ ?_
 obtain ⟨c', h1, h2, h3⟩ := h
 exact ⟨_, c', h1, h2, (hbl.setCell (by exact Nat.le_refl _) _).trans (h3.mono (by simpa using hbl.size)), (hS.nw (Nat.le_refl _)).below h3⟩
set_option maxHeartbeats 1000000 in
theorem add_le (A B : Option Addr) (c d : Nat) (xs ys : List Nat) (w : World) (ha : Mg w A c xs) (hb : Mg w B d ys) (hl : ys.length ≤ xs.length) (hs : xs.length ≤ 1073741824) :
  Calls Tryz.prog 66 #[.slice A xs.length c, .slice B ys.length d] w (RetNn w (val xs + val ys)) := by
 have hlt : ¬ (xs.length : Int) < (ys.length : Int) := by omega
 have hmk := make32 (xs.length + 1) (by omega)
 rw [show ((xs.length + 1 : Nat) : Int) = (xs.length : Int) + 1 from by omega] at hmk
 go_enter Tryz.func66, Tryz.ntmps66
 go_wp2
 go_loopw [6, 23] (fun cr i wr => ∃ (k q : Nat) (L : List Nat), k ≤ xs.length ∧ i = .int .i64 k ∧ cr = .int .u32 q ∧ q ≤ 1 ∧ Below w.heap.size w wr ∧ LB wr w.heap.size L ∧ AddAt xs ys k q L) (fun _ i _ => xs.length - (intOf i).toNat)
 case atStart => exact ⟨0, 0, _, Nat.zero_le _, rfl, rfl, by omega, (Below.refl _ _).alloc (Nat.le_refl _) _, LB.made w (xs.length + 1), .start _ _⟩
 case round =>
  obtain ⟨k, q, L, hk, rfl, rfl, hq, hbl, hL, hat⟩ := hrel
  have hgl := hL.lt
  have hlen := hat.len (by omega)
  have hkL : k < L.length := by omega
  have HL := hid hlen
  clear hlen
  have cell0 := hL.cell k hkL
  have free0 := hL.free k
  have hwz := hbl.size
  by_cases hkl : k < xs.length
  ·obtain ⟨ba, oa, rfl, hba, hca⟩ := ha.rd.at_ hkl
   have c1 := (hbl.cell (p := ⟨ba, oa + k, none⟩) hba).trans (hca k hkl)
   have o1 := ha.ok.get hkl
   have hba2 : ba < wr.heap.size := by omega
   unfold lim at c1
   clear hca
   by_cases hky : k < ys.length
   ·obtain ⟨bb, ob, rfl, hbb, hcb⟩ := hb.rd.at_ hky
    have c2 := (hbl.cell (p := ⟨bb, ob + k, none⟩) hbb).trans (hcb k hky)
    have o2 := hb.ok.get hky
    have hbb2 : bb < wr.heap.size := by omega
    unfold lim at c2
    clear hcb
    go_wp2_with (go_at_call 96; refine (split_any _ _ (by omega) (by omega)).mono ?_; rintro e w1 ⟨rfl, hb1⟩; obtain ⟨hc1, hf1⟩ := bcell hb1; have hgl1 := Nat.lt_of_lt_of_le hgl hb1.size)
    go_region
    go_wp2
    go_roundw
    case rel => exact ⟨k + 1, (xs[k] + q + ys[k]) / 4294967296, L.set k ((xs[k] + q + ys[k]) % 4294967296), by omega, by go_num, by go_num, by omega, (by repeat (first | exact hbl | exact hbl.trans (hb1.mono hwz) | refine Below.drew ?_ | refine below_drewN ?_ _ | refine Below.setCell ?_ (by exact Nat.le_refl _) _ | refine Below.alloc ?_ (by simp; omega) _)), (by repeat (first | exact hL | exact hL.below hb1 hgl | refine LB.drew ?_ | refine LB.drewN ?_ _ | refine LB.alloc ?_ _ | refine LB.set_ ?_ _ _ _ (by omega))), hat.both hkl hky⟩
    case measure => simp [intOf]; omega
   ·go_wp2_with (go_at_call 96; refine (split_any _ _ (by omega) (by omega)).mono ?_; rintro e w1 ⟨rfl, hb1⟩; obtain ⟨hc1, hf1⟩ := bcell hb1; have hgl1 := Nat.lt_of_lt_of_le hgl hb1.size)
    go_region
    go_wp2
    go_roundw
    case rel => exact ⟨k + 1, (xs[k] + q) / 4294967296, L.set k ((xs[k] + q) % 4294967296), by omega, by go_num, by go_num, by omega, (by repeat (first | exact hbl | exact hbl.trans (hb1.mono hwz) | refine Below.drew ?_ | refine below_drewN ?_ _ | refine Below.setCell ?_ (by exact Nat.le_refl _) _ | refine Below.alloc ?_ (by simp; omega) _)), (by repeat (first | exact hL | exact hL.below hb1 hgl | refine LB.drew ?_ | refine LB.drewN ?_ _ | refine LB.alloc ?_ _ | refine LB.set_ ?_ _ _ _ (by omega))), hat.left hkl (by omega)⟩
    case measure => simp [intOf]; omega
  ·obtain rfl : k = xs.length := by omega
   go_wp2_with (go_at_call 97; refine add_fin ha hb hl hs hat hL hbl hq ?_; rintro e w1 ⟨R, cc, rfl, hr1, hr2, hr3⟩)
   go_ret
   exact ⟨R, cc, rfl, hr1, hr2, hr3⟩
set_option maxHeartbeats 1000000 in
theorem add_gt (A B : Option Addr) (c d : Nat) (xs ys : List Nat) (w : World) (ha : Mg w A c xs) (hb : Mg w B d ys) (hll : xs.length < ys.length) (hs : ys.length ≤ 1073741824) :
  Calls Tryz.prog 66 #[.slice A xs.length c, .slice B ys.length d] w (RetNn w (val ys + val xs)) := by
 have hl : xs.length ≤ ys.length := by omega
 have hlt : (xs.length : Int) < (ys.length : Int) := by omega
 have hmk := make32 (ys.length + 1) (by omega)
 rw [show ((ys.length + 1 : Nat) : Int) = (ys.length : Int) + 1 from by omega] at hmk
 go_enter Tryz.func66, Tryz.ntmps66
 go_wp2
 go_loopw [6, 23] (fun cr i wr => ∃ (k q : Nat) (L : List Nat), k ≤ ys.length ∧ i = .int .i64 k ∧ cr = .int .u32 q ∧ q ≤ 1 ∧ Below w.heap.size w wr ∧ LB wr w.heap.size L ∧ AddAt ys xs k q L) (fun _ i _ => ys.length - (intOf i).toNat)
 case atStart => exact ⟨0, 0, _, Nat.zero_le _, rfl, rfl, by omega, (Below.refl _ _).alloc (Nat.le_refl _) _, LB.made w (ys.length + 1), .start _ _⟩
 case round =>
  obtain ⟨k, q, L, hk, rfl, rfl, hq, hbl, hL, hat⟩ := hrel
  have hgl := hL.lt
  have hlen := hat.len (by omega)
  have hkL : k < L.length := by omega
  have HL := hid hlen
  clear hlen
  have cell0 := hL.cell k hkL
  have free0 := hL.free k
  have hwz := hbl.size
  by_cases hkl : k < ys.length
  ·obtain ⟨ba, oa, rfl, hba, hca⟩ := hb.rd.at_ hkl
   have c1 := (hbl.cell (p := ⟨ba, oa + k, none⟩) hba).trans (hca k hkl)
   have o1 := hb.ok.get hkl
   have hba2 : ba < wr.heap.size := by omega
   unfold lim at c1
   clear hca
   by_cases hky : k < xs.length
   ·obtain ⟨bb, ob, rfl, hbb, hcb⟩ := ha.rd.at_ hky
    have c2 := (hbl.cell (p := ⟨bb, ob + k, none⟩) hbb).trans (hcb k hky)
    have o2 := ha.ok.get hky
    have hbb2 : bb < wr.heap.size := by omega
    unfold lim at c2
    clear hcb
    go_wp2_with (go_at_call 96; refine (split_any _ _ (by omega) (by omega)).mono ?_; rintro e w1 ⟨rfl, hb1⟩; obtain ⟨hc1, hf1⟩ := bcell hb1; have hgl1 := Nat.lt_of_lt_of_le hgl hb1.size)
    go_region
    go_wp2
    go_roundw
    case rel => exact ⟨k + 1, (ys[k] + q + xs[k]) / 4294967296, L.set k ((ys[k] + q + xs[k]) % 4294967296), by omega, by go_num, by go_num, by omega, (by repeat (first | exact hbl | exact hbl.trans (hb1.mono hwz) | refine Below.drew ?_ | refine below_drewN ?_ _ | refine Below.setCell ?_ (by exact Nat.le_refl _) _ | refine Below.alloc ?_ (by simp; omega) _)), (by repeat (first | exact hL | exact hL.below hb1 hgl | refine LB.drew ?_ | refine LB.drewN ?_ _ | refine LB.alloc ?_ _ | refine LB.set_ ?_ _ _ _ (by omega))), hat.both hkl hky⟩
    case measure => simp [intOf]; omega
   ·go_wp2_with (go_at_call 96; refine (split_any _ _ (by omega) (by omega)).mono ?_; rintro e w1 ⟨rfl, hb1⟩; obtain ⟨hc1, hf1⟩ := bcell hb1; have hgl1 := Nat.lt_of_lt_of_le hgl hb1.size)
    go_region
    go_wp2
    go_roundw
    case rel => exact ⟨k + 1, (ys[k] + q) / 4294967296, L.set k ((ys[k] + q) % 4294967296), by omega, by go_num, by go_num, by omega, (by repeat (first | exact hbl | exact hbl.trans (hb1.mono hwz) | refine Below.drew ?_ | refine below_drewN ?_ _ | refine Below.setCell ?_ (by exact Nat.le_refl _) _ | refine Below.alloc ?_ (by simp; omega) _)), (by repeat (first | exact hL | exact hL.below hb1 hgl | refine LB.drew ?_ | refine LB.drewN ?_ _ | refine LB.alloc ?_ _ | refine LB.set_ ?_ _ _ _ (by omega))), hat.left hkl (by omega)⟩
    case measure => simp [intOf]; omega
  ·obtain rfl : k = ys.length := by omega
   go_wp2_with (go_at_call 97; refine add_fin hb ha hl hs hat hL hbl hq ?_; rintro e w1 ⟨R, cc, rfl, hr1, hr2, hr3⟩)
   go_ret
   exact ⟨R, cc, rfl, hr1, hr2, hr3⟩
theorem add_nw (A B : Option Addr) (c d : Nat) (xs ys : List Nat) (w : World) (ha : Mg w A c xs) (hb : Mg w B d ys) (hs : xs.length ≤ 1073741824) (ht : ys.length ≤ 1073741824) :
  Calls Tryz.prog 66 #[.slice A xs.length c, .slice B ys.length d] w (RetNn w (val xs + val ys)) := by
 by_cases h : ys.length ≤ xs.length
 ·exact add_le A B c d xs ys w ha hb h hs
 ·rw [Nat.add_comm]
  exact add_gt A B c d xs ys w ha hb (by omega) ht
end Go.Proofs.YtfdmlfpldgobjaaGreatDoor
/- Magnitudes: walks of compare, subtract. Conditions: none. -/
namespace Go.Proofs.YtfdmlfpldgobjaaGreatDoor
open Go.RowKit Big
theorem ord_lt {a b : Nat} (h : a < b) : ord a b = -1 := by unfold ord; rw [if_pos h]
theorem ord_gt {a b : Nat} (h : b < a) : ord a b = 1 := by unfold ord; rw [if_neg (by omega), if_pos h]
theorem ord_eq (a : Nat) : ord a a = 0 := by unfold ord; rw [if_neg (by omega), if_neg (by omega)]
def RetI (w : World) (n : Int) (e : Ending) (w' : World) : Prop := e = .returned (.int .i64 n) ∧ Below w.heap.size w w'
theorem drop_step {xs ys : List Nat} {k : Nat} (hx : k - 1 < xs.length) (hy : k - 1 < ys.length) (hk : 0 < k) (h : xs.drop k = ys.drop k) (he : xs[k - 1] = ys[k - 1]) : xs.drop (k - 1) = ys.drop (k - 1) := by
 rw [List.drop_eq_getElem_cons hx, List.drop_eq_getElem_cons hy, he, show k - 1 + 1 = k by omega, h]
set_option maxHeartbeats 1000000 in
theorem compare_any (A B : Option Addr) (c d : Nat) (xs ys : List Nat) (w : World) (ha : Mg w A c xs) (hb : Mg w B d ys) (na : Nrm xs) (nb : Nrm ys) :
  Calls Tryz.prog 69 #[.slice A xs.length c, .slice B ys.length d] w (RetI w (ord (val xs) (val ys))) := by
 have m1 := ha.cap
 have m2 := ha.max
 have m3 := hb.cap
 have m4 := hb.max
 by_cases hl : xs.length = ys.length
 ·have hl1 : ((xs.length : Int) != (ys.length : Int)) = false := by simp [hl]
  have HL := hid hl
  clear hl
  go_enter Tryz.func69, Tryz.ntmps69
  go_wp2
  go_loopw [5] (fun i wr => ∃ k : Nat, k ≤ xs.length ∧ i = .int .i64 ((k : Int) - 1) ∧ Below w.heap.size w wr ∧ Hid (xs.drop k = ys.drop k)) (fun i _ => (intOf i + 1).toNat)
  case atStart => exact ⟨xs.length, Nat.le_refl _, rfl, Below.refl _ _, by unfold Hid; rw [List.drop_length, HL.out, List.drop_length]⟩
  case round =>
   obtain ⟨k, hk, rfl, hbl, heq⟩ := hrel
   by_cases h0 : 0 < k
   ·have hk1 : k - 1 < xs.length := by omega
    have hk2 : k - 1 < ys.length := by have := HL.out; omega
    obtain ⟨ba, oa, rfl, hba, hca⟩ := ha.rd.at_ hk1
    obtain ⟨bb, ob, rfl, hbb, hcb⟩ := hb.rd.at_ hk2
    have c1 := (hbl.cell (p := ⟨ba, oa + (k - 1), none⟩) hba).trans (hca (k - 1) hk1)
    have c2 := (hbl.cell (p := ⟨bb, ob + (k - 1), none⟩) hbb).trans (hcb (k - 1) hk2)
    unfold lim at c1 c2
    clear hca hcb
    have D := fun h => val_drop_lt (a := xs) (b := ys) ha.ok (k - 1) HL.out hk1 (by rw [show k - 1 + 1 = k by omega]; exact heq.out) h
    have E := fun h => val_drop_lt (a := ys) (b := xs) hb.ok (k - 1) HL.out.symm hk2 (by rw [show k - 1 + 1 = k by omega]; exact heq.out.symm) h
    have HD := hid D
    have HE := hid E
    clear D E
    by_cases hlt : xs[k - 1] < ys[k - 1]
    ·have t1 : decide ((xs[k - 1] : Int) < (ys[k - 1] : Int)) = true := by simp; omega
     go_wp2
     go_quiet (fail)
     go_wp2
     go_ret
     exact ⟨ret_int (ord_lt (HD.out hlt)).symm, (by repeat (first | exact hbl | refine Below.drew ?_ | refine below_drewN ?_ _ | refine Below.setCell ?_ (by exact Nat.le_refl _) _ | refine Below.alloc ?_ (by simp; omega) _))⟩
    ·have t1 : decide ((xs[k - 1] : Int) < (ys[k - 1] : Int)) = false := by simp; omega
     by_cases hgt : ys[k - 1] < xs[k - 1]
     ·have t2 : decide ((ys[k - 1] : Int) < (xs[k - 1] : Int)) = true := by simp; omega
      go_wp2
      go_quiet (fail)
      go_wp2
      go_quiet (fail)
      go_wp2
      go_ret
      exact ⟨ret_int (ord_gt (HE.out hgt)).symm, (by repeat (first | exact hbl | refine Below.drew ?_ | refine below_drewN ?_ _ | refine Below.setCell ?_ (by exact Nat.le_refl _) _ | refine Below.alloc ?_ (by simp; omega) _))⟩
     ·have t2 : decide ((ys[k - 1] : Int) < (xs[k - 1] : Int)) = false := by simp; omega
      have he : Hid (xs[k - 1] = ys[k - 1]) := Nat.le_antisymm (by omega) (by omega)
      go_wp2
      go_quiet (fail)
      go_wp2
      go_quiet (fail)
      go_wp2
      go_roundw
      case rel => exact ⟨k - 1, by omega, by go_num, (by repeat (first | exact hbl | refine Below.drew ?_ | refine below_drewN ?_ _ | refine Below.setCell ?_ (by exact Nat.le_refl _) _ | refine Below.alloc ?_ (by simp; omega) _)), drop_step hk1 hk2 h0 heq.out he.out⟩
      case measure => simp [intOf]; omega
   ·have hk0 : k = 0 := by omega
    subst hk0
    go_wp2
    go_ret
    have e : xs = ys := heq.out
    subst e
    exact ⟨ret_int (ord_eq _).symm, hbl⟩
 ·have hl1 : ((xs.length : Int) != (ys.length : Int)) = true := by simp; omega
  by_cases hlt : xs.length < ys.length
  ·have h2 : (xs.length : Int) < (ys.length : Int) := by omega
   go_enter Tryz.func69, Tryz.ntmps69
   go_wp2
   go_ret
   exact ⟨ret_int (ord_lt (val_len_lt ha.ok nb hlt)).symm, Below.refl _ _⟩
  ·have h2 : ¬ (xs.length : Int) < (ys.length : Int) := by omega
   go_enter Tryz.func69, Tryz.ntmps69
   go_wp2
   go_ret
   exact ⟨ret_int (ord_gt (val_len_lt hb.ok na (by omega))).symm, Below.refl _ _⟩
theorem sub_lo (x y q : Nat) (hx : x < 4294967296) (hy : y < 4294967296) (hq : q ≤ 1) : IntKind.u64.wrap (IntKind.u64.wrap ((x : Int) - q) - y) % 4294967296 = (((x + 4294967296 - (y + q)) % 4294967296 : Nat) : Int) := by
 simp only [IntKind.wrap_u64]; omega
theorem sub_hi (x y q : Nat) (hx : x < 4294967296) (hy : y < 4294967296) (hq : q ≤ 1) : IntKind.u64.wrap (IntKind.u64.wrap ((x : Int) - q) - y) / 9223372036854775808 = ((if x < y + q then 1 else 0 : Nat) : Int) := by
 simp only [IntKind.wrap_u64]; split <;> omega
theorem sub_lo1 (x q : Nat) (hx : x < 4294967296) (hq : q ≤ 1) : IntKind.u64.wrap ((x : Int) - q) % 4294967296 = (((x + 4294967296 - q) % 4294967296 : Nat) : Int) := by
 simp only [IntKind.wrap_u64]; omega
theorem sub_hi1 (x q : Nat) (hx : x < 4294967296) (hq : q ≤ 1) : IntKind.u64.wrap ((x : Int) - q) / 9223372036854775808 = ((if x < q then 1 else 0 : Nat) : Int) := by
 simp only [IntKind.wrap_u64]; split <;> omega
theorem ite_le1 (p : Prop) [Decidable p] : (if p then 1 else 0 : Nat) ≤ 1 := by split <;> omega
theorem val_i {k : IntKind} {a b : Int} (h : a = b) : Value.int k a = .int k b := by rw [h]
def SubAt (xs ys : List Nat) (k q : Nat) (L : List Nat) : Prop :=
 ∃ D : List Nat, D.length = k ∧ L = D ++ List.replicate (xs.length - k) 0 ∧ subB xs ys 0 = D ++ subB (xs.drop k) (ys.drop k) q
theorem SubAt.len {xs ys L : List Nat} {k q : Nat} (h : SubAt xs ys k q L) (hk : k ≤ xs.length) : L.length = xs.length := by
 obtain ⟨D, h1, h2, _⟩ := h; subst h2; simp; omega
theorem SubAt.start (xs ys : List Nat) : SubAt xs ys 0 0 (List.replicate xs.length 0) := ⟨[], rfl, by simp, by simp⟩
theorem SubAt.both {xs ys L : List Nat} {k q : Nat} (h : SubAt xs ys k q L) (hx : k < xs.length) (hy : k < ys.length) :
  SubAt xs ys (k + 1) (if xs[k] < ys[k] + q then 1 else 0) (L.set k ((xs[k] + 4294967296 - (ys[k] + q)) % 4294967296)) := by
 obtain ⟨D, h1, h2, h3⟩ := h
 refine ⟨D ++ [(xs[k] + 4294967296 - (ys[k] + q)) % 4294967296], by simp [h1], ?_, ?_⟩
 ·rw [h2, set_zeros D _ _ k h1 (by omega)]; congr 2
 ·rw [h3, List.drop_eq_getElem_cons hx, List.drop_eq_getElem_cons hy, subB]
  simp
theorem SubAt.left {xs ys L : List Nat} {k q : Nat} (h : SubAt xs ys k q L) (hx : k < xs.length) (hy : ys.length ≤ k) :
  SubAt xs ys (k + 1) (if xs[k] < q then 1 else 0) (L.set k ((xs[k] + 4294967296 - q) % 4294967296)) := by
 obtain ⟨D, h1, h2, h3⟩ := h
 refine ⟨D ++ [(xs[k] + 4294967296 - q) % 4294967296], by simp [h1], ?_, ?_⟩
 ·rw [h2, set_zeros D _ _ k h1 (by omega)]; congr 2
 ·rw [h3, List.drop_eq_getElem_cons hx, List.drop_of_length_le hy, List.drop_of_length_le (by omega : ys.length ≤ k + 1), subB]
  simp
theorem SubAt.last {xs ys L : List Nat} {q : Nat} (h : SubAt xs ys xs.length q L) : L = subB xs ys 0 := by
 obtain ⟨D, h1, h2, h3⟩ := h
 rw [h3, h2, List.drop_length, subB]
 simp
theorem sub_fin {A B : Option Addr} {c d : Nat} {xs ys L : List Nat} {w wr : World} {q : Nat} {R : Ending → World → Prop} (ha : Mg w A c xs) (hb : Mg w B d ys) (hl : ys.length ≤ xs.length) (hle : val ys ≤ val xs) (hs : xs.length ≤ 1073741824)
  (hat : SubAt xs ys xs.length q L) (hL : LB wr w.heap.size L) (hbl : Below w.heap.size w wr) (hR : ∀ e w', RetNn w (val xs - val ys) e w' → R e w') :
  Calls Tryz.prog 97 #[.slice (some ⟨w.heap.size, 0, none⟩) xs.length xs.length] wr R := by
 have e := hat.last
 subst e
 have hll : (subB xs ys 0).length = xs.length := length_subB _ _ _
 have hm := hL.mg (ok_subB xs ys 0) (by omega)
 have ht := trim_at _ _ _ _ hm
 rw [hll, val_subB xs ys 0 ha.ok hb.ok (by omega) hl (by omega), Nat.sub_zero] at ht
 refine ht.mono fun e' w' h => hR _ _ ?_
 obtain ⟨c', h1, h2, h3⟩ := h
 exact ⟨_, c', h1, h2, hbl.trans (h3.mono hbl.size), (hL.nw (Nat.le_refl _)).below h3⟩
set_option maxHeartbeats 1000000 in
theorem subtract_nw (A B : Option Addr) (c d : Nat) (xs ys : List Nat) (w : World) (ha : Mg w A c xs) (hb : Mg w B d ys) (hl : ys.length ≤ xs.length) (hle : val ys ≤ val xs) (hs : xs.length ≤ 1073741824) :
  Calls Tryz.prog 67 #[.slice A xs.length c, .slice B ys.length d] w (RetNn w (val xs - val ys)) := by
 have hmk := make32 xs.length (by omega)
 have HLE := hid hle
 clear hle
 go_enter Tryz.func67, Tryz.ntmps67
 go_wp2
 go_loopw [6, 14] (fun cr i wr => ∃ (k q : Nat) (L : List Nat), k ≤ xs.length ∧ i = .int .i64 k ∧ cr = .int .u64 q ∧ q ≤ 1 ∧ Below w.heap.size w wr ∧ LB wr w.heap.size L ∧ SubAt xs ys k q L) (fun _ i _ => xs.length - (intOf i).toNat)
 case atStart => exact ⟨0, 0, _, Nat.zero_le _, rfl, rfl, by omega, (Below.refl _ _).alloc (Nat.le_refl _) _, LB.made w xs.length, .start _ _⟩
 case round =>
  obtain ⟨k, q, L, hk, rfl, rfl, hq, hbl, hL, hat⟩ := hrel
  have hgl := hL.lt
  by_cases hkl : k < xs.length
  ·have hkL : k < L.length := by rw [hat.len hk]; exact hkl
   have cell0 := hL.cell k hkL
   have free0 := hL.free k
   have hwz := hbl.size
   obtain ⟨ba, oa, rfl, hba, hca⟩ := ha.rd.at_ hkl
   have c1 := (hbl.cell (p := ⟨ba, oa + k, none⟩) hba).trans (hca k hkl)
   have o1 := ha.ok.get hkl
   have hba2 : ba < wr.heap.size := by omega
   unfold lim at c1
   clear hca
   by_cases hky : k < ys.length
   ·obtain ⟨bb, ob, rfl, hbb, hcb⟩ := hb.rd.at_ hky
    have c2 := (hbl.cell (p := ⟨bb, ob + k, none⟩) hbb).trans (hcb k hky)
    have o2 := hb.ok.get hky
    have hbb2 : bb < wr.heap.size := by omega
    unfold lim at c2
    clear hcb
    go_wp2
    go_roundw
    case rel => exact ⟨k + 1, _, _, by omega, by go_num, val_i (sub_hi _ _ _ o1 o2 hq), ite_le1 _, (by repeat (first | exact hbl | refine Below.drew ?_ | refine below_drewN ?_ _ | refine Below.setCell ?_ (by exact Nat.le_refl _) _ | refine Below.alloc ?_ (by simp; omega) _)), hL.set_ _ _ _ (sub_lo _ _ _ o1 o2 hq), hat.both hkl hky⟩
    case measure => simp [intOf]; omega
   ·go_wp2
    go_roundw
    case rel => exact ⟨k + 1, _, _, by omega, by go_num, val_i (sub_hi1 _ _ o1 hq), ite_le1 _, (by repeat (first | exact hbl | refine Below.drew ?_ | refine below_drewN ?_ _ | refine Below.setCell ?_ (by exact Nat.le_refl _) _ | refine Below.alloc ?_ (by simp; omega) _)), hL.set_ _ _ _ (sub_lo1 _ _ o1 hq), hat.left hkl (by omega)⟩
    case measure => simp [intOf]; omega
  ·obtain rfl : k = xs.length := by omega
   go_wp2_with (go_at_call 97; refine sub_fin ha hb hl HLE.out hs hat hL hbl ?_; rintro e w1 ⟨R, cc, rfl, hr1, hr2, hr3⟩)
   go_ret
   exact ⟨R, cc, rfl, hr1, hr2, hr3⟩
theorem subtract_any (A B : Option Addr) (c d : Nat) (xs ys : List Nat) (w : World) (ha : Mg w A c xs) (hb : Mg w B d ys) (hl : ys.length ≤ xs.length) (hle : val ys ≤ val xs) (hs : xs.length ≤ 1073741824) :
  Calls Tryz.prog 67 #[.slice A xs.length c, .slice B ys.length d] w (RetN w (val xs - val ys)) := (subtract_nw A B c d xs ys w ha hb hl hle hs).mono fun _ _ h => h.any
end Go.Proofs.YtfdmlfpldgobjaaGreatDoor
/- Magnitudes: walks of scale, multiply. Conditions: none. -/
namespace Go.Proofs.YtfdmlfpldgobjaaGreatDoor
open Go.RowKit Big
/-- what is left after the last store: trim -/
theorem trim_fin {L : List Nat} {w wr : World} {n : Nat} {R : Ending → World → Prop} (hL : LB wr w.heap.size L) (ho : Ok L) (hl : L.length = n) (hn : n ≤ 4294967296) (v : Nat) (hv : val L = v) (hbl : Below w.heap.size w wr) (hR : ∀ e w', RetN w v e w' → R e w') :
  Calls Tryz.prog 97 #[.slice (some ⟨w.heap.size, 0, none⟩) n n] wr R := by
 subst hl; subst hv
 have hm := hL.mg ho (by omega)
 refine (trim_any _ _ _ _ hm).mono fun e' w' h => hR _ _ ?_
 obtain ⟨A', c', h1, h2, h3⟩ := h
 exact ⟨A', c', h1, h2, hbl.trans (h3.mono hbl.size)⟩
theorem trim_finA {L : List Nat} {w wr : World} {n : Nat} {R : Ending → World → Prop} (hL : LB wr w.heap.size L) (ho : Ok L) (hl : L.length = n) (hn : n ≤ 4294967296) (v : Nat) (hv : val L = v) (hbl : Below w.heap.size w wr) (hR : ∀ e w', RetNA w (some ⟨w.heap.size, 0, none⟩) v e w' ∧ Hid (Nw w.heap.size w' (some ⟨w.heap.size, 0, none⟩)) → R e w') :
  Calls Tryz.prog 97 #[.slice (some ⟨w.heap.size, 0, none⟩) n n] wr R := by
 subst hl; subst hv
 have hm := hL.mg ho (by omega)
 refine (trim_at _ _ _ _ hm).mono fun e' w' h => hR _ _ ?_
 obtain ⟨c', h1, h2, h3⟩ := h
 exact ⟨⟨c', h1, h2, hbl.trans (h3.mono hbl.size)⟩, (hL.nw (Nat.le_refl _)).below h3⟩
/-- bounds on a product of limbs, as the walk asks them -/
theorem prod_bd (x y : Nat) (hx : x < 4294967296) (hy : y < 4294967296) : 0 ≤ (x : Int) * (y : Int) ∧ (x : Int) * (y : Int) ≤ 18446744065119617025 := by
 have h1 : x * y ≤ 4294967295 * 4294967295 := Nat.mul_le_mul (by omega) (by omega)
 rw [← Int.natCast_mul]
 omega
theorem muladd (x y p q : Nat) : ((x : Int) * (y : Int) + p + q) = ((x * y + p + q : Nat) : Int) := by push_cast; rfl
theorem muladd2 (x y q : Nat) : ((x : Int) * (y : Int) + q) = ((x * y + q : Nat) : Int) := by push_cast; rfl
def ScaleAt (m p : Nat) (xs : List Nat) (k q : Nat) (L : List Nat) : Prop :=
 ∃ D : List Nat, D.length = k ∧ L = D ++ List.replicate (xs.length + 1 - k) 0 ∧ scaleL m xs p = D ++ scaleL m (xs.drop k) q
theorem ScaleAt.len {m p : Nat} {xs L : List Nat} {k q : Nat} (h : ScaleAt m p xs k q L) (hk : k ≤ xs.length + 1) : L.length = xs.length + 1 := by
 obtain ⟨D, h1, h2, _⟩ := h; subst h2; simp; omega
theorem ScaleAt.start (m p : Nat) (xs : List Nat) : ScaleAt m p xs 0 p (List.replicate (xs.length + 1) 0) := ⟨[], rfl, by simp, by simp⟩
theorem ScaleAt.step {m p : Nat} {xs L : List Nat} {k q : Nat} (h : ScaleAt m p xs k q L) (hx : k < xs.length) :
  ScaleAt m p xs (k + 1) ((xs[k] * m + q) / 4294967296) (L.set k ((xs[k] * m + q) % 4294967296)) := by
 obtain ⟨D, h1, h2, h3⟩ := h
 refine ⟨D ++ [(xs[k] * m + q) % 4294967296], by simp [h1], ?_, ?_⟩
 ·rw [h2, set_zeros D _ _ k h1 (by omega)]; congr 2
 ·rw [h3, List.drop_eq_getElem_cons hx, scaleL]
  simp
theorem ScaleAt.last {m p : Nat} {xs L : List Nat} {q : Nat} (h : ScaleAt m p xs xs.length q L) : L.set xs.length q = scaleL m xs p := by
 obtain ⟨D, h1, h2, h3⟩ := h
 rw [h3, h2, set_zeros D _ _ _ h1 (by omega), List.drop_length, scaleL, show xs.length + 1 - xs.length - 1 = 0 by omega]
 simp
set_option maxHeartbeats 1000000 in
theorem scale_any (A : Option Addr) (c : Nat) (xs : List Nat) (m p : Nat) (w : World) (ha : Mg w A c xs) (hm : m < 4294967296) (hp : p < 4294967296) (hs : xs.length ≤ 1073741824) :
  Calls Tryz.prog 75 #[.slice A xs.length c, .int .u32 m, .int .u32 p] w (RetN w (val xs * m + p)) := by
 have hmk := make32 (xs.length + 1) (by omega)
 rw [show ((xs.length + 1 : Nat) : Int) = (xs.length : Int) + 1 from by omega] at hmk
 go_enter Tryz.func75, Tryz.ntmps75
 go_wp2
 go_loopw [8, 19] (fun cr i wr => ∃ (k q : Nat) (L : List Nat), k ≤ xs.length ∧ i = .int .i64 k ∧ cr = .int .u32 q ∧ q < 4294967296 ∧ Below w.heap.size w wr ∧ LB wr w.heap.size L ∧ ScaleAt m p xs k q L) (fun _ i _ => xs.length - (intOf i).toNat)
 case atStart => exact ⟨0, p, _, Nat.zero_le _, rfl, rfl, hp, (Below.refl _ _).alloc (Nat.le_refl _) _, LB.made w (xs.length + 1), .start _ _ _⟩
 case round =>
  obtain ⟨k, q, L, hk, rfl, rfl, hq, hbl, hL, hat⟩ := hrel
  have hgl := hL.lt
  have hkL : k < L.length := by rw [hat.len (by omega)]; omega
  have cell0 := hL.cell k hkL
  have free0 := hL.free k
  have hwz := hbl.size
  by_cases hkl : k < xs.length
  ·obtain ⟨ba, oa, rfl, hba, hca⟩ := ha.rd.at_ hkl
   have c1 := (hbl.cell (p := ⟨ba, oa + k, none⟩) hba).trans (hca k hkl)
   have o1 := ha.ok.get hkl
   have hba2 : ba < wr.heap.size := by omega
   unfold lim at c1
   clear hca
   obtain ⟨p0, p1⟩ := prod_bd xs[k] m o1 hm
   have hmb := mul_bound o1 hm (p := 0) (by omega) hq
   go_wp2_with (go_at_call 96; refine (split_any _ _ (by omega) (by omega)).mono ?_; rintro e w1 ⟨rfl, hb1⟩; obtain ⟨hc1, hf1⟩ := bcell hb1; have hgl1 := Nat.lt_of_lt_of_le hgl hb1.size)
   go_region
   go_wp2
   go_roundw
   case rel => exact ⟨k + 1, (xs[k] * m + q) / 4294967296, L.set k ((xs[k] * m + q) % 4294967296), by omega, by go_num, val_i (by rw [muladd2]; omega), by omega, (by repeat (first | exact hbl | exact hbl.trans (hb1.mono hwz) | refine Below.drew ?_ | refine below_drewN ?_ _ | refine Below.setCell ?_ (by exact Nat.le_refl _) _ | refine Below.alloc ?_ (by simp; omega) _)), (by repeat (first | exact hL | exact hL.below hb1 hgl | refine LB.drew ?_ | refine LB.drewN ?_ _ | refine LB.alloc ?_ _ | refine LB.set_ ?_ _ _ _ (by rw [muladd2]; omega))), hat.step hkl⟩
   case measure => simp [intOf]; omega
  ·obtain rfl : k = xs.length := by omega
   go_wp2_with (go_at_call 97; refine trim_fin (hL.set_ _ _ q rfl) (by rw [hat.last]; exact ok_scaleL _ _ _ hm ha.ok hp) (by rw [hat.last, length_scaleL]) (by omega) (val xs * m + p) (by rw [hat.last, val_scaleL]) (hbl.setCell (by exact Nat.le_refl _) _) ?_; rintro e w1 ⟨R, cc, rfl, hr1, hr2⟩)
   go_ret
   exact ⟨R, cc, rfl, hr1, hr2⟩
end Go.Proofs.YtfdmlfpldgobjaaGreatDoor
/- The built-in append, told of lists: a slice that the call owns, and one that is only read. Conditions: none. -/
namespace Go.Proofs.YtfdmlfpldgobjaaGreatDoor
open Go.RowKit
section
variable {P : Program} {α : Type}
theorem own_none_src {w : World} {base : Nat} {e : TypeId} {v : Value} {n : Nat} {xs : List Value} {t ty : TypeId} {i : TypeInfo} (ht : P.underlying t = some (.slice e)) (hi : P.info? e = some i) (hown : w.ownsRow base e 1 v n xs) (c : Nat) :
  (Builtin.append_ #[t, t] ty #[v, .slice none 0 c]).run P w = .ok v w := by
 rcases hown.2 with ⟨rfl, _⟩ | ⟨g, cap, cur, rfl, _, _, hnc, _⟩
 ·simp [Builtin.append_, run_underlying ht, sizeOf, typeInfo, hi, Builtin.lenOf, Builtin.firstCells]
 ·simp [Builtin.append_, run_underlying ht, sizeOf, typeInfo, hi, Builtin.lenOf, Builtin.firstCells, hnc, storeCells]
theorem Rd.src {f : α → Value} {w : World} {ad : Addr} {ys : List α} (hr : Rd f w (some ad) ys) : ∀ j u, (ys.map f)[j]? = some u → w.cell? (ad.add j) = some u := by
 intro j u hu
 rw [List.getElem?_map] at hu
 obtain ⟨y, hy, rfl⟩ := Option.map_eq_some_iff.1 hu
 obtain ⟨hj, rfl⟩ := List.getElem?_eq_some_iff.1 hy
 obtain ⟨b, o, he, _, hc⟩ := hr.at_ hj
 injection he with he
 subst he
 have : (⟨b, o, none⟩ : Addr).add j = ⟨b, o + j, none⟩ := by unfold Addr.add; split <;> simp_all
 rw [this]
 exact hc j hj
/-- append(s, x...): s nil or the call's own, x read alone. -/
theorem run_app {w : World} (t ty e : TypeId) (z : Value) (bytes : Nat) (ht : P.underlying t = some (.slice e)) (hinfo : (P.info? e).map (fun i => (i.zero, i.size, i.bytes)) = some (some z, 1, bytes)) (hz1 : z.cells.size = 1)
  (base : Nat) (f : α → Value) (h1 : ∀ x, (f x).oneCell' = true) (v : Value) (xs : List α) (hown : w.ownsRow base e 1 v xs.length (xs.map f)) (A : Option Addr) (c : Nat) (ys : List α) (hr : Rd f w A ys)
  (h63 : xs.length + ys.length ≤ 9223372036854775807) (hbytes : (xs.length + ys.length) * bytes ≤ 140737488355328) (hbase : base ≤ w.heap.size) :
  ∃ v' w', (Builtin.append_ #[t, t] ty #[v, .slice A ys.length c]).run P w = .ok v' w' ∧ w'.ownsRow base e 1 v' (xs ++ ys).length ((xs ++ ys).map f) ∧ w.grownBy w' v.ownBlock ∧ (v'.ownBlock = v.ownBlock ∨ v'.ownBlock = some w.heap.size) := by
 obtain ⟨i, hi, hzz⟩ := Option.map_eq_some_iff.1 hinfo
 simp only [Prod.mk.injEq] at hzz
 obtain ⟨hz, hs, hb⟩ := hzz
 cases A with
 | none =>
  have hy : ys = [] := by
   cases ys with
   | nil => rfl
   | cons y r => obtain ⟨_, _, h, _⟩ := hr.at_ (k := 0) (by simp); cases h
  subst hy
  exact ⟨v, w, own_none_src ht hi hown c, by simpa using hown, World.grownBy.refl w _, .inl rfl⟩
 | some ad =>
  obtain ⟨v', w', g1, g2, g3, _, g5⟩ := run_append_own_at (P := P) w base t ty e i z 1 bytes ht hi hz hs hb hz1 (by omega) v xs.length (xs.map f) hown ad ys.length c (ys.map f) (by simp) hr.src
   (fun u hu => by obtain ⟨x, _, rfl⟩ := List.mem_map.1 hu; exact h1 x) (by unfold maxLen; omega) hbytes hbase
  exact ⟨v', w', g1, by rw [List.length_append, List.map_append]; exact g2, g3, g5⟩
theorem wpList_app {w : World} {ops : Array Oper} {rest : List Oper} {o : Oper} {a : Act} {Q : Exit → Act → World → Prop} (hgd : o.guard = none) (s x : Operand) (t : TypeId)
  (ho : o.op = .call { callee := .builtin .append, args := #[s, x], argTypes := #[t, t] }) (e : TypeId) (z : Value) (bytes : Nat) (ht : P.underlying t = some (.slice e)) (hinfo : (P.info? e).map (fun i => (i.zero, i.size, i.bytes)) = some (some z, 1, bytes)) (hz1 : z.cells.size = 1)
  (base : Nat) (f : α → Value) (h1 : ∀ x, (f x).oneCell' = true) (v : Value) (xs : List α) (hs : a.eval s = v) (hown : w.ownsRow base e 1 v xs.length (xs.map f)) (A : Option Addr) (c : Nat) (ys : List α) (hx : a.eval x = .slice A ys.length c) (hr : Rd f w A ys)
  (h63 : xs.length + ys.length ≤ 9223372036854775807) (hbytes : (xs.length + ys.length) * bytes ≤ 140737488355328) (hbase : base ≤ w.heap.size)
  (h : ∀ v' w', w'.ownsRow base e 1 v' (xs ++ ys).length ((xs ++ ys).map f) → w.grownBy w' v.ownBlock → (v'.ownBlock = v.ownBlock ∨ v'.ownBlock = some w.heap.size) → wpList P ops Q rest (a.put o.dst v') w') : wpList P ops Q (o :: rest) a w := by
 refine wpList_plain hgd fun _ hK => ?_
 obtain ⟨v', w', hrun, h2, h3, h4⟩ := run_app (P := P) t o.type e z bytes ht hinfo hz1 base f h1 v xs hown A c ys hr h63 hbytes hbase
 unfold Oper.wp execOp
 simp only [ho, resolve, invoke, builtin, Sem.run_bind, Sem.run_pure, Result.andThen_ok, List.map_toArray, List.map_cons, List.map_nil, hs, hx, hrun]
 exact hK _ _ (h v' w' h2 h3 h4)
/-- What the call owns can be read. -/
theorem own_rd {w : World} {base : Nat} {e : TypeId} {f : α → Value} {v : Value} {xs : List α} (h : w.ownsRow base e 1 v xs.length (xs.map f)) : ∃ A c, v = .slice A xs.length c ∧ xs.length ≤ c ∧ c ≤ 9223372036854775807 ∧ Rd f w A xs := by
 rcases h.2 with ⟨rfl, h0⟩ | ⟨g, cap, cur, rfl, _, hg, hnc, hm, hcs, htake⟩
 ·have : xs = [] := List.eq_nil_of_length_eq_zero h0
  subst this
  exact ⟨none, 0, rfl, Nat.le_refl _, by omega, Rd.nil _ _⟩
 ·refine ⟨_, cap, rfl, hnc, by unfold maxLen at hm; omega, Rd.of_blk hg fun j hj => ?_⟩
  have : (cur.toList.take (xs.length * 1))[j]? = (xs.map f)[j]? := by rw [htake]
  rw [List.getElem?_take, if_pos (by omega)] at this
  simpa [hj] using this
theorem own_below {w w' : World} {base : Nat} {e : TypeId} {v : Value} {n : Nat} {xs : List Value} (h : w.ownsRow base e 1 v n xs) (hb : Below w.heap.size w w') : w'.ownsRow base e 1 v n xs := by
 refine ⟨h.1, ?_⟩
 rcases h.2 with h2 | ⟨g, cap, cur, hv, hg, hh, r⟩
 ·exact .inl h2
 ·exact .inr ⟨g, cap, cur, hv, hg, (hb.block g (Array.getElem?_eq_some_iff.1 hh).1).trans hh, r⟩
/-- behind an append: below base the world is as it was -/
theorem below_app {w w' : World} {base : Nat} {e : TypeId} {v : Value} {n : Nat} {xs : List Value} (hown : w.ownsRow base e 1 v n xs) (hg : w.grownBy w' v.ownBlock) (hbase : base ≤ w.heap.size) : Below base w w' :=
 (Below.refl base w).grown hg hbase fun k hk => (hown.lt k hk).1
end
end Go.Proofs.YtfdmlfpldgobjaaGreatDoor
