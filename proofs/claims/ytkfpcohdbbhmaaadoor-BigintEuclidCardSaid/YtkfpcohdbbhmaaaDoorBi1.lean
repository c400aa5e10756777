/- Magnitudes: walks of trim. Conditions: none. -/
import Derived.Test.YtkfpcohdbbhmaaaDoorBase
import Derived.Test.YtkfpcohdbbhmaaaDoorNat3
namespace Go.Proofs.YtkfpcohdbbhmaaaDoor
set_option linter.unusedVariables false
set_option linter.unusedSimpArgs false
open Go.RowKit Big

def lim (x : Nat) : Value := .int .u32 (x : Int)

/-- A slice of limbs: address A, capacity c, the limbs xs. -/
structure Mg (w : World) (A : Option Addr) (c : Nat) (xs : List Nat) : Prop where
  cap : xs.length ≤ c
  max : c ≤ 9223372036854775807
  ok : Ok xs
  rd : Rd lim w A xs

theorem Mg.below {w w' : World} {A : Option Addr} {c : Nat} {xs : List Nat} (h : Mg w A c xs) (hb : Below w.heap.size w w') : Mg w' A c xs := ⟨h.cap, h.max, h.ok, h.rd.below hb⟩

/-- what a function hands back: new memory or old, the limbs of n -/
def RetN (w : World) (n : Nat) (e : Ending) (w' : World) : Prop :=
  ∃ A c, e = .returned (.slice A (limbs n).length c) ∧ Mg w' A c (limbs n) ∧ Below w.heap.size w w'

/-- the same, the address told -/
def RetNA (w : World) (A : Option Addr) (n : Nat) (e : Ending) (w' : World) : Prop :=
  ∃ c, e = .returned (.slice A (limbs n).length c) ∧ Mg w' A c (limbs n) ∧ Below w.heap.size w w'
theorem RetNA.any {w w' : World} {A : Option Addr} {n : Nat} {e : Ending} (h : RetNA w A n e w') : RetN w n e w' := ⟨A, h⟩

theorem fin_trim {w w' : World} {A : Option Addr} {c : Nat} {xs : List Nat} (h : Mg w A c xs) (hb : Below w.heap.size w w') (n : Nat) (hn : n ≤ xs.length)
    (hz : ∀ i, n ≤ i → (hi : i < xs.length) → xs[i] = 0) (hl : n = 0 ∨ ∃ h : n - 1 < xs.length, xs[n - 1] ≠ 0) :
    RetNA w A (val xs) (.returned (.slice A n c)) w' := by
  have e := limbs_trim h.ok n hn hz hl
  have el : n = (limbs (val xs)).length := by rw [← e]; simp; omega
  refine ⟨c, by rw [← el], ⟨by rw [← el]; have := h.cap; omega, h.max, ok_limbs _, ?_⟩, hb⟩
  rw [← e]
  exact (h.rd.take n).below hb

set_option maxHeartbeats 400000 in
theorem trim_at (A : Option Addr) (c : Nat) (xs : List Nat) (w : World) (h : Mg w A c xs) :
    Calls Tryd.prog 86 #[.slice A xs.length c] w (RetNA w A (val xs)) := by
  have hcap := h.cap
  have hmax := h.max
  go_enter Tryd.func86, Tryd.ntmps86
  go_wp2
  go_loop [3] (fun i => ∃ k : Nat, k ≤ xs.length ∧ i = .int .i64 k ∧ Hid (∀ i, k ≤ i → (hi : i < xs.length) → xs[i] = 0)) (fun i => (intOf i).toNat)
  case atStart => exact ⟨xs.length, Nat.le_refl _, rfl, fun i h1 h2 => absurd h1 (by omega)⟩
  case round =>
    obtain ⟨k, hk, rfl, hz⟩ := hrel
    by_cases h0 : 0 < k
    · have hk1 : k - 1 < xs.length := by omega
      obtain ⟨b, o, rfl, hb, hc⟩ := h.rd.at_ hk1
      have c1 := hc (k - 1) hk1
      unfold lim at c1
      clear hc
      by_cases he : xs[k - 1] = 0
      · have he1 : ((xs[k - 1] : Int) == 0) = true := by simp [he]
        have HE := hid he
        clear he
        go_wp2
        go_round
        case rel => exact ⟨k - 1, by omega, by go_num, fun i h1 h2 => by
          by_cases hj : i = k - 1
          · subst hj; exact HE.out
          · exact hz.out i (by omega) h2⟩
        case measure => simp [intOf]; omega
      · have he1 : ((xs[k - 1] : Int) == 0) = false := by simp; omega
        have HE := hid he
        clear he
        go_wp2
        go_ret
        exact fin_trim h (Below.refl _ _) k hk hz.out (.inr ⟨hk1, HE.out⟩)
    · have hk0 : k = 0 := by omega
      subst hk0
      go_wp2
      go_ret
      exact fin_trim h (Below.refl _ _) 0 hk hz.out (.inl rfl)

theorem trim_any (A : Option Addr) (c : Nat) (xs : List Nat) (w : World) (h : Mg w A c xs) :
    Calls Tryd.prog 86 #[.slice A xs.length c] w (RetN w (val xs)) := (trim_at A c xs w h).mono fun _ _ h => h.any

/-- Block g holds just the limbs L. -/
def LB (w : World) (g : Nat) (L : List Nat) : Prop := w.heap[g]? = some (.cells (L.map lim).toArray 57 (0, 0))

section
variable {w w' : World} {g : Nat} {L : List Nat}
theorem LB.lt (h : LB w g L) : g < w.heap.size := (Array.getElem?_eq_some_iff.1 h).1
theorem LB.cell (h : LB w g L) (k : Nat) (hk : k < L.length) : w.cell? ⟨g, k, none⟩ = some (.int .u32 ((L[k] : Nat) : Int)) := by
  rw [cell_of_row w g k _ _ _ h]; simp [hk, lim]
theorem LB.free (h : LB w g L) (k : Nat) : w.frozen? ⟨g, k, none⟩ = false := frozen_of_row w g k _ _ h
theorem LB.drew (h : LB w g L) : LB w.drew g L := h
theorem LB.drewN (h : LB w g L) (n : Nat) : LB (w.drewN n) g L := h
theorem LB.alloc (h : LB w g L) (o : Obj) : LB (w.alloc o) g L := (Below.heap_alloc w o g h.lt).trans h
theorem LB.set_ (h : LB w g L) (k : Nat) (x : Int) (y : Nat) (hx : x = (y : Int)) : LB (w.setCell ⟨g, k, none⟩ (.int .u32 x)) g (L.set k y) := by
  unfold LB at h ⊢
  subst hx
  rw [heap_setCell_same w g k _ _ _ h]
  simp [lim]
theorem LB.below {B : Nat} (h : LB w g L) (hb : Below B w w') (hg : g < B) : LB w' g L := (hb.block g hg).trans h
theorem LB.mg (h : LB w g L) (ho : Ok L) (hl : L.length ≤ 9223372036854775807) : Mg w (some ⟨g, 0, none⟩) L.length L :=
  ⟨Nat.le_refl _, hl, ho, Rd.of_blk h fun j hj => by simp [hj]⟩
theorem LB.made (w : World) (n : Nat) : LB (w.alloc (.cells (madeCells #[.int .u32 0] n) 57)) w.heap.size (List.replicate n 0) := by
  unfold LB
  rw [heap_alloc_new]
  have e : madeCells #[.int .u32 0] n = ((List.replicate n 0).map lim).toArray := by
    apply Array.ext
    · simp [madeCells]
    · intro i h1 h2
      simp [madeCells, lim, Nat.mod_one]
  rw [e]
end

theorem info32 : (Tryd.prog.info? 57).map (fun i => (i.zero, i.size, i.bytes)) = some (some (.int .u32 0), 1, 4) := by kernel_rfl

/-- make([]uint32, n): an equation for every world. -/
theorem make32 (n : Nat) (hn : n ≤ 70368744177664) (w : World) :
    (Instr.makeSlice 22 (.int .i64 (n : Int)) (.int .i64 (n : Int))).run Tryd.prog w = .ok (.slice (some ⟨w.heap.size, 0, none⟩) n n) (w.alloc (.cells (madeCells #[.int .u32 0] n) 57)) :=
  run_make_row' (P := Tryd.prog) 22 57 (.int .u32 0) 4 Tryd.underlying22 info32 rfl .i64 .i64 n (by omega) (by omega) w

end Go.Proofs.YtkfpcohdbbhmaaaDoor
