/- Reading order: near and leftmost of the reference. Conditions: valid boxes, at most 4096, a gap of 0 to 4096. -/
import Derived.Test.YtjdgjhaggpahkaaZRx3
import Derived.Test.YtjdgjhaggpahkaaZNr5
set_option linter.unusedVariables false
set_option linter.unusedSimpArgs false
namespace Go.Proofs.Ytjdgjhaggpahkaa
open Go.RowKit Go.Deep
def nearX (a b : Bx) (gap : Int) : Bool := if b.x < a.x then decide (a.x < b.x + b.w + gap) else decide (b.x < a.x + a.w + gap)
set_option maxHeartbeats 4000000 in
theorem Rnear0_g (a b : Bx) (gap : Int) (ha : okB a = true) (hb : okB b = true) (hg0 : 0 ≤ gap) (hg1 : gap ≤ 4096) (hle : ¬ b.x < a.x) (w : World) :
  Calls Try.prog 34 #[.agg #[.int .i64 a.x, .int .i64 a.y, .int .i64 a.w, .int .i64 a.h], .agg #[.int .i64 b.x, .int .i64 b.y, .int .i64 b.w, .int .i64 b.h], .int .i64 gap] w (RetB w (decide (b.x < a.x + a.w + gap))) := by
 obtain ⟨k1, k2, k3, k4, k5, k6, k7, k8⟩ := okB_b ha
 obtain ⟨R, hR⟩ : ∃ R, decide (b.x < a.x + a.w + gap) = R := ⟨_, rfl⟩
 have hT := hid fun (h : b.x < a.x + a.w + gap) => (show R = true from by rw [← hR]; exact decide_eq_true h)
 have hF := hid fun (h : ¬ b.x < a.x + a.w + gap) => (show R = false from by rw [← hR]; exact decide_eq_false h)
 rw [hR]
 clear hR ha hb
 obtain ⟨x, y, bw, bh⟩ := a
 obtain ⟨x2, y2, bw2, bh2⟩ := b
 dsimp only at *
 have w1' : IntKind.i64.wrap (x + bw) = x + bw := by rw [IntKind.wrap_i64]; omega
 have w2' : IntKind.i64.wrap (x + bw + gap) = x + bw + gap := by rw [IntKind.wrap_i64]; omega
 clear k1 k2 k3 k4 k5 k6 k7 k8
 go_enter Try.func34, Try.ntmps34
 go_upto_region 1 with fail
 refine enterR2 (P := fun u => Code.wp _ _ _ _ u) (c0 := [.int .i64 x, .int .i64 y, .int .i64 bw, .int .i64 bh]) (c1 := [.int .i64 x2, .int .i64 y2, .int .i64 bw2, .int .i64 bh2]) ?_
 intro u HB r0 r1 zn0 zn1 hsz
 clear hsz zn0 zn1
 have c0 : u.cell? ⟨w.heap.size, 0, none⟩ = some (.int .i64 x) := r0 0 _ rfl
 have c1 : u.cell? ⟨w.heap.size, 1, none⟩ = some (.int .i64 y) := r0 1 _ rfl
 have c2 : u.cell? ⟨w.heap.size, 2, none⟩ = some (.int .i64 bw) := r0 2 _ rfl
 have c3 : u.cell? ⟨w.heap.size, 3, none⟩ = some (.int .i64 bh) := r0 3 _ rfl
 have d0 : u.cell? ⟨w.heap.size + 1, 0, none⟩ = some (.int .i64 x2) := r1 0 _ rfl
 have d1 : u.cell? ⟨w.heap.size + 1, 1, none⟩ = some (.int .i64 y2) := r1 1 _ rfl
 have d2 : u.cell? ⟨w.heap.size + 1, 2, none⟩ = some (.int .i64 bw2) := r1 2 _ rfl
 have d3 : u.cell? ⟨w.heap.size + 1, 3, none⟩ = some (.int .i64 bh2) := r1 3 _ rfl
 clear r0 r1
 by_cases h : x2 < x + bw + gap
 ·obtain rfl := hT.out h
  clear hT hF
  go_wp2
  go_ret
  exact ⟨rfl, HB⟩
 ·obtain rfl := hF.out h
  clear hT hF
  go_wp2
  go_ret
  exact ⟨rfl, HB⟩
set_option maxHeartbeats 4000000 in
theorem Rnear_g (a b : Bx) (gap : Int) (ha : okB a = true) (hb : okB b = true) (hg0 : 0 ≤ gap) (hg1 : gap ≤ 4096) (w : World) :
  Calls Try.prog 34 #[.agg #[.int .i64 a.x, .int .i64 a.y, .int .i64 a.w, .int .i64 a.h], .agg #[.int .i64 b.x, .int .i64 b.y, .int .i64 b.w, .int .i64 b.h], .int .i64 gap] w (RetB w (nearX a b gap)) := by
 unfold nearX
 by_cases hle : b.x < a.x
 ·rw [if_pos hle]
  have HC := hid fun (W : World) => Rnear0_g b a gap hb ha hg0 hg1 (by omega) W
  generalize decide (a.x < b.x + b.w + gap) = R at *
  clear ha hb
  obtain ⟨x, y, bw, bh⟩ := a
  obtain ⟨x2, y2, bw2, bh2⟩ := b
  dsimp only at hle HC ⊢
  go_enter Try.func34, Try.ntmps34
  go_upto_region 1 with fail
  refine enterR2 (P := fun u => Code.wp _ _ _ _ u) (c0 := [.int .i64 x, .int .i64 y, .int .i64 bw, .int .i64 bh]) (c1 := [.int .i64 x2, .int .i64 y2, .int .i64 bw2, .int .i64 bh2]) ?_
  intro u HB r0 r1 zn0 zn1 hsz
  clear hsz zn0 zn1
  have c0 : u.cell? ⟨w.heap.size, 0, none⟩ = some (.int .i64 x) := r0 0 _ rfl
  have c1 : u.cell? ⟨w.heap.size, 1, none⟩ = some (.int .i64 y) := r0 1 _ rfl
  have c2 : u.cell? ⟨w.heap.size, 2, none⟩ = some (.int .i64 bw) := r0 2 _ rfl
  have c3 : u.cell? ⟨w.heap.size, 3, none⟩ = some (.int .i64 bh) := r0 3 _ rfl
  have d0 : u.cell? ⟨w.heap.size + 1, 0, none⟩ = some (.int .i64 x2) := r1 0 _ rfl
  have d1 : u.cell? ⟨w.heap.size + 1, 1, none⟩ = some (.int .i64 y2) := r1 1 _ rfl
  have d2 : u.cell? ⟨w.heap.size + 1, 2, none⟩ = some (.int .i64 bw2) := r1 2 _ rfl
  have d3 : u.cell? ⟨w.heap.size + 1, 3, none⟩ = some (.int .i64 bh2) := r1 3 _ rfl
  clear r0 r1
  go_wp2_with fail
  refine (HC.out _).mono ?_
  rintro e w1 ⟨rfl, hv⟩
  replace HB := bel_step HB hv
  clear HC hv c0 c1 c2 c3 d0 d1 d2 d3
  go_wp2
  go_ret
  exact ⟨rfl, HB⟩
 ·rw [if_neg hle]
  exact Rnear0_g a b gap ha hb hg0 hg1 hle w
/-- the leftmost of those not taken, among the first m -/
def LmB (l : List Bx) (T : List Nat) (m : Nat) (x : Int) : Prop := (x = -1 ∧ ∀ j, j < m → j ∈ T) ∨ ∃ k : Nat, x = (k : Int) ∧ k < m ∧ k ∉ T ∧ ∀ j, j < m → j ∉ T → bX l k ≤ bX l j
theorem LmB.skip {l : List Bx} {T : List Nat} {m : Nat} {x : Int} (h : LmB l T m x) (ht : m ∈ T) : LmB l T (m + 1) x := by
 rcases h with ⟨rfl, h⟩ | ⟨k, rfl, h1, h2, h3⟩
 ·exact .inl ⟨rfl, fun j hj => by
   rcases Nat.lt_or_ge j m with q | q
   ·exact h j q
   ·obtain rfl : j = m := by omega
    exact ht⟩
 ·exact .inr ⟨k, rfl, by omega, h2, fun j hj hn => by
   rcases Nat.lt_or_ge j m with q | q
   ·exact h3 j q hn
   ·obtain rfl : j = m := by omega
    exact absurd ht hn⟩
theorem LmB.first {l : List Bx} {T : List Nat} {m : Nat} {x : Int} (h : LmB l T m x) (hx : x < 0) (ht : m ∉ T) : LmB l T (m + 1) (m : Int) := by
 rcases h with ⟨rfl, h⟩ | ⟨k, rfl, h1, h2, h3⟩
 ·exact .inr ⟨m, rfl, by omega, ht, fun j hj hn => by
   rcases Nat.lt_or_ge j m with q | q
   ·exact absurd (h j q) hn
   ·obtain rfl : j = m := by omega
    exact Int.le_refl _⟩
 ·omega
theorem LmB.less {l : List Bx} {T : List Nat} {m k : Nat} (h : LmB l T m (k : Int)) (ht : m ∉ T) (hx : bX l m < bX l k) : LmB l T (m + 1) (m : Int) := by
 rcases h with ⟨e, h⟩ | ⟨k', e, h1, h2, h3⟩
 ·omega
 ·obtain rfl : k = k' := by omega
  exact .inr ⟨m, rfl, by omega, ht, fun j hj hn => by
   rcases Nat.lt_or_ge j m with q | q
   ·have := h3 j q hn; omega
   ·obtain rfl : j = m := by omega
    exact Int.le_refl _⟩
theorem LmB.more {l : List Bx} {T : List Nat} {m k : Nat} (h : LmB l T m (k : Int)) (hx : ¬ bX l m < bX l k) : LmB l T (m + 1) (k : Int) := by
 rcases h with ⟨e, h⟩ | ⟨k', e, h1, h2, h3⟩
 ·omega
 ·obtain rfl : k = k' := by omega
  exact .inr ⟨k, rfl, by omega, h2, fun j hj hn => by
   rcases Nat.lt_or_ge j m with q | q
   ·exact h3 j q hn
   ·obtain rfl : j = m := by omega
    omega⟩
def RetLm (l : List Bx) (T : List Nat) (n : Nat) (w : World) (e : Ending) (w' : World) : Prop := ∃ x : Int, e = .returned (.int .i64 x) ∧ LmB l T n x ∧ Below w.heap.size w w'
set_option maxHeartbeats 8000000 in
theorem Rleft_g (l : List Bx) (A : Option Addr) (c : Nat) (T : List Nat) (g : Nat) {w : World} (hl : Qb w A c l) (h4 : l.length ≤ 4096) (hT : w.rowIs g 4 l.length (tkF T)) :
  Calls Try.prog 33 #[.slice A l.length c, .slice (some ⟨g, 0, none⟩) l.length l.length] w (RetLm l T l.length w) := by
 obtain ⟨n, hn⟩ : ∃ n, l.length = n := ⟨_, rfl⟩
 have cc := Nat.le_trans hl.cap hl.max
 have hl0 := hid hl
 rw [hn] at cc h4 hT ⊢
 have hTk := hid fun (j : Nat) (hj : j < n) (W : World) (hb : Below w.heap.size w W) => (rowK hT hb).cell (i := j) hj
 have HB := Below.refl w.heap.size w
 replace hn := hid hn
 clear hl hT
 go_enter Try.func33, Try.ntmps33
 go_wp2
 go_loopw [6, 5] (fun s6 s5 wr => ∃ (i : Nat) (x : Int), s6 = .int .i64 (i : Int) ∧ s5 = .int .i64 x ∧ i ≤ n ∧ Hid (LmB l T i x) ∧ Below w.heap.size w wr) (fun s6 _ _ => n - (intOf s6).toNat)
 case atStart => exact ⟨0, -1, rfl, rfl, by omega, .inl ⟨rfl, fun j hj => by omega⟩, HB⟩
 case round =>
  clear HB
  obtain ⟨i, x, rfl, rfl, hi, hL, HB⟩ := hrel
  by_cases hin : i < n
  ·have hii : (i : Int) < (n : Int) := by omega
   have c0 := hTk.out i hin wr HB
   unfold tkF at c0
   obtain ⟨b, o, hA⟩ : ∃ b o, A = some ⟨b, o, none⟩ := by
    obtain ⟨b, o, hA, _⟩ := hl0.out.at_ (k := i) (by have := hn.out; omega)
    exact ⟨b, o, hA⟩
   subst hA
   by_cases ht : i ∈ T
   ·have hc : T.contains i = true := by simpa using ht
    rw [hc] at c0
    have hL2 := hid (hL.out.skip ht)
    clear hc ht hL hTk
    go_upto_region 5 with fail
    go_quiet (fail)
    have hv : Below wr.heap.size wr (wr.drewN nq) := below_drewN (Below.refl _ _) _
    generalize hvq : wr.drewN nq = v2 at hv ⊢
    replace HB := bel_step HB hv
    clear hvq hv
    go_wp2
    go_roundw
    case rel => exact ⟨i + 1, x, by go_num, rfl, by omega, hL2, HB⟩
    case measure => simp [intOf]; omega
   ·have hc : T.contains i = false := by simpa using ht
    rw [hc] at c0
    obtain ⟨q0, _, _, _⟩ := (hl0.out.below HB).xy hn.out hin
    by_cases hx : x < 0
    ·have hL2 := hid (hL.out.first hx ht)
     clear hc ht hL hTk
     go_upto_region 5 with fail
     go_quiet (fail)
     have hv : Below wr.heap.size wr (wr.drewN nq) := below_drewN (Below.refl _ _) _
     generalize hvq : wr.drewN nq = v2 at hv ⊢
     replace HB := bel_step HB hv
     clear hvq hv
     go_wp2
     go_roundw
     case rel => exact ⟨i + 1, i, by go_num, rfl, by omega, hL2, HB⟩
     case measure => simp [intOf]; omega
    ·obtain ⟨k, rfl, hkn⟩ : ∃ k : Nat, x = (k : Int) ∧ k < n := by
      rcases hL.out with ⟨rfl, _⟩ | ⟨k, rfl, h1, _⟩
      ·exact absurd (by omega) hx
      ·exact ⟨k, rfl, by omega⟩
     obtain ⟨p0, _, _, _⟩ := (hl0.out.below HB).xy hn.out hkn
     have hLe := hid fun (h : (l.getD i default).x < (l.getD k default).x) => hL.out.less ht h
     have hMo := hid fun (h : ¬ (l.getD i default).x < (l.getD k default).x) => hL.out.more h
     generalize (l.getD i default).x = xi at *
     generalize (l.getD k default).x = xk at *
     have hkk : (k : Int) < (n : Int) := by omega
     by_cases hlt : xi < xk
     ·have hL2 := hid (hLe.out hlt)
      clear hc ht hL hTk hLe hMo
      go_upto_region 5 with fail
      go_quiet (fail)
      have hv : Below wr.heap.size wr (wr.drewN nq) := below_drewN (Below.refl _ _) _
      generalize hvq : wr.drewN nq = v2 at hv ⊢
      replace HB := bel_step HB hv
      clear hvq hv
      go_wp2
      go_roundw
      case rel => exact ⟨i + 1, i, by go_num, rfl, by omega, hL2, HB⟩
      case measure => simp [intOf]; omega
     ·have hL2 := hid (hMo.out hlt)
      clear hc ht hL hTk hLe hMo
      go_upto_region 5 with fail
      go_quiet (fail)
      have hv : Below wr.heap.size wr (wr.drewN nq) := below_drewN (Below.refl _ _) _
      generalize hvq : wr.drewN nq = v2 at hv ⊢
      replace HB := bel_step HB hv
      clear hvq hv
      go_wp2
      go_roundw
      case rel => exact ⟨i + 1, k, by go_num, rfl, by omega, hL2, HB⟩
      case measure => simp [intOf]; omega
  ·obtain rfl : i = n := by omega
   have hii : ¬ (i : Int) < (i : Int) := by omega
   clear hTk
   go_wp2
   go_ret
   exact ⟨x, rfl, hL.out, HB⟩
end Go.Proofs.Ytjdgjhaggpahkaa
