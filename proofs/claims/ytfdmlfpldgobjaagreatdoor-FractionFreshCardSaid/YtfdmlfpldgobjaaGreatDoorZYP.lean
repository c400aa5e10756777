/- The fractions' reference: walks of trim, compare, plus, minus. Conditions: none. -/
import Derived.Test.YtfdmlfpldgobjaaGreatDoorZYH
import Derived.Test.YtfdmlfpldgobjaaGreatDoorZYB
set_option linter.unusedVariables false
set_option linter.unusedSimpArgs false
namespace Go.Proofs.YtfdmlfpldgobjaaGreatDoor
open Go.RowKit Big
set_option maxHeartbeats 400000 in
theorem Qtrim_at (A : Option Addr) (c : Nat) (xs : List Nat) (w : World) (h : Mg w A c xs) :
  Calls Tryz.prog 70 #[.slice A xs.length c] w (RetNA w A (val xs)) := by
 have hcap := h.cap
 have hmax := h.max
 go_enter Tryz.func70, Tryz.ntmps70
 go_wp2
 go_loop [3] (fun i => ∃ k : Nat, k ≤ xs.length ∧ i = .int .i64 k ∧ Hid (∀ i, k ≤ i → (hi : i < xs.length) → xs[i] = 0)) (fun i => (intOf i).toNat)
 case atStart => exact ⟨xs.length, Nat.le_refl _, rfl, fun i h1 h2 => absurd h1 (by omega)⟩
 case round =>
  obtain ⟨k, hk, rfl, hz⟩ := hrel
  by_cases h0 : 0 < k
  ·have hk1 : k - 1 < xs.length := by omega
   obtain ⟨b, o, rfl, hb, hc⟩ := h.rd.at_ hk1
   have c1 := hc (k - 1) hk1
   unfold lim at c1
   clear hc
   by_cases he : xs[k - 1] = 0
   ·have he1 : ((xs[k - 1] : Int) == 0) = true := by simp [he]
    have HE := hid he
    clear he
    go_wp2
    go_round
    case rel => exact ⟨k - 1, by omega, by go_num, fun i h1 h2 => by
     by_cases hj : i = k - 1
     ·subst hj; exact HE.out
     ·exact hz.out i (by omega) h2⟩
    case measure => simp [intOf]; omega
   ·have he1 : ((xs[k - 1] : Int) == 0) = false := by simp; omega
    have HE := hid he
    clear he
    go_wp2
    go_ret
    exact fin_trim h (Below.refl _ _) k hk hz.out (.inr ⟨hk1, HE.out⟩)
  ·have hk0 : k = 0 := by omega
   subst hk0
   go_wp2
   go_ret
   exact fin_trim h (Below.refl _ _) 0 hk hz.out (.inl rfl)
/-- what a call owns, trimmed -/
theorem Qown_trim {w wr : World} {v : Value} {D : List Nat} {n : Nat} (hown : wr.ownsRow w.heap.size 61 1 v D.length (D.map lim)) (hbl : Below w.heap.size w wr) (ho : Ok D) (hv : val D = n) :
  Calls Tryz.prog 70 #[v] wr (RetNF w n) := by
 obtain ⟨A, c, rfl, h1, h2, h3⟩ := own_rd hown
 have hf := own_fresh hown
 have h := Qtrim_at A c D wr ⟨h1, h2, ho, h3⟩
 subst hv
 exact h.mono fun e w' ⟨c', g1, g2, g3⟩ => ⟨A, c', g1, g2, hbl.trans (g3.mono hbl.size), hf⟩
set_option maxHeartbeats 1000000 in
theorem Qcompare_any (A B : Option Addr) (c d : Nat) (xs ys : List Nat) (w : World) (ha : Mg w A c xs) (hb : Mg w B d ys) (na : Nrm xs) (nb : Nrm ys) :
  Calls Tryz.prog 46 #[.slice A xs.length c, .slice B ys.length d] w (RetI w (ord (val xs) (val ys))) := by
 have m1 := ha.cap
 have m2 := ha.max
 have m3 := hb.cap
 have m4 := hb.max
 by_cases hl : xs.length = ys.length
 ·have hl1 : ¬ (xs.length : Int) < (ys.length : Int) := by omega
  have hl2 : ¬ (ys.length : Int) < (xs.length : Int) := by omega
  have HL := hid hl
  clear hl
  go_enter Tryz.func46, Tryz.ntmps46
  go_wp2
  go_loopw [5] (fun i wr => ∃ k : Nat, k ≤ xs.length ∧ i = .int .i64 ((k : Int) - 1) ∧ Below w.heap.size w wr ∧ Hid (xs.drop k = ys.drop k)) (fun i _ => (intOf i + 1).toNat)
  case atStart => exact ⟨xs.length, Nat.le_refl _, rfl, Below.refl _ _, by unfold Hid; rw [List.drop_length, HL.out, List.drop_length]⟩
  case round =>
   obtain ⟨k, hk, rfl, hbl, heq⟩ := hrel
   by_cases h0 : 0 < k
   ·have hk1 : k - 1 < xs.length := by omega
    have hk2 : k - 1 < ys.length := by have := HL.out; omega
    obtain ⟨ba, oa, rfl, hba, hca⟩ := ha.rd.at_ hk1
    obtain ⟨bb, ob, rfl, hbb, hcb⟩ := hb.rd.at_ hk2
    have c1 := (hbl.cell (p := ⟨ba, oa + (k - 1), none⟩) hba).trans (hca (k - 1) hk1)
    have c2 := (hbl.cell (p := ⟨bb, ob + (k - 1), none⟩) hbb).trans (hcb (k - 1) hk2)
    unfold lim at c1 c2
    clear hca hcb
    have D := fun h => val_drop_lt (a := xs) (b := ys) ha.ok (k - 1) HL.out hk1 (by rw [show k - 1 + 1 = k by omega]; exact heq.out) h
    have E := fun h => val_drop_lt (a := ys) (b := xs) hb.ok (k - 1) HL.out.symm hk2 (by rw [show k - 1 + 1 = k by omega]; exact heq.out.symm) h
    have HD := hid D
    have HE := hid E
    clear D E
    by_cases hlt : xs[k - 1] < ys[k - 1]
    ·have t1 : decide ((xs[k - 1] : Int) < (ys[k - 1] : Int)) = true := by simp; omega
     go_wp2
     go_quiet (fail)
     go_wp2
     go_ret
     exact ⟨ret_int (ord_lt (HD.out hlt)).symm, (by repeat (first | exact hbl | refine Below.drew ?_ | refine below_drewN ?_ _ | refine Below.setCell ?_ (by exact Nat.le_refl _) _ | refine Below.alloc ?_ (by simp; omega) _))⟩
    ·have t1 : decide ((xs[k - 1] : Int) < (ys[k - 1] : Int)) = false := by simp; omega
     by_cases hgt : ys[k - 1] < xs[k - 1]
     ·have t2 : decide ((ys[k - 1] : Int) < (xs[k - 1] : Int)) = true := by simp; omega
      go_wp2
      go_quiet (fail)
      go_wp2
      go_quiet (fail)
      go_wp2
      go_ret
      exact ⟨ret_int (ord_gt (HE.out hgt)).symm, (by repeat (first | exact hbl | refine Below.drew ?_ | refine below_drewN ?_ _ | refine Below.setCell ?_ (by exact Nat.le_refl _) _ | refine Below.alloc ?_ (by simp; omega) _))⟩
     ·have t2 : decide ((ys[k - 1] : Int) < (xs[k - 1] : Int)) = false := by simp; omega
      have he : Hid (xs[k - 1] = ys[k - 1]) := Nat.le_antisymm (by omega) (by omega)
      go_wp2
      go_quiet (fail)
      go_wp2
      go_quiet (fail)
      go_wp2
      go_roundw
      case rel => exact ⟨k - 1, by omega, by go_num, (by repeat (first | exact hbl | refine Below.drew ?_ | refine below_drewN ?_ _ | refine Below.setCell ?_ (by exact Nat.le_refl _) _ | refine Below.alloc ?_ (by simp; omega) _)), drop_step hk1 hk2 h0 heq.out he.out⟩
      case measure => simp [intOf]; omega
   ·have hk0 : k = 0 := by omega
    subst hk0
    go_wp2
    go_ret
    have e : xs = ys := heq.out
    subst e
    exact ⟨ret_int (ord_eq _).symm, hbl⟩
 ·by_cases hlt : xs.length < ys.length
  ·have h2 : (xs.length : Int) < (ys.length : Int) := by omega
   go_enter Tryz.func46, Tryz.ntmps46
   go_wp2
   go_ret
   exact ⟨ret_int (ord_lt (val_len_lt ha.ok nb hlt)).symm, Below.refl _ _⟩
  ·have h2 : ¬ (xs.length : Int) < (ys.length : Int) := by omega
   have h3 : (ys.length : Int) < (xs.length : Int) := by omega
   go_enter Tryz.func46, Tryz.ntmps46
   go_wp2
   go_ret
   exact ⟨ret_int (ord_gt (val_len_lt hb.ok na (by omega))).symm, Below.refl _ _⟩
set_option maxRecDepth 100000 in
set_option maxHeartbeats 2000000 in
theorem Qminus_fr (A B : Option Addr) (c d : Nat) (xs ys : List Nat) (w : World) (ha : Mg w A c xs) (hb : Mg w B d ys) (hs : xs.length ≤ 1048576) (hl : ys.length ≤ xs.length) (hle : val ys ≤ val xs) :
  Calls Tryz.prog 47 #[.slice A xs.length c, .slice B ys.length d] w (RetNF w (val xs - val ys)) := by
 have HLE := hid hle
 clear hle
 go_enter Tryz.func47, Tryz.ntmps47
 go_wp2
 go_loopw [5, 6, 7] (fun s5 s6 s7 wr => ∃ (k q : Nat) (v : Value) (D : List Nat), k ≤ xs.length ∧ s7 = .int .i64 k ∧ s6 = .int .u64 q ∧ q ≤ 1 ∧ s5 = v ∧ wr.ownsRow w.heap.size 61 1 v D.length (D.map lim) ∧ Below w.heap.size w wr ∧ Hid (Brw xs ys k q D)) (fun _ _ s7 _ => xs.length - (intOf s7).toNat)
 case atStart => exact ⟨0, 0, _, [], by omega, rfl, rfl, by omega, rfl, World.ownsRow_nil _ _ _ _, Below.refl _ _, Brw.start _ _⟩
 case round =>
  obtain ⟨k, q, v, D, hk, rfl, rfl, hq, rfl, hown, hbl, hc⟩ := hrel
  have hD := hc.out.len
  by_cases hx : k < xs.length
  ·obtain ⟨ba, oa, rfl, hba, hca⟩ := ha.rd.at_ hx
   have c1 := (hbl.cell (p := ⟨ba, oa + k, none⟩) hba).trans (hca k hx)
   have o1 := ha.ok.get hx
   unfold lim at c1
   by_cases hy : k < ys.length
   ·obtain ⟨bb, ob, rfl, hbb, hcb⟩ := hb.rd.at_ hy
    have c2 := (hbl.cell (p := ⟨bb, ob + k, none⟩) hbb).trans (hcb k hy)
    have o2 := hb.ok.get hy
    unfold lim at c2
    have hly := lb_at hy
    clear hcb
    have HC := hid (fun s hs => hc.out.step (s := s) hs (lb_lt ha.ok k))
    rw [lb_at hx, hly] at HC
    clear hca hc hly
    generalize xs[k] = x at *
    generalize ys[k] = y at *
    by_cases hlt : x < q + y
    ·obtain ⟨m, hm⟩ : ∃ m : Nat, m + y + q = 4294967296 + x := ⟨4294967296 + x - y - q, by omega⟩
     have hm2 : m < 4294967296 := by omega
     have HC2 := hid (HC.out m (by omega))
     rw [show 1 - m / 4294967296 = 1 by omega, show m % 4294967296 = m by omega] at HC2
     have hlt1 : (x : Int) < ((q : Int) + (y : Int)) := by omega
     have hm1 : (x : Int) + 4294967296 - ((q : Int) + (y : Int)) = (m : Int) := by omega
     clear HC hm hlt
     have hsz := hbl.size
     go_wp2_with (at_builtin; refine wpList_app rfl (.tmp 38) (.tmp 43) 22 rfl 61 (.int .u32 0) 4 Tryz.underlying22 info32 rfl w.heap.size lim (fun _ => rfl) _ D rfl (own_below hown ((Below.refl _ _).alloc (Nat.le_refl _) (.cells #[.int .u32 (m : Int)] 61))) _ 1 [m] rfl (rd_one lim _ m 61) (by simp; omega) (by simp; omega) (by simp; omega) ?_; intro v5 w5 hown5 hgr hwh)
     go_roundw
     case rel => exact ⟨k + 1, 1, v5, D ++ [m], by omega, by go_num, by first | rfl | (congr 1; omega), by omega, rfl, hown5, below_app1 hown hbl hgr, HC2⟩
     case measure => simp [intOf]; omega
    ·obtain ⟨m, hm⟩ : ∃ m : Nat, m + y + q = x := ⟨x - y - q, by omega⟩
     have hm2 : m < 4294967296 := by omega
     have HC2 := hid (HC.out (4294967296 + m) (by omega))
     rw [show 1 - (4294967296 + m) / 4294967296 = 0 by omega, show (4294967296 + m) % 4294967296 = m by omega] at HC2
     have hlt1 : ¬ (x : Int) < ((q : Int) + (y : Int)) := by omega
     have hm1 : (x : Int) - ((q : Int) + (y : Int)) = (m : Int) := by omega
     clear HC hm hlt
     have hsz := hbl.size
     go_wp2_with (at_builtin; refine wpList_app rfl (.tmp 38) (.tmp 43) 22 rfl 61 (.int .u32 0) 4 Tryz.underlying22 info32 rfl w.heap.size lim (fun _ => rfl) _ D rfl (own_below hown ((Below.refl _ _).alloc (Nat.le_refl _) (.cells #[.int .u32 (m : Int)] 61))) _ 1 [m] rfl (rd_one lim _ m 61) (by simp; omega) (by simp; omega) (by simp; omega) ?_; intro v5 w5 hown5 hgr hwh)
     go_roundw
     case rel => exact ⟨k + 1, 0, v5, D ++ [m], by omega, by go_num, by first | rfl | (congr 1; omega), by omega, rfl, hown5, below_app1 hown hbl hgr, HC2⟩
     case measure => simp [intOf]; omega
   ·have hly := lb_out (by omega : ys.length ≤ k)
    have HC := hid (fun s hs => hc.out.step (s := s) hs (lb_lt ha.ok k))
    rw [lb_at hx, hly] at HC
    clear hca hc hly
    generalize xs[k] = x at *
    skip
    by_cases hlt : x < q + 0
    ·obtain ⟨m, hm⟩ : ∃ m : Nat, m + 0 + q = 4294967296 + x := ⟨4294967296 + x - 0 - q, by omega⟩
     have hm2 : m < 4294967296 := by omega
     have HC2 := hid (HC.out m (by omega))
     rw [show 1 - m / 4294967296 = 1 by omega, show m % 4294967296 = m by omega] at HC2
     have hlt1 : (x : Int) < ((q : Int)) := by omega
     have hm1 : (x : Int) + 4294967296 - ((q : Int)) = (m : Int) := by omega
     clear HC hm hlt
     have hsz := hbl.size
     go_wp2_with (at_builtin; refine wpList_app rfl (.tmp 38) (.tmp 43) 22 rfl 61 (.int .u32 0) 4 Tryz.underlying22 info32 rfl w.heap.size lim (fun _ => rfl) _ D rfl (own_below hown ((Below.refl _ _).alloc (Nat.le_refl _) (.cells #[.int .u32 (m : Int)] 61))) _ 1 [m] rfl (rd_one lim _ m 61) (by simp; omega) (by simp; omega) (by simp; omega) ?_; intro v5 w5 hown5 hgr hwh)
     go_roundw
     case rel => exact ⟨k + 1, 1, v5, D ++ [m], by omega, by go_num, by first | rfl | (congr 1; omega), by omega, rfl, hown5, below_app1 hown hbl hgr, HC2⟩
     case measure => simp [intOf]; omega
    ·obtain ⟨m, hm⟩ : ∃ m : Nat, m + 0 + q = x := ⟨x - 0 - q, by omega⟩
     have hm2 : m < 4294967296 := by omega
     have HC2 := hid (HC.out (4294967296 + m) (by omega))
     rw [show 1 - (4294967296 + m) / 4294967296 = 0 by omega, show (4294967296 + m) % 4294967296 = m by omega] at HC2
     have hlt1 : ¬ (x : Int) < ((q : Int)) := by omega
     have hm1 : (x : Int) - ((q : Int)) = (m : Int) := by omega
     clear HC hm hlt
     have hsz := hbl.size
     go_wp2_with (at_builtin; refine wpList_app rfl (.tmp 38) (.tmp 43) 22 rfl 61 (.int .u32 0) 4 Tryz.underlying22 info32 rfl w.heap.size lim (fun _ => rfl) _ D rfl (own_below hown ((Below.refl _ _).alloc (Nat.le_refl _) (.cells #[.int .u32 (m : Int)] 61))) _ 1 [m] rfl (rd_one lim _ m 61) (by simp; omega) (by simp; omega) (by simp; omega) ?_; intro v5 w5 hown5 hgr hwh)
     go_roundw
     case rel => exact ⟨k + 1, 0, v5, D ++ [m], by omega, by go_num, by first | rfl | (congr 1; omega), by omega, rfl, hown5, below_app1 hown hbl hgr, HC2⟩
     case measure => simp [intOf]; omega
  ·obtain rfl : k = xs.length := by omega
   have hv := hid (hc.out.last (Nat.le_refl _) hl HLE.out)
   have hok := hid hc.out.ok
   clear hc
   have hsz := hbl.size
   go_wp2_with (go_at_call 70; refine (Qown_trim hown hbl hok.out hv.out).mono ?_; rintro e w6 ⟨R, cc, rfl, hr1, hr2⟩)
   go_ret
   exact ⟨R, cc, rfl, hr1, hr2⟩
end Go.Proofs.YtfdmlfpldgobjaaGreatDoor
/- The fractions' reference: walks of times, shift, halve, even. Conditions: none. -/
namespace Go.Proofs.YtfdmlfpldgobjaaGreatDoor
open Go.RowKit Big
/-- Block g begins with the limbs L. -/
def PB (w : World) (g : Nat) (L : List Nat) : Prop := ∃ cs : Array Value, w.heap[g]? = some (.cells cs 61 (0, 0)) ∧ L.length ≤ cs.size ∧ ∀ k (h : k < L.length), cs[k]? = some (lim L[k])
section
variable {w w' : World} {g : Nat} {L : List Nat}
theorem PB.lt (h : PB w g L) : g < w.heap.size := by obtain ⟨cs, h1, _⟩ := h; exact (Array.getElem?_eq_some_iff.1 h1).1
theorem PB.cell (h : PB w g L) (k : Nat) (hk : k < L.length) : w.cell? ⟨g, k, none⟩ = some (.int .u32 ((L[k] : Nat) : Int)) := by
 obtain ⟨cs, h1, h2, h3⟩ := h
 rw [cell_of_row w g k _ _ _ h1, h3 k hk]; rfl
theorem PB.free (h : PB w g L) (k : Nat) : w.frozen? ⟨g, k, none⟩ = false := by obtain ⟨cs, h1, _⟩ := h; exact frozen_of_row w g k _ _ h1
theorem PB.drew (h : PB w g L) : PB w.drew g L := h
theorem PB.drewN (h : PB w g L) (n : Nat) : PB (w.drewN n) g L := h
theorem PB.set_ (h : PB w g L) (k : Nat) (x : Int) (y : Nat) (hx : x = (y : Int)) : PB (w.setCell ⟨g, k, none⟩ (.int .u32 x)) g (L.set k y) := by
 obtain ⟨cs, h1, h2, h3⟩ := h
 subst hx
 refine ⟨cs.setIfInBounds k (.int .u32 y), heap_setCell_same w g k _ _ _ h1, by simpa using h2, fun j hj => ?_⟩
 simp only [List.length_set] at hj
 rw [Array.getElem?_setIfInBounds]
 by_cases e : k = j
 ·subst e
  rw [if_pos rfl, if_pos (by omega), List.getElem_set_self]
  rfl
 ·rw [if_neg e, List.getElem_set_ne e]
  exact h3 j hj
theorem PB.below {B : Nat} (h : PB w g L) (hb : Below B w w') (hg : g < B) : PB w' g L := by
 obtain ⟨cs, h1, h2, h3⟩ := h
 exact ⟨cs, (hb.block g hg).trans h1, h2, h3⟩
theorem PB.mg (h : PB w g L) (ho : Ok L) {c : Nat} (hc : L.length ≤ c) (hl : c ≤ 9223372036854775807) : Mg w (some ⟨g, 0, none⟩) c L := by
 obtain ⟨cs, h1, h2, h3⟩ := h
 exact ⟨hc, hl, ho, Rd.of_blk h1 h3⟩
end
theorem shl_digit {x q : Nat} (hq : q ≤ 1) : (2 * x + q) % 4294967296 = x * 2 % 4294967296 + q := by omega
set_option maxHeartbeats 1000000 in
theorem Qshift_fr (A : Option Addr) (c : Nat) (xs : List Nat) (q0 : Nat) (w : World) (ha : Mg w A c xs) (hs : xs.length ≤ 1048576) (hq0 : q0 ≤ 1) :
  Calls Tryz.prog 48 #[.slice A xs.length c, .int .u32 q0] w (RetNF w (2 * val xs + q0)) := by
 go_enter Tryz.func48, Tryz.ntmps48
 go_wp2
 go_loopw [1, 5, 6] (fun s1 s5 s6 wr => ∃ (k q : Nat) (v : Value) (D : List Nat), k ≤ xs.length ∧ s6 = .int .i64 k ∧ s1 = .int .u32 q ∧ q ≤ 1 ∧ s5 = v ∧ wr.ownsRow w.heap.size 61 1 v D.length (D.map lim) ∧ Below w.heap.size w wr ∧ Hid (Cry (2 * val xs + q0) k q (2 * val (xs.drop k)) D)) (fun _ _ s6 _ => xs.length - (intOf s6).toNat)
 case atStart => exact ⟨0, q0, _, [], by omega, rfl, rfl, hq0, rfl, World.ownsRow_nil _ _ _ _, Below.refl _ _, by unfold Hid; have := Cry.start q0 (2 * val xs); rw [Nat.add_comm q0] at this; simpa using this⟩
 case round =>
  obtain ⟨k, q, v, D, hk, rfl, rfl, hq, rfl, hown, hbl, hc⟩ := hrel
  have hD := hc.out.len
  have hsz := hbl.size
  by_cases hx : k < xs.length
  ·obtain ⟨ba, oa, rfl, hba, hca⟩ := ha.rd.at_ hx
   have c1 := (hbl.cell (p := ⟨ba, oa + k, none⟩) hba).trans (hca k hx)
   have o1 := ha.ok.get hx
   unfold lim at c1
   have HC := hid (hc.out.step (t := 2 * lb xs k) (R' := 2 * val (xs.drop (k + 1))) (s := 2 * lb xs k + q) (by rw [val_drop xs k]; omega) rfl)
   rw [lb_at hx, shl_digit hq, show (2 * xs[k] + q) / 4294967296 = xs[k] / 2147483648 by omega] at HC
   clear hc
   have hca2 := fun w1 (h : Below wr.heap.size wr w1) => (h.cell (p := ⟨ba, oa + k, none⟩) (Nat.lt_of_lt_of_le hba hsz)).trans c1
   have hca3 := hid hca2
   clear hca hca2
   generalize xs[k] = x at *
   obtain ⟨p, hp⟩ : ∃ p, x * 2 % 4294967296 = p := ⟨_, rfl⟩
   obtain ⟨u, hu⟩ : ∃ u, x / 2147483648 = u := ⟨_, rfl⟩
   have hp1 : (x : Int) * 2 % 4294967296 = (p : Int) := by omega
   have hu1 : (x : Int) / 2147483648 = (u : Int) := by omega
   have hp2 : p + q < 4294967296 := by omega
   have hu2 : u ≤ 1 := by omega
   obtain ⟨m, hm⟩ : ∃ m, p + q = m := ⟨_, rfl⟩
   have hm1 : (p : Int) + (q : Int) = (m : Int) := by omega
   have hm2 : m < 4294967296 := by omega
   rw [hp, hu, hm] at HC
   clear hp hu hm
   go_wp2_with (at_builtin; refine wpList_app rfl (.tmp 13) (.tmp 21) 22 rfl 61 (.int .u32 0) 4 Tryz.underlying22 info32 rfl w.heap.size lim (fun _ => rfl) _ D rfl (own_below hown ((Below.refl _ _).alloc (Nat.le_refl _) (.cells #[.int .u32 (m : Int)] 61))) _ 1 [m] rfl (rd_one lim _ m 61) (by simp; omega) (by simp; omega) (by simp; omega) ?_; intro v5 w5 hown5 hgr hwh; have hb5 := below_app1 hown hbl hgr; have c2 : w5.cell? ⟨ba, oa + k, none⟩ = some (.int .u32 x) := (hb5.cell (p := ⟨ba, oa + k, none⟩) hba).trans ((hbl.cell (p := ⟨ba, oa + k, none⟩) hba).symm.trans c1))
   go_roundw
   case rel => exact ⟨k + 1, u, v5, D ++ [m], by omega, by go_num, by first | rfl | rw [hu1], hu2, rfl, hown5, hb5, HC⟩
   case measure => simp [intOf]; omega
  ·obtain rfl : k = xs.length := by omega
   have hl := hc.out
   rw [val_out xs (Nat.le_refl _), Nat.mul_zero] at hl
   have hv := hid hl.last
   have hok := hid (ok_snoc hl.ok (show q < 4294967296 by omega))
   clear hc hl
   go_wp2_with (first | (at_builtin; refine wpList_app rfl (.tmp 28) (.tmp 30) 22 rfl 61 (.int .u32 0) 4 Tryz.underlying22 info32 rfl w.heap.size lim (fun _ => rfl) _ D rfl (own_below hown ((Below.refl _ _).alloc (Nat.le_refl _) (.cells #[.int .u32 (q : Int)] 61))) _ 1 [q] rfl (rd_one lim _ q 61) (by simp; omega) (by simp; omega) (by simp; omega) ?_; intro v5 w5 hown5 hgr hwh; have hb5 := below_app1 hown hbl hgr) | (go_at_call 70; refine (Qown_trim hown5 hb5 hok.out hv.out).mono ?_; rintro e w6 ⟨R, cc, rfl, hr1, hr2⟩))
   go_ret
   exact ⟨R, cc, rfl, hr1, hr2⟩
set_option maxHeartbeats 1000000 in
theorem Qhalve_fr (A : Option Addr) (c : Nat) (xs : List Nat) (w : World) (ha : Mg w A c xs) (hs : xs.length ≤ 1048576) :
  Calls Tryz.prog 45 #[.slice A xs.length c] w (RetNF w (val xs / 2)) := by
 go_enter Tryz.func45, Tryz.ntmps45
 go_wp2
 go_loopw [3, 4] (fun s3 s4 wr => ∃ (k : Nat) (v : Value) (D : List Nat), k ≤ xs.length ∧ s4 = .int .i64 k ∧ s3 = v ∧ wr.ownsRow w.heap.size 61 1 v D.length (D.map lim) ∧ Below w.heap.size w wr ∧ Hid (Hlf xs k D)) (fun _ s4 _ => xs.length - (intOf s4).toNat)
 case atStart => exact ⟨0, _, [], by omega, rfl, rfl, World.ownsRow_nil _ _ _ _, Below.refl _ _, Hlf.start _⟩
 case round =>
  obtain ⟨k, v, D, hk, rfl, rfl, hown, hbl, hc⟩ := hrel
  have hD := hc.out.len
  have hsz := hbl.size
  by_cases hx : k < xs.length
  ·obtain ⟨ba, oa, rfl, hba, hca⟩ := ha.rd.at_ hx
   have c1 := (hbl.cell (p := ⟨ba, oa + k, none⟩) hba).trans (hca k hx)
   have o1 := ha.ok.get hx
   unfold lim at c1
   have HC := hid (hc.out.step (lb_lt ha.ok k))
   rw [lb_at hx] at HC
   clear hc
   by_cases hy : k + 1 < xs.length
   ·have c2 := (hbl.cell (p := ⟨ba, oa + (k + 1), none⟩) hba).trans (hca (k + 1) hy)
    have o2 := ha.ok.get hy
    unfold lim at c2
    rw [lb_at hy] at HC
    have ty : (k : Int) + 1 < (xs.length : Int) := by omega
    clear hca
    generalize xs[k + 1] = y at *
    generalize xs[k] = x at *
    obtain ⟨m, hm⟩ : ∃ m, x / 2 + y % 2 * 2147483648 = m := ⟨_, rfl⟩
    have hm1 : (x : Int) / 2 + (y : Int) % 2 * 2147483648 = (m : Int) := by omega
    have hm2 : m < 4294967296 := by omega
    rw [hm] at HC
    clear hm
    go_wp2_with (at_builtin; refine wpList_app rfl (.tmp 31) (.tmp 33) 22 rfl 61 (.int .u32 0) 4 Tryz.underlying22 info32 rfl w.heap.size lim (fun _ => rfl) _ D rfl (own_below hown ((Below.refl _ _).alloc (Nat.le_refl _) (.cells #[.int .u32 (m : Int)] 61))) _ 1 [m] rfl (rd_one lim _ m 61) (by simp; omega) (by simp; omega) (by simp; omega) ?_; intro v5 w5 hown5 hgr hwh; have hb5 := below_app1 hown hbl hgr)
    go_roundw
    case rel => exact ⟨k + 1, v5, D ++ [m], by omega, by go_num, rfl, hown5, hb5, HC⟩
    case measure => simp [intOf]; omega
   ·rw [lb_out (by omega : xs.length ≤ k + 1)] at HC
    have ty : ¬ (k : Int) + 1 < (xs.length : Int) := by omega
    clear hca
    generalize xs[k] = x at *
    obtain ⟨m, hm⟩ : ∃ m, x / 2 + 0 % 2 * 2147483648 = m := ⟨_, rfl⟩
    have hm1 : (x : Int) / 2 = (m : Int) := by omega
    have hm2 : m < 4294967296 := by omega
    rw [hm] at HC
    clear hm
    go_wp2_with (at_builtin; refine wpList_app rfl (.tmp 31) (.tmp 33) 22 rfl 61 (.int .u32 0) 4 Tryz.underlying22 info32 rfl w.heap.size lim (fun _ => rfl) _ D rfl (own_below hown ((Below.refl _ _).alloc (Nat.le_refl _) (.cells #[.int .u32 (m : Int)] 61))) _ 1 [m] rfl (rd_one lim _ m 61) (by simp; omega) (by simp; omega) (by simp; omega) ?_; intro v5 w5 hown5 hgr hwh; have hb5 := below_app1 hown hbl hgr)
    go_roundw
    case rel => exact ⟨k + 1, v5, D ++ [m], by omega, by go_num, rfl, hown5, hb5, HC⟩
    case measure => simp [intOf]; omega
  ·obtain rfl : k = xs.length := by omega
   have hv := hid (hc.out.last (Nat.le_refl _))
   have hok := hid hc.out.ok
   clear hc
   go_wp2_with (go_at_call 70; refine (Qown_trim hown hbl hok.out hv.out).mono ?_; rintro e w6 ⟨R, cc, rfl, hr1, hr2⟩)
   go_ret
   exact ⟨R, cc, rfl, hr1, hr2⟩
theorem Qeven_any (A : Option Addr) (c : Nat) (xs : List Nat) (w : World) (ha : Mg w A c xs) (b : Bool) (h : decide (val xs % 2 = 0) = b) :
  Calls Tryz.prog 44 #[.slice A xs.length c] w fun e w' => e = .returned (.bool b) ∧ w = w' := by
 subst h
 cases xs with
 | nil =>
  go_enter Tryz.func44, Tryz.ntmps44
  go_wp2
  go_ret
  exact ⟨rfl, rfl⟩
 | cons x l =>
  have e : val (x :: l) % 2 = x % 2 := by rw [← lb_zero_mod]; simp [lb]
  rw [e]
  obtain ⟨ba, oa, rfl, hba, hca⟩ := ha.rd.at_ (k := 0) (by simp)
  have c1 : w.cell? ⟨ba, oa, none⟩ = some (.int .u32 (x : Int)) := hca 0 (by simp)
  have o1 : x < 4294967296 := ha.ok x (by simp)
  have hl : (((x :: l).length : Int) == 0) = false := by rw [beq_eq_false_iff_ne]; simp; omega
  have hl0 : 0 < (x :: l).length := by simp
  have hcap := ha.cap
  have hmax := ha.max
  clear hca ha e
  generalize (x :: l).length = n at *
  have ht : ((x : Int) % 2 == 0) = decide (x % 2 = 0) := by
   rw [Bool.eq_iff_iff]; simp; omega
  have ht := hid ht
  go_enter Tryz.func44, Tryz.ntmps44
  go_wp2
  go_ret
  exact ⟨by rw [← ht.out] <;> rfl, rfl⟩
end Go.Proofs.YtfdmlfpldgobjaaGreatDoor
