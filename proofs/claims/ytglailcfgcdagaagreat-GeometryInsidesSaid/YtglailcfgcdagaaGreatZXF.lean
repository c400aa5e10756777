/- The fractions' reference: walks of trim, compare, plus, minus. Conditions: none. -/
import Derived.Test.YtglailcfgcdagaaGreatZYM
import Derived.Test.YtglailcfgcdagaaGreatZYA
import Derived.Test.YtglailcfgcdagaaGreatZYI
set_option linter.unusedVariables false
set_option linter.unusedSimpArgs false
namespace Go.Proofs.YtglailcfgcdagaaGreat
open Go.RowKit Big
set_option maxHeartbeats 400000 in
theorem Qtrim_at (A : Option Addr) (c : Nat) (xs : List Nat) (w : World) (h : Mg w A c xs) :
  Calls Tryz.prog 98 #[.slice A xs.length c] w (RetNA w A (val xs)) := by
 have hcap := h.cap
 have hmax := h.max
 go_enter Tryz.func98, Tryz.ntmps98
 go_wp2
 go_loop [3] (fun i => ∃ k : Nat, k ≤ xs.length ∧ i = .int .i64 k ∧ Hid (∀ i, k ≤ i → (hi : i < xs.length) → xs[i] = 0)) (fun i => (intOf i).toNat)
 case atStart => exact ⟨xs.length, Nat.le_refl _, rfl, fun i h1 h2 => absurd h1 (by omega)⟩
 case round =>
  obtain ⟨k, hk, rfl, hz⟩ := hrel
  by_cases h0 : 0 < k
  ·have hk1 : k - 1 < xs.length := by omega
   obtain ⟨b, o, rfl, hb, hc⟩ := h.rd.at_ hk1
   have c1 := hc (k - 1) hk1
   unfold lim at c1
   clear hc
   by_cases he : xs[k - 1] = 0
   ·have he1 : ((xs[k - 1] : Int) == 0) = true := by simp [he]
    have HE := hid he
    clear he
    go_wp2
    go_round
    case rel => exact ⟨k - 1, by omega, by go_num, fun i h1 h2 => by
     by_cases hj : i = k - 1
     ·subst hj; exact HE.out
     ·exact hz.out i (by omega) h2⟩
    case measure => simp [intOf]; omega
   ·have he1 : ((xs[k - 1] : Int) == 0) = false := by simp; omega
    have HE := hid he
    clear he
    go_wp2
    go_ret
    exact fin_trim h (Below.refl _ _) k hk hz.out (.inr ⟨hk1, HE.out⟩)
  ·have hk0 : k = 0 := by omega
   subst hk0
   go_wp2
   go_ret
   exact fin_trim h (Below.refl _ _) 0 hk hz.out (.inl rfl)
/-- what a call owns, trimmed -/
theorem Qown_trim {w wr : World} {v : Value} {D : List Nat} {n : Nat} (hown : wr.ownsRow w.heap.size 85 1 v D.length (D.map lim)) (hbl : Below w.heap.size w wr) (ho : Ok D) (hv : val D = n) :
  Calls Tryz.prog 98 #[v] wr (RetNF w n) := by
 obtain ⟨A, c, rfl, h1, h2, h3⟩ := own_rd hown
 have hf := own_fresh hown
 have h := Qtrim_at A c D wr ⟨h1, h2, ho, h3⟩
 subst hv
 exact h.mono fun e w' ⟨c', g1, g2, g3⟩ => ⟨A, c', g1, g2, hbl.trans (g3.mono hbl.size), hf⟩
set_option maxHeartbeats 1000000 in
theorem Qcompare_any (A B : Option Addr) (c d : Nat) (xs ys : List Nat) (w : World) (ha : Mg w A c xs) (hb : Mg w B d ys) (na : Nrm xs) (nb : Nrm ys) :
  Calls Tryz.prog 50 #[.slice A xs.length c, .slice B ys.length d] w (RetI w (ord (val xs) (val ys))) := by
 have m1 := ha.cap
 have m2 := ha.max
 have m3 := hb.cap
 have m4 := hb.max
 by_cases hl : xs.length = ys.length
 ·have hl1 : ¬ (xs.length : Int) < (ys.length : Int) := by omega
  have hl2 : ¬ (ys.length : Int) < (xs.length : Int) := by omega
  have HL := hid hl
  clear hl
  go_enter Tryz.func50, Tryz.ntmps50
  go_wp2
  go_loopw [5] (fun i wr => ∃ k : Nat, k ≤ xs.length ∧ i = .int .i64 ((k : Int) - 1) ∧ Below w.heap.size w wr ∧ Hid (xs.drop k = ys.drop k)) (fun i _ => (intOf i + 1).toNat)
  case atStart => exact ⟨xs.length, Nat.le_refl _, rfl, Below.refl _ _, by unfold Hid; rw [List.drop_length, HL.out, List.drop_length]⟩
  case round =>
   obtain ⟨k, hk, rfl, hbl, heq⟩ := hrel
   by_cases h0 : 0 < k
   ·have hk1 : k - 1 < xs.length := by omega
    have hk2 : k - 1 < ys.length := by have := HL.out; omega
    obtain ⟨ba, oa, rfl, hba, hca⟩ := ha.rd.at_ hk1
    obtain ⟨bb, ob, rfl, hbb, hcb⟩ := hb.rd.at_ hk2
    have c1 := (hbl.cell (p := ⟨ba, oa + (k - 1), none⟩) hba).trans (hca (k - 1) hk1)
    have c2 := (hbl.cell (p := ⟨bb, ob + (k - 1), none⟩) hbb).trans (hcb (k - 1) hk2)
    unfold lim at c1 c2
    clear hca hcb
    have D := fun h => val_drop_lt (a := xs) (b := ys) ha.ok (k - 1) HL.out hk1 (by rw [show k - 1 + 1 = k by omega]; exact heq.out) h
    have E := fun h => val_drop_lt (a := ys) (b := xs) hb.ok (k - 1) HL.out.symm hk2 (by rw [show k - 1 + 1 = k by omega]; exact heq.out.symm) h
    have HD := hid D
    have HE := hid E
    clear D E
    by_cases hlt : xs[k - 1] < ys[k - 1]
    ·have t1 : decide ((xs[k - 1] : Int) < (ys[k - 1] : Int)) = true := by simp; omega
     go_wp2
     go_quiet (fail)
     go_wp2
     go_ret
     exact ⟨ret_int (ord_lt (HD.out hlt)).symm, (by repeat (first | exact hbl | refine Below.drew ?_ | refine below_drewN ?_ _ | refine Below.setCell ?_ (by exact Nat.le_refl _) _ | refine Below.alloc ?_ (by simp; omega) _))⟩
    ·have t1 : decide ((xs[k - 1] : Int) < (ys[k - 1] : Int)) = false := by simp; omega
     by_cases hgt : ys[k - 1] < xs[k - 1]
     ·have t2 : decide ((ys[k - 1] : Int) < (xs[k - 1] : Int)) = true := by simp; omega
      go_wp2
      go_quiet (fail)
      go_wp2
      go_quiet (fail)
      go_wp2
      go_ret
      exact ⟨ret_int (ord_gt (HE.out hgt)).symm, (by repeat (first | exact hbl | refine Below.drew ?_ | refine below_drewN ?_ _ | refine Below.setCell ?_ (by exact Nat.le_refl _) _ | refine Below.alloc ?_ (by simp; omega) _))⟩
     ·have t2 : decide ((ys[k - 1] : Int) < (xs[k - 1] : Int)) = false := by simp; omega
      have he : Hid (xs[k - 1] = ys[k - 1]) := Nat.le_antisymm (by omega) (by omega)
      go_wp2
      go_quiet (fail)
      go_wp2
      go_quiet (fail)
      go_wp2
      go_roundw
      case rel => exact ⟨k - 1, by omega, by go_num, (by repeat (first | exact hbl | refine Below.drew ?_ | refine below_drewN ?_ _ | refine Below.setCell ?_ (by exact Nat.le_refl _) _ | refine Below.alloc ?_ (by simp; omega) _)), drop_step hk1 hk2 h0 heq.out he.out⟩
      case measure => simp [intOf]; omega
   ·have hk0 : k = 0 := by omega
    subst hk0
    go_wp2
    go_ret
    have e : xs = ys := heq.out
    subst e
    exact ⟨ret_int (ord_eq _).symm, hbl⟩
 ·by_cases hlt : xs.length < ys.length
  ·have h2 : (xs.length : Int) < (ys.length : Int) := by omega
   go_enter Tryz.func50, Tryz.ntmps50
   go_wp2
   go_ret
   exact ⟨ret_int (ord_lt (val_len_lt ha.ok nb hlt)).symm, Below.refl _ _⟩
  ·have h2 : ¬ (xs.length : Int) < (ys.length : Int) := by omega
   have h3 : (ys.length : Int) < (xs.length : Int) := by omega
   go_enter Tryz.func50, Tryz.ntmps50
   go_wp2
   go_ret
   exact ⟨ret_int (ord_gt (val_len_lt hb.ok na (by omega))).symm, Below.refl _ _⟩
set_option maxRecDepth 100000 in
set_option maxHeartbeats 2000000 in
theorem Qminus_fr (A B : Option Addr) (c d : Nat) (xs ys : List Nat) (w : World) (ha : Mg w A c xs) (hb : Mg w B d ys) (hs : xs.length ≤ 1048576) (hl : ys.length ≤ xs.length) (hle : val ys ≤ val xs) :
  Calls Tryz.prog 84 #[.slice A xs.length c, .slice B ys.length d] w (RetNF w (val xs - val ys)) := by
 have HLE := hid hle
 clear hle
 go_enter Tryz.func84, Tryz.ntmps84
 go_wp2
 go_loopw [5, 6, 7] (fun s5 s6 s7 wr => ∃ (k q : Nat) (v : Value) (D : List Nat), k ≤ xs.length ∧ s7 = .int .i64 k ∧ s6 = .int .u64 q ∧ q ≤ 1 ∧ s5 = v ∧ wr.ownsRow w.heap.size 85 1 v D.length (D.map lim) ∧ Below w.heap.size w wr ∧ Hid (Brw xs ys k q D)) (fun _ _ s7 _ => xs.length - (intOf s7).toNat)
 case atStart => exact ⟨0, 0, _, [], by omega, rfl, rfl, by omega, rfl, World.ownsRow_nil _ _ _ _, Below.refl _ _, Brw.start _ _⟩
 case round =>
  obtain ⟨k, q, v, D, hk, rfl, rfl, hq, rfl, hown, hbl, hc⟩ := hrel
  have hD := hc.out.len
  by_cases hx : k < xs.length
  ·obtain ⟨ba, oa, rfl, hba, hca⟩ := ha.rd.at_ hx
   have c1 := (hbl.cell (p := ⟨ba, oa + k, none⟩) hba).trans (hca k hx)
   have o1 := ha.ok.get hx
   unfold lim at c1
   by_cases hy : k < ys.length
   ·obtain ⟨bb, ob, rfl, hbb, hcb⟩ := hb.rd.at_ hy
    have c2 := (hbl.cell (p := ⟨bb, ob + k, none⟩) hbb).trans (hcb k hy)
    have o2 := hb.ok.get hy
    unfold lim at c2
    have hly := lb_at hy
    clear hcb
    have HC := hid (fun s hs => hc.out.step (s := s) hs (lb_lt ha.ok k))
    rw [lb_at hx, hly] at HC
    clear hca hc hly
    generalize xs[k] = x at *
    generalize ys[k] = y at *
    by_cases hlt : x < q + y
    ·obtain ⟨m, hm⟩ : ∃ m : Nat, m + y + q = 4294967296 + x := ⟨4294967296 + x - y - q, by omega⟩
     have hm2 : m < 4294967296 := by omega
     have HC2 := hid (HC.out m (by omega))
     rw [show 1 - m / 4294967296 = 1 by omega, show m % 4294967296 = m by omega] at HC2
     have hlt1 : (x : Int) < ((q : Int) + (y : Int)) := by omega
     have hm1 : (x : Int) + 4294967296 - ((q : Int) + (y : Int)) = (m : Int) := by omega
     clear HC hm hlt
     have hsz := hbl.size
     go_wp2_with (at_builtin; refine wpList_app rfl (.tmp 38) (.tmp 43) 41 rfl 85 (.int .u32 0) 4 Tryz.underlying41 info32 rfl w.heap.size lim (fun _ => rfl) _ D rfl (own_below hown ((Below.refl _ _).alloc (Nat.le_refl _) (.cells #[.int .u32 (m : Int)] 85))) _ 1 [m] rfl (rd_one lim _ m 85) (by simp; omega) (by simp; omega) (by simp; omega) ?_; intro v5 w5 hown5 hgr hwh)
     go_roundw
     case rel => exact ⟨k + 1, 1, v5, D ++ [m], by omega, by go_num, by first | rfl | (congr 1; omega), by omega, rfl, hown5, below_app1 hown hbl hgr, HC2⟩
     case measure => simp [intOf]; omega
    ·obtain ⟨m, hm⟩ : ∃ m : Nat, m + y + q = x := ⟨x - y - q, by omega⟩
     have hm2 : m < 4294967296 := by omega
     have HC2 := hid (HC.out (4294967296 + m) (by omega))
     rw [show 1 - (4294967296 + m) / 4294967296 = 0 by omega, show (4294967296 + m) % 4294967296 = m by omega] at HC2
     have hlt1 : ¬ (x : Int) < ((q : Int) + (y : Int)) := by omega
     have hm1 : (x : Int) - ((q : Int) + (y : Int)) = (m : Int) := by omega
     clear HC hm hlt
     have hsz := hbl.size
     go_wp2_with (at_builtin; refine wpList_app rfl (.tmp 38) (.tmp 43) 41 rfl 85 (.int .u32 0) 4 Tryz.underlying41 info32 rfl w.heap.size lim (fun _ => rfl) _ D rfl (own_below hown ((Below.refl _ _).alloc (Nat.le_refl _) (.cells #[.int .u32 (m : Int)] 85))) _ 1 [m] rfl (rd_one lim _ m 85) (by simp; omega) (by simp; omega) (by simp; omega) ?_; intro v5 w5 hown5 hgr hwh)
     go_roundw
     case rel => exact ⟨k + 1, 0, v5, D ++ [m], by omega, by go_num, by first | rfl | (congr 1; omega), by omega, rfl, hown5, below_app1 hown hbl hgr, HC2⟩
     case measure => simp [intOf]; omega
   ·have hly := lb_out (by omega : ys.length ≤ k)
    have HC := hid (fun s hs => hc.out.step (s := s) hs (lb_lt ha.ok k))
    rw [lb_at hx, hly] at HC
    clear hca hc hly
    generalize xs[k] = x at *
    skip
    by_cases hlt : x < q + 0
    ·obtain ⟨m, hm⟩ : ∃ m : Nat, m + 0 + q = 4294967296 + x := ⟨4294967296 + x - 0 - q, by omega⟩
     have hm2 : m < 4294967296 := by omega
     have HC2 := hid (HC.out m (by omega))
     rw [show 1 - m / 4294967296 = 1 by omega, show m % 4294967296 = m by omega] at HC2
     have hlt1 : (x : Int) < ((q : Int)) := by omega
     have hm1 : (x : Int) + 4294967296 - ((q : Int)) = (m : Int) := by omega
     clear HC hm hlt
     have hsz := hbl.size
     go_wp2_with (at_builtin; refine wpList_app rfl (.tmp 38) (.tmp 43) 41 rfl 85 (.int .u32 0) 4 Tryz.underlying41 info32 rfl w.heap.size lim (fun _ => rfl) _ D rfl (own_below hown ((Below.refl _ _).alloc (Nat.le_refl _) (.cells #[.int .u32 (m : Int)] 85))) _ 1 [m] rfl (rd_one lim _ m 85) (by simp; omega) (by simp; omega) (by simp; omega) ?_; intro v5 w5 hown5 hgr hwh)
     go_roundw
     case rel => exact ⟨k + 1, 1, v5, D ++ [m], by omega, by go_num, by first | rfl | (congr 1; omega), by omega, rfl, hown5, below_app1 hown hbl hgr, HC2⟩
     case measure => simp [intOf]; omega
    ·obtain ⟨m, hm⟩ : ∃ m : Nat, m + 0 + q = x := ⟨x - 0 - q, by omega⟩
     have hm2 : m < 4294967296 := by omega
     have HC2 := hid (HC.out (4294967296 + m) (by omega))
     rw [show 1 - (4294967296 + m) / 4294967296 = 0 by omega, show (4294967296 + m) % 4294967296 = m by omega] at HC2
     have hlt1 : ¬ (x : Int) < ((q : Int)) := by omega
     have hm1 : (x : Int) - ((q : Int)) = (m : Int) := by omega
     clear HC hm hlt
     have hsz := hbl.size
     go_wp2_with (at_builtin; refine wpList_app rfl (.tmp 38) (.tmp 43) 41 rfl 85 (.int .u32 0) 4 Tryz.underlying41 info32 rfl w.heap.size lim (fun _ => rfl) _ D rfl (own_below hown ((Below.refl _ _).alloc (Nat.le_refl _) (.cells #[.int .u32 (m : Int)] 85))) _ 1 [m] rfl (rd_one lim _ m 85) (by simp; omega) (by simp; omega) (by simp; omega) ?_; intro v5 w5 hown5 hgr hwh)
     go_roundw
     case rel => exact ⟨k + 1, 0, v5, D ++ [m], by omega, by go_num, by first | rfl | (congr 1; omega), by omega, rfl, hown5, below_app1 hown hbl hgr, HC2⟩
     case measure => simp [intOf]; omega
  ·obtain rfl : k = xs.length := by omega
   have hv := hid (hc.out.last (Nat.le_refl _) hl HLE.out)
   have hok := hid hc.out.ok
   clear hc
   have hsz := hbl.size
   go_wp2_with (go_at_call 98; refine (Qown_trim hown hbl hok.out hv.out).mono ?_; rintro e w6 ⟨R, cc, rfl, hr1, hr2⟩)
   go_ret
   exact ⟨R, cc, rfl, hr1, hr2⟩
end Go.Proofs.YtglailcfgcdagaaGreat
/- The fractions' reference: walks of times, shift, halve, even. Conditions: none. -/
namespace Go.Proofs.YtglailcfgcdagaaGreat
open Go.RowKit Big
/-- Block g begins with the limbs L. -/
def PB (w : World) (g : Nat) (L : List Nat) : Prop := ∃ cs : Array Value, w.heap[g]? = some (.cells cs 85 (0, 0)) ∧ L.length ≤ cs.size ∧ ∀ k (h : k < L.length), cs[k]? = some (lim L[k])
section
variable {w w' : World} {g : Nat} {L : List Nat}
theorem PB.lt (h : PB w g L) : g < w.heap.size := by obtain ⟨cs, h1, _⟩ := h; exact (Array.getElem?_eq_some_iff.1 h1).1
theorem PB.cell (h : PB w g L) (k : Nat) (hk : k < L.length) : w.cell? ⟨g, k, none⟩ = some (.int .u32 ((L[k] : Nat) : Int)) := by
 obtain ⟨cs, h1, h2, h3⟩ := h
 rw [cell_of_row w g k _ _ _ h1, h3 k hk]; rfl
theorem PB.free (h : PB w g L) (k : Nat) : w.frozen? ⟨g, k, none⟩ = false := by obtain ⟨cs, h1, _⟩ := h; exact frozen_of_row w g k _ _ h1
theorem PB.drew (h : PB w g L) : PB w.drew g L := h
theorem PB.drewN (h : PB w g L) (n : Nat) : PB (w.drewN n) g L := h
theorem PB.set_ (h : PB w g L) (k : Nat) (x : Int) (y : Nat) (hx : x = (y : Int)) : PB (w.setCell ⟨g, k, none⟩ (.int .u32 x)) g (L.set k y) := by
 obtain ⟨cs, h1, h2, h3⟩ := h
 subst hx
 refine ⟨cs.setIfInBounds k (.int .u32 y), heap_setCell_same w g k _ _ _ h1, by simpa using h2, fun j hj => ?_⟩
 simp only [List.length_set] at hj
 rw [Array.getElem?_setIfInBounds]
 by_cases e : k = j
 ·subst e
  rw [if_pos rfl, if_pos (by omega), List.getElem_set_self]
  rfl
 ·rw [if_neg e, List.getElem_set_ne e]
  exact h3 j hj
theorem PB.below {B : Nat} (h : PB w g L) (hb : Below B w w') (hg : g < B) : PB w' g L := by
 obtain ⟨cs, h1, h2, h3⟩ := h
 exact ⟨cs, (hb.block g hg).trans h1, h2, h3⟩
theorem PB.mg (h : PB w g L) (ho : Ok L) {c : Nat} (hc : L.length ≤ c) (hl : c ≤ 9223372036854775807) : Mg w (some ⟨g, 0, none⟩) c L := by
 obtain ⟨cs, h1, h2, h3⟩ := h
 exact ⟨hc, hl, ho, Rd.of_blk h1 h3⟩
end
theorem shl_digit {x q : Nat} (hq : q ≤ 1) : (2 * x + q) % 4294967296 = x * 2 % 4294967296 + q := by omega
set_option maxHeartbeats 1000000 in
theorem Qshift_fr (A : Option Addr) (c : Nat) (xs : List Nat) (q0 : Nat) (w : World) (ha : Mg w A c xs) (hs : xs.length ≤ 1048576) (hq0 : q0 ≤ 1) :
  Calls Tryz.prog 85 #[.slice A xs.length c, .int .u32 q0] w (RetNF w (2 * val xs + q0)) := by
 go_enter Tryz.func85, Tryz.ntmps85
 go_wp2
 go_loopw [1, 5, 6] (fun s1 s5 s6 wr => ∃ (k q : Nat) (v : Value) (D : List Nat), k ≤ xs.length ∧ s6 = .int .i64 k ∧ s1 = .int .u32 q ∧ q ≤ 1 ∧ s5 = v ∧ wr.ownsRow w.heap.size 85 1 v D.length (D.map lim) ∧ Below w.heap.size w wr ∧ Hid (Cry (2 * val xs + q0) k q (2 * val (xs.drop k)) D)) (fun _ _ s6 _ => xs.length - (intOf s6).toNat)
 case atStart => exact ⟨0, q0, _, [], by omega, rfl, rfl, hq0, rfl, World.ownsRow_nil _ _ _ _, Below.refl _ _, by unfold Hid; have := Cry.start q0 (2 * val xs); rw [Nat.add_comm q0] at this; simpa using this⟩
 case round =>
  obtain ⟨k, q, v, D, hk, rfl, rfl, hq, rfl, hown, hbl, hc⟩ := hrel
  have hD := hc.out.len
  have hsz := hbl.size
  by_cases hx : k < xs.length
  ·obtain ⟨ba, oa, rfl, hba, hca⟩ := ha.rd.at_ hx
   have c1 := (hbl.cell (p := ⟨ba, oa + k, none⟩) hba).trans (hca k hx)
   have o1 := ha.ok.get hx
   unfold lim at c1
   have HC := hid (hc.out.step (t := 2 * lb xs k) (R' := 2 * val (xs.drop (k + 1))) (s := 2 * lb xs k + q) (by rw [val_drop xs k]; omega) rfl)
   rw [lb_at hx, shl_digit hq, show (2 * xs[k] + q) / 4294967296 = xs[k] / 2147483648 by omega] at HC
   clear hc
   have hca2 := fun w1 (h : Below wr.heap.size wr w1) => (h.cell (p := ⟨ba, oa + k, none⟩) (Nat.lt_of_lt_of_le hba hsz)).trans c1
   have hca3 := hid hca2
   clear hca hca2
   generalize xs[k] = x at *
   obtain ⟨p, hp⟩ : ∃ p, x * 2 % 4294967296 = p := ⟨_, rfl⟩
   obtain ⟨u, hu⟩ : ∃ u, x / 2147483648 = u := ⟨_, rfl⟩
   have hp1 : (x : Int) * 2 % 4294967296 = (p : Int) := by omega
   have hu1 : (x : Int) / 2147483648 = (u : Int) := by omega
   have hp2 : p + q < 4294967296 := by omega
   have hu2 : u ≤ 1 := by omega
   obtain ⟨m, hm⟩ : ∃ m, p + q = m := ⟨_, rfl⟩
   have hm1 : (p : Int) + (q : Int) = (m : Int) := by omega
   have hm2 : m < 4294967296 := by omega
   rw [hp, hu, hm] at HC
   clear hp hu hm
   go_wp2_with (at_builtin; refine wpList_app rfl (.tmp 13) (.tmp 21) 41 rfl 85 (.int .u32 0) 4 Tryz.underlying41 info32 rfl w.heap.size lim (fun _ => rfl) _ D rfl (own_below hown ((Below.refl _ _).alloc (Nat.le_refl _) (.cells #[.int .u32 (m : Int)] 85))) _ 1 [m] rfl (rd_one lim _ m 85) (by simp; omega) (by simp; omega) (by simp; omega) ?_; intro v5 w5 hown5 hgr hwh; have hb5 := below_app1 hown hbl hgr; have c2 : w5.cell? ⟨ba, oa + k, none⟩ = some (.int .u32 x) := (hb5.cell (p := ⟨ba, oa + k, none⟩) hba).trans ((hbl.cell (p := ⟨ba, oa + k, none⟩) hba).symm.trans c1))
   go_roundw
   case rel => exact ⟨k + 1, u, v5, D ++ [m], by omega, by go_num, by first | rfl | rw [hu1], hu2, rfl, hown5, hb5, HC⟩
   case measure => simp [intOf]; omega
  ·obtain rfl : k = xs.length := by omega
   have hl := hc.out
   rw [val_out xs (Nat.le_refl _), Nat.mul_zero] at hl
   have hv := hid hl.last
   have hok := hid (ok_snoc hl.ok (show q < 4294967296 by omega))
   clear hc hl
   go_wp2_with (first | (at_builtin; refine wpList_app rfl (.tmp 28) (.tmp 30) 41 rfl 85 (.int .u32 0) 4 Tryz.underlying41 info32 rfl w.heap.size lim (fun _ => rfl) _ D rfl (own_below hown ((Below.refl _ _).alloc (Nat.le_refl _) (.cells #[.int .u32 (q : Int)] 85))) _ 1 [q] rfl (rd_one lim _ q 85) (by simp; omega) (by simp; omega) (by simp; omega) ?_; intro v5 w5 hown5 hgr hwh; have hb5 := below_app1 hown hbl hgr) | (go_at_call 98; refine (Qown_trim hown5 hb5 hok.out hv.out).mono ?_; rintro e w6 ⟨R, cc, rfl, hr1, hr2⟩))
   go_ret
   exact ⟨R, cc, rfl, hr1, hr2⟩
set_option maxHeartbeats 1000000 in
theorem Qhalve_fr (A : Option Addr) (c : Nat) (xs : List Nat) (w : World) (ha : Mg w A c xs) (hs : xs.length ≤ 1048576) :
  Calls Tryz.prog 83 #[.slice A xs.length c] w (RetNF w (val xs / 2)) := by
 go_enter Tryz.func83, Tryz.ntmps83
 go_wp2
 go_loopw [3, 4] (fun s3 s4 wr => ∃ (k : Nat) (v : Value) (D : List Nat), k ≤ xs.length ∧ s4 = .int .i64 k ∧ s3 = v ∧ wr.ownsRow w.heap.size 85 1 v D.length (D.map lim) ∧ Below w.heap.size w wr ∧ Hid (Hlf xs k D)) (fun _ s4 _ => xs.length - (intOf s4).toNat)
 case atStart => exact ⟨0, _, [], by omega, rfl, rfl, World.ownsRow_nil _ _ _ _, Below.refl _ _, Hlf.start _⟩
 case round =>
  obtain ⟨k, v, D, hk, rfl, rfl, hown, hbl, hc⟩ := hrel
  have hD := hc.out.len
  have hsz := hbl.size
  by_cases hx : k < xs.length
  ·obtain ⟨ba, oa, rfl, hba, hca⟩ := ha.rd.at_ hx
   have c1 := (hbl.cell (p := ⟨ba, oa + k, none⟩) hba).trans (hca k hx)
   have o1 := ha.ok.get hx
   unfold lim at c1
   have HC := hid (hc.out.step (lb_lt ha.ok k))
   rw [lb_at hx] at HC
   clear hc
   by_cases hy : k + 1 < xs.length
   ·have c2 := (hbl.cell (p := ⟨ba, oa + (k + 1), none⟩) hba).trans (hca (k + 1) hy)
    have o2 := ha.ok.get hy
    unfold lim at c2
    rw [lb_at hy] at HC
    have ty : (k : Int) + 1 < (xs.length : Int) := by omega
    clear hca
    generalize xs[k + 1] = y at *
    generalize xs[k] = x at *
    obtain ⟨m, hm⟩ : ∃ m, x / 2 + y % 2 * 2147483648 = m := ⟨_, rfl⟩
    have hm1 : (x : Int) / 2 + (y : Int) % 2 * 2147483648 = (m : Int) := by omega
    have hm2 : m < 4294967296 := by omega
    rw [hm] at HC
    clear hm
    go_wp2_with (at_builtin; refine wpList_app rfl (.tmp 31) (.tmp 33) 41 rfl 85 (.int .u32 0) 4 Tryz.underlying41 info32 rfl w.heap.size lim (fun _ => rfl) _ D rfl (own_below hown ((Below.refl _ _).alloc (Nat.le_refl _) (.cells #[.int .u32 (m : Int)] 85))) _ 1 [m] rfl (rd_one lim _ m 85) (by simp; omega) (by simp; omega) (by simp; omega) ?_; intro v5 w5 hown5 hgr hwh; have hb5 := below_app1 hown hbl hgr)
    go_roundw
    case rel => exact ⟨k + 1, v5, D ++ [m], by omega, by go_num, rfl, hown5, hb5, HC⟩
    case measure => simp [intOf]; omega
   ·rw [lb_out (by omega : xs.length ≤ k + 1)] at HC
    have ty : ¬ (k : Int) + 1 < (xs.length : Int) := by omega
    clear hca
    generalize xs[k] = x at *
    obtain ⟨m, hm⟩ : ∃ m, x / 2 + 0 % 2 * 2147483648 = m := ⟨_, rfl⟩
    have hm1 : (x : Int) / 2 = (m : Int) := by omega
    have hm2 : m < 4294967296 := by omega
    rw [hm] at HC
    clear hm
    go_wp2_with (at_builtin; refine wpList_app rfl (.tmp 31) (.tmp 33) 41 rfl 85 (.int .u32 0) 4 Tryz.underlying41 info32 rfl w.heap.size lim (fun _ => rfl) _ D rfl (own_below hown ((Below.refl _ _).alloc (Nat.le_refl _) (.cells #[.int .u32 (m : Int)] 85))) _ 1 [m] rfl (rd_one lim _ m 85) (by simp; omega) (by simp; omega) (by simp; omega) ?_; intro v5 w5 hown5 hgr hwh; have hb5 := below_app1 hown hbl hgr)
    go_roundw
    case rel => exact ⟨k + 1, v5, D ++ [m], by omega, by go_num, rfl, hown5, hb5, HC⟩
    case measure => simp [intOf]; omega
  ·obtain rfl : k = xs.length := by omega
   have hv := hid (hc.out.last (Nat.le_refl _))
   have hok := hid hc.out.ok
   clear hc
   go_wp2_with (go_at_call 98; refine (Qown_trim hown hbl hok.out hv.out).mono ?_; rintro e w6 ⟨R, cc, rfl, hr1, hr2⟩)
   go_ret
   exact ⟨R, cc, rfl, hr1, hr2⟩
theorem Qeven_any (A : Option Addr) (c : Nat) (xs : List Nat) (w : World) (ha : Mg w A c xs) (b : Bool) (h : decide (val xs % 2 = 0) = b) :
  Calls Tryz.prog 82 #[.slice A xs.length c] w fun e w' => e = .returned (.bool b) ∧ w = w' := by
 subst h
 cases xs with
 | nil =>
  go_enter Tryz.func82, Tryz.ntmps82
  go_wp2
  go_ret
  exact ⟨rfl, rfl⟩
 | cons x l =>
  have e : val (x :: l) % 2 = x % 2 := by rw [← lb_zero_mod]; simp [lb]
  rw [e]
  obtain ⟨ba, oa, rfl, hba, hca⟩ := ha.rd.at_ (k := 0) (by simp)
  have c1 : w.cell? ⟨ba, oa, none⟩ = some (.int .u32 (x : Int)) := hca 0 (by simp)
  have o1 : x < 4294967296 := ha.ok x (by simp)
  have hl : (((x :: l).length : Int) == 0) = false := by rw [beq_eq_false_iff_ne]; simp; omega
  have hl0 : 0 < (x :: l).length := by simp
  have hcap := ha.cap
  have hmax := ha.max
  clear hca ha e
  generalize (x :: l).length = n at *
  have ht : ((x : Int) % 2 == 0) = decide (x % 2 = 0) := by
   rw [Bool.eq_iff_iff]; simp; omega
  have ht := hid ht
  go_enter Tryz.func82, Tryz.ntmps82
  go_wp2
  go_ret
  exact ⟨by rw [← ht.out] <;> rfl, rfl⟩
end Go.Proofs.YtglailcfgcdagaaGreat
/- The fractions' reference: contracts at canonical limbs; walks of divide, common. Conditions: none. -/
namespace Go.Proofs.YtglailcfgcdagaaGreat
open Go.RowKit Big
set_option linter.unusedSectionVars false
section
variable {A B : Option Addr} {c d n m : Nat} {w : World} (ha : Mg w A c (limbs n)) (hb : Mg w B d (limbs m)) (hs : (limbs n).length ≤ 100000) (ht : (limbs m).length ≤ 100000)
include ha
theorem Qeven_n (b : Bool) (h : decide (n % 2 = 0) = b) : Calls Tryz.prog 82 #[.slice A (limbs n).length c] w fun e w' => e = .returned (.bool b) ∧ w = w' :=
 Qeven_any A c _ w ha b (by rw [val_limbs]; exact h)
include hs
theorem Qhalve_n : Calls Tryz.prog 83 #[.slice A (limbs n).length c] w (RetNF w (n / 2)) := by
 have := Qhalve_fr A c _ w ha (by omega); rwa [val_limbs] at this
theorem Qshift_n (q : Nat) (hq : q ≤ 1) : Calls Tryz.prog 85 #[.slice A (limbs n).length c, .int .u32 q] w (RetNF w (2 * n + q)) := by
 have := Qshift_fr A c _ q w ha (by omega) hq; rwa [val_limbs] at this
include hb
theorem Qcmp_n : Calls Tryz.prog 50 #[.slice A (limbs n).length c, .slice B (limbs m).length d] w (RetI w (ord n m)) := by
 have := Qcompare_any A B c d _ _ w ha hb (nrm_limbs _) (nrm_limbs _); rwa [val_limbs, val_limbs] at this
include ht
theorem Qminus_n (hle : m ≤ n) : Calls Tryz.prog 84 #[.slice A (limbs n).length c, .slice B (limbs m).length d] w (RetNF w (n - m)) := by
 have := Qminus_fr A B c d _ _ w ha hb (by omega) (limbs_mono hle) (by rw [val_limbs, val_limbs]; exact hle); rwa [val_limbs, val_limbs] at this
end
/-- long division bit by bit: T is what has been read of the number -/
structure Lbb (T m : Nat) (w : World) (s6 s7 : Value) : Prop where
 ex : ∃ A c B d, s6 = .slice A (limbs (T / m)).length c ∧ s7 = .slice B (limbs (T % m)).length d ∧ Mg w A c (limbs (T / m)) ∧ Mg w B d (limbs (T % m))
theorem Lbb.start (m : Nat) (w : World) : Lbb 0 m w (.slice none 0 0) (.slice none 0 0) :=
 ⟨none, 0, none, 0, by simp [limbs_zero], by simp [limbs_zero], by simpa using mg_nil w, by simpa using mg_nil w⟩
theorem val_drop_le (xs : List Nat) (k : Nat) : val (xs.drop k) ≤ val xs := by
 rcases Nat.le_total k xs.length with h | h
 ·rw [val_split xs k h]
  have : val (xs.drop k) ≤ 4294967296 ^ k * val (xs.drop k) := Nat.le_mul_of_pos_left _ (Nat.pow_pos (by decide))
  omega
 ·rw [val_out xs h]; omega
theorem part_le {V x k : Nat} (hk : k ≤ 32) : V * 2 ^ k + x / 2 ^ (32 - k) ≤ V * 4294967296 + x := by
 have h1 : V * 2 ^ k ≤ V * 4294967296 := Nat.mul_le_mul_left _ (by rw [show (4294967296 : Nat) = 2 ^ 32 by decide]; exact Nat.pow_le_pow_right (by decide) hk)
 have h2 := Nat.div_le_self x (2 ^ (32 - k))
 omega
set_option maxRecDepth 100000 in
set_option maxHeartbeats 2000000 in
theorem Qdivide_n (A B : Option Addr) (c d n m : Nat) (w : World) (ha : Mg w A c (limbs n)) (hb : Mg w B d (limbs m)) (hs : (limbs n).length ≤ 50000) (ht : (limbs m).length ≤ 50000) (hm : m ≠ 0) :
  Calls Tryz.prog 62 #[.slice A (limbs n).length c, .slice B (limbs m).length d] w (RetQR w (n / m) (n % m)) := by
 have HSh := hid fun (w1 : World) (R : Option Addr) (cc r q : Nat) (h : Mg w1 R cc (limbs r)) (hl : (limbs r).length ≤ 100000) (hq : q ≤ 1) => Qshift_n h hl q hq
 have HC := hid fun (w1 : World) (hw : Below w.heap.size w w1) (R : Option Addr) (cc r : Nat) (h : Mg w1 R cc (limbs r)) (hl : (limbs r).length ≤ 100000) => Qcmp_n h (hb.below hw) hl
 have HM := hid fun (w1 : World) (hw : Below w.heap.size w w1) (R : Option Addr) (cc r : Nat) (h : Mg w1 R cc (limbs r)) (hl : (limbs r).length ≤ 100000) (hle : m ≤ r) => Qminus_n h (hb.below hw) hl (by omega) hle
 have OX := hid ha.ok
 have VX := hid (val_limbs n)
 have hm0 : 0 < m := by omega
 have hcapB := hb.cap
 have hmaxB := hb.max
 generalize hxs : limbs n = xs at *
 have HX := hid hxs
 clear hb hxs hm
 go_enter Tryz.func62, Tryz.ntmps62
 go_wp2
 go_loopw [6, 7, 8] (fun s6 s7 s8 wr => ∃ (j : Nat), j ≤ xs.length ∧ s8 = .int .i64 ((j : Int) - 1) ∧ Below w.heap.size w wr ∧ Hid (Lbb (val (xs.drop j)) m wr s6 s7)) (fun _ _ s8 _ => (intOf s8 + 1).toNat)
 case atStart => exact ⟨xs.length, Nat.le_refl _, rfl, Below.refl _ _, by rw [List.drop_length]; exact Lbb.start _ _⟩
 case round =>
  obtain ⟨k, hk, rfl, hbl, hg⟩ := hrel
  obtain ⟨A1, c1, A2, c2, rfl, rfl, hq, hr⟩ := hg.out.ex
  clear hg
  by_cases h0 : 0 < k
  ·obtain ⟨j, rfl⟩ : ∃ j, k = j + 1 := ⟨k - 1, by omega⟩
   have hj : j < xs.length := by omega
   have e1 : ((j + 1 : Nat) : Int) - 1 = (j : Int) := by omega
   rw [e1]
   obtain ⟨ba, oa, rfl, hba, hca⟩ := ha.rd.at_ hj
   have cx := (hbl.cell (p := ⟨ba, oa + j, none⟩) hba).trans (hca j hj)
   have ox := ha.ok.get hj
   unfold lim at cx
   have hV := hid (val_drop xs j)
   rw [lb_at hj] at hV
   have hVn := hid (val_drop_le xs j)
   rw [VX.out] at hVn
   generalize xs[j] = x at *
   generalize val (xs.drop (j + 1)) = V at *
   clear hca
   obtain ⟨wo, rfl⟩ : ∃ wo : World, wo = wr := ⟨_, rfl⟩
   go_wp2
   go_loopw [6, 7, 9, 10] (fun s6 s7 s9 s10 wr => ∃ (k : Nat), k ≤ 32 ∧ s10 = .int .i64 k ∧ s9 = .int .u32 ((x * 2 ^ k % 4294967296 : Nat) : Int) ∧ Below w.heap.size w wr ∧ Hid (Lbb (V * 2 ^ k + x / 2 ^ (32 - k)) m wr s6 s7)) (fun _ _ _ s10 _ => 32 - (intOf s10).toNat)
   case atStart =>
    refine ⟨0, by omega, rfl, ?_, hbl, ?_⟩
    ·congr 1; rw [Nat.pow_zero, Nat.mul_one, Nat.mod_eq_of_lt ox]
    ·have e : V * 2 ^ 0 + x / 2 ^ (32 - 0) = V := by rw [Nat.pow_zero, Nat.mul_one, Nat.sub_zero, Nat.div_eq_of_lt (by omega), Nat.add_zero]
     rw [e]
     exact ⟨A1, c1, A2, c2, rfl, rfl, hq, hr⟩
   case round =>
    clear hq hr hbl
    obtain ⟨i, hi, rfl, rfl, hbl, hg⟩ := hrel
    obtain ⟨A1, c1, A2, c2, rfl, rfl, hq, hr⟩ := hg.out.ex
    clear hg
    by_cases hi2 : i < 32
    ·have hbit := hid (limb_bit (x := x) hi2)
     have hup := hid (limb_up (x := x) (k := i))
     have hnx := hid (limb_next (x := x) (A := V) hi2)
     have hTle := part_le (V := V) (x := x) hi
     have hT2 : V * 2 ^ i + x / 2 ^ (32 - i) ≤ n := by have := hV.out; have := hVn.out; omega
     have hbl1 : x / 2 ^ (31 - i) % 2 ≤ 1 := by omega
     have hLl : x * 2 ^ i % 4294967296 < 4294967296 := Nat.mod_lt _ (by decide)
     have hno := fun h => dv_no (A := V * 2 ^ i + x / 2 ^ (32 - i)) (m := m) (b := x / 2 ^ (31 - i) % 2) h
     have hyes := fun h => dv_yes (A := V * 2 ^ i + x / 2 ^ (32 - i)) hm0 hbl1 h
     rw [hnx.out] at hno hyes
     have hno := hid hno
     have hyes := hid hyes
     generalize hT' : V * 2 ^ (i + 1) + x / 2 ^ (32 - (i + 1)) = T' at *
     generalize hL0 : x * 2 ^ (i + 1) % 4294967296 = L' at *
     have HT' := hid hT'
     have HL' := hid hL0
     clear hT' hL0
     generalize hT : V * 2 ^ i + x / 2 ^ (32 - i) = T at *
     generalize x / 2 ^ (31 - i) % 2 = b at *
     generalize x * 2 ^ i % 4294967296 = L at *
     clear hnx hTle hT
     have hb1 : (L : Int) / 2147483648 = (b : Int) := by have := hbit.out; omega
     have hl1 : (L : Int) * 2 % 4294967296 = (L' : Int) := by have := hup.out; omega
     have hL' : L' < 4294967296 := by have := hup.out; omega
     clear hbit hup
     have hrl : T % m < m := Nat.mod_lt _ hm0
     have hrl2 : (limbs (T % m)).length ≤ 50000 := Nat.le_trans (limbs_mono (Nat.le_of_lt hrl)) ht
     have hql2 : (limbs (T / m)).length ≤ 50000 := Nat.le_trans (limbs_mono (Nat.le_trans (Nat.div_le_self _ _) hT2)) (by rw [HX.out]; exact hs)
     have hr2 := limbs_len2' (n := T % m) hbl1 hrl2
     generalize T / m = Qn at *
     generalize T % m = Rn at *
     have hwz := hbl.size
     by_cases hlt : 2 * Rn + b < m
     ·have HH := hid (hno.out hlt)
      have HC1 := hid (fun w1 hw R cc => HC.out w1 hw R cc (2 * Rn + b))
      rw [ord_lt hlt] at HC1
      clear hno hyes HC
      go_wp2_with fail
      refine (HSh.out _ _ _ _ b hr (by omega) hbl1).mono ?_
      rintro e w1 ⟨R1, d1, rfl, hr1, h1, _⟩
      have hb1' := hbl.trans (h1.mono hwz)
      go_wp2_with fail
      refine (HC1.out _ hb1' _ _ hr1 (by omega)).mono ?_
      rintro e w2 ⟨rfl, h2⟩
      have hb2' := hb1'.trans (h2.mono hb1'.size)
      go_wp2_with fail
      refine (HSh.out _ _ _ _ 0 ((hq.below h1).below h2) (by omega) (by omega)).mono ?_
      rintro e w3 ⟨R3, d3, rfl, hr3, h3, _⟩
      have hb3' := hb2'.trans (h3.mono hb2'.size)
      go_wp2_with fail
      go_roundw
      case rel => exact ⟨i + 1, by omega, by go_num, by rw [HL'.out] <;> first | rfl | rw [hl1], hb3', by rw [HT'.out]; exact ⟨⟨R3, d3, R1, d1, by rw [HH.out.1] <;> rfl, by rw [HH.out.2], by rw [HH.out.1]; exact hr3, by rw [HH.out.2]; exact (hr1.below h2).below h3⟩⟩⟩
      case measure => simp [intOf] <;> omega
     ·have hge : m ≤ 2 * Rn + b := by omega
      have HH := hid (hyes.out hge)
      have ho : 0 ≤ ord (2 * Rn + b) m := by unfold ord; rw [if_neg (by omega)]; split <;> omega
      have HC1 := hid (fun w1 hw R cc => HC.out w1 hw R cc (2 * Rn + b))
      clear hno hyes HC
      generalize ord (2 * Rn + b) m = ov at *
      go_wp2_with fail
      refine (HSh.out _ _ _ _ b hr (by omega) hbl1).mono ?_
      rintro e w1 ⟨R1, d1, rfl, hr1, h1, _⟩
      have hb1' := hbl.trans (h1.mono hwz)
      go_wp2_with fail
      refine (HC1.out _ hb1' _ _ hr1 (by omega)).mono ?_
      rintro e w2 ⟨rfl, h2⟩
      have hb2' := hb1'.trans (h2.mono hb1'.size)
      go_wp2_with fail
      refine (HM.out _ hb2' _ _ _ (hr1.below h2) (by omega) hge).mono ?_
      rintro e w3 ⟨R3, d3, rfl, hr3, h3, _⟩
      have hb3' := hb2'.trans (h3.mono hb2'.size)
      go_wp2_with fail
      refine (HSh.out _ _ _ _ 1 (((hq.below h1).below h2).below h3) (by omega) (by omega)).mono ?_
      rintro e w4 ⟨R4, d4, rfl, hr4, h4, _⟩
      have hb4' := hb3'.trans (h4.mono hb3'.size)
      go_wp2_with fail
      go_roundw
      case rel => exact ⟨i + 1, by omega, by go_num, by rw [HL'.out] <;> first | rfl | rw [hl1], hb4', by rw [HT'.out]; exact ⟨⟨R4, d4, R3, d3, by rw [HH.out.1] <;> rfl, by rw [HH.out.2], by rw [HH.out.1]; exact hr4, by rw [HH.out.2]; exact hr3.below h4⟩⟩⟩
      case measure => simp [intOf] <;> omega
    ·obtain rfl : i = 32 := by omega
     have e : V * 2 ^ 32 + x / 2 ^ (32 - 32) = val (xs.drop j) := by
      rw [hV.out, Nat.sub_self, Nat.pow_zero, Nat.div_one, show (2 : Nat) ^ 32 = 4294967296 by decide]; omega
     rw [e] at hq hr
     have HL := hid (⟨⟨A1, c1, A2, c2, rfl, rfl, hq, hr⟩⟩ : Lbb (val (xs.drop j)) m wr (.slice A1 (limbs (val (xs.drop j) / m)).length c1) (.slice A2 (limbs (val (xs.drop j) % m)).length c2))
     rw [e]
     clear hq hr hV hVn e
     generalize (limbs (val (xs.drop j) / m)).length = l1 at *
     generalize (limbs (val (xs.drop j) % m)).length = l2 at *
     go_wp2
     go_roundw
     case rel => exact ⟨j, by omega, by first | rfl | go_num, hbl, HL⟩
     case measure => simp [intOf] <;> omega
  ·obtain rfl : k = 0 := by omega
   rw [List.drop_zero, VX.out] at *
   go_wp2
   go_ret2
   exact ⟨_, _, _, _, rfl, hq, hr, hbl⟩
end Go.Proofs.YtglailcfgcdagaaGreat
