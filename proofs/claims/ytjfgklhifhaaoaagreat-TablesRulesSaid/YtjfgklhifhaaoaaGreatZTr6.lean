/- Tables: the reference's pixels and runs. Conditions: sides of at most 4096. -/
import Derived.Test.YtjfgklhifhaaoaaGreatZTw8
import Derived.Test.YtjfgklhifhaaoaaGreatZTn17
set_option linter.unusedVariables false
set_option linter.unusedSimpArgs false
namespace Go.Proofs.YtjfgklhifhaaoaaGreat
open Go.RowKit
/-- pixel x of row k, or of column k -/
def dirP (W : Nat) (d : List Bool) (v : Bool) (k x : Nat) : Bool := if v then d.getD (x * W + k) false else d.getD (k * W + x) false
def dirS (W H : Nat) (v : Bool) : Nat := if v then H else W
theorem dir_place {W H : Nat} {v : Bool} {k x : Nat} (hk : k < dirS H W v) (hx : x < dirS W H v) : (if v then x * W + k else k * W + x) < W * H := by
 unfold dirS at hk hx
 cases v
 ·exact px_place hx hk
 ·exact px_place hk hx
set_option maxHeartbeats 4000000 in
theorem RAt_g (W H : Nat) (d : List Bool) (A : Option Addr) (c : Nat) (v : Bool) (k x : Nat) {w : World} (hd : BoK.Rd w A c d) (hl : d.length = W * H) (hW : W ≤ 4096) (hH : H ≤ 4096) (hk : k < dirS H W v) (hx : x < dirS W H v) :
  Calls Tryz.prog 56 #[.agg #[.int .i64 W, .int .i64 H, .slice A d.length c], .bool v, .int .i64 k, .int .i64 x] w (RetB w (dirP W d v k x)) := by
 have hpl := dir_place hk hx
 obtain ⟨t, ht⟩ : ∃ t, dirP W d v k x = t := ⟨_, rfl⟩
 rw [ht]
 replace ht := hid ht
 rw [← hl] at hpl
 obtain ⟨n, hn⟩ : ∃ n, d.length = n := ⟨_, rfl⟩
 have cc := Nat.le_trans hd.cap hd.max
 have h0 : 0 < d.length := by omega
 rw [hn] at cc ⊢
 replace hn := hid hn
 replace hl := hid hl
 go_enter Tryz.func56, Tryz.ntmps56
 go_upto_region 1 with fail
 refine enterR (P := fun u => Code.wp _ _ _ _ u) (c := [.int .i64 W, .int .i64 H, .slice A n c]) ?_
 intro u HB r0 zn0 hsz
 have c0 : u.cell? ⟨w.heap.size, 0, none⟩ = some (.int .i64 W) := r0 0 _ rfl
 have c1 : u.cell? ⟨w.heap.size, 1, none⟩ = some (.int .i64 H) := r0 1 _ rfl
 have c2 : u.cell? ⟨w.heap.size, 2, none⟩ = some (.slice A n c) := r0 2 _ rfl
 obtain ⟨b, o, hA, hb, hc⟩ := (hd.below HB).rd h0
 subst hA
 clear r0 zn0 hsz hb h0
 unfold dirS at hk hx
 have hnn := hn.out
 cases v
 ·simp only [Bool.false_eq_true, if_false] at hpl hk hx
  have hm1 : k * W ≤ 4096 * 4096 := Nat.mul_le_mul (by omega) hW
  have e0 : u.cell? ⟨b, o + (k * W + x) * 1, none⟩ = some (.bool (d[k * W + x]'hpl)) := hc _ hpl 0 _ rfl
  rw [Nat.mul_one] at e0
  have hw1 : IntKind.i64.wrap ((k : Int) * (W : Int)) = ((k * W : Nat) : Int) := by rw [IntKind.wrap_i64, Int.natCast_mul]; rw [← Int.natCast_mul]; omega
  have hw2 : IntKind.i64.wrap (((k * W : Nat) : Int) + (x : Int)) = ((k * W + x : Nat) : Int) := by rw [IntKind.wrap_i64]; omega
  have hgd : d.getD (k * W + x) false = d[k * W + x]'hpl := by simp [List.getD, hpl]
  have htt : d[k * W + x]'hpl = t := by
   have := ht.out
   unfold dirP at this
   simp only [Bool.false_eq_true, if_false, if_true, hgd] at this
   exact this
  rw [htt] at e0
  clear hc hgd htt ht
  generalize k * W + x = ix at *
  generalize k * W = iy at *
  have hii : (ix : Int) < (n : Int) := by omega
  clear hm1 hl hd hnn hn
  go_wp2
  go_ret
  exact ⟨rfl, HB⟩
 ·simp only [if_true] at hpl hk hx
  have hm1 : x * W ≤ 4096 * 4096 := Nat.mul_le_mul (by omega) hW
  have e0 : u.cell? ⟨b, o + (x * W + k) * 1, none⟩ = some (.bool (d[x * W + k]'hpl)) := hc _ hpl 0 _ rfl
  rw [Nat.mul_one] at e0
  have hw1 : IntKind.i64.wrap ((x : Int) * (W : Int)) = ((x * W : Nat) : Int) := by rw [IntKind.wrap_i64, Int.natCast_mul]; rw [← Int.natCast_mul]; omega
  have hw2 : IntKind.i64.wrap (((x * W : Nat) : Int) + (k : Int)) = ((x * W + k : Nat) : Int) := by rw [IntKind.wrap_i64]; omega
  have hgd : d.getD (x * W + k) false = d[x * W + k]'hpl := by simp [List.getD, hpl]
  have htt : d[x * W + k]'hpl = t := by
   have := ht.out
   unfold dirP at this
   simp only [Bool.false_eq_true, if_false, if_true, hgd] at this
   exact this
  rw [htt] at e0
  clear hc hgd htt ht
  generalize x * W + k = ix at *
  generalize x * W = iy at *
  have hii : (ix : Int) < (n : Int) := by omega
  clear hm1 hl hd hnn hn
  go_wp2
  go_ret
  exact ⟨rfl, HB⟩
/-! a maximal run -/
/-- what the loop over the pixels of a run has seen -/
theorem runB_no {p : Nat → Bool} {w a b y : Nat} (h1 : a ≤ y) (h2 : y < b) (h : p y = false) : runB p w a b = false := by
 unfold runB
 rw [Bool.and_eq_false_iff]
 left
 rw [Bool.and_eq_false_iff]
 left
 rw [List.all_eq_false]
 exact ⟨y, by rw [List.mem_range'_1]; omega, by rw [h]; simp⟩
theorem runB_yes {p : Nat → Bool} {w a b : Nat} (h : ∀ y, a ≤ y → y < b → p y = true) : runB p w a b = ((a == 0 || !p (a - 1)) && (b == w || !p b)) := by
 unfold runB
 rw [show (List.range' a (b - a)).all p = true from by
  rw [List.all_eq_true]; intro x hx; rw [List.mem_range'_1] at hx; exact h x (by omega) (by omega), Bool.true_and]
set_option maxRecDepth 100000 in
set_option maxHeartbeats 4000000 in
theorem RRun_g (W H : Nat) (d : List Bool) (A : Option Addr) (c : Nat) (v : Bool) (k a b : Nat) {w : World} (hd : BoK.Rd w A c d) (hl : d.length = W * H) (hW : W ≤ 4096) (hH : H ≤ 4096) (hk : k < dirS H W v) (hab : a ≤ b) (hb : b ≤ dirS W H v) :
  Calls Tryz.prog 57 #[.agg #[.int .i64 W, .int .i64 H, .slice A d.length c], .bool v, .int .i64 k, .int .i64 a, .int .i64 b] w (RetB w (runB (dirP W d v k) (dirS W H v) a b)) := by
 have HA := hid fun (x : Nat) (hx : x < dirS W H v) (V : World) (hv : Below w.heap.size w V) => RAt_g W H d A c v k x (hd.below hv) hl hW hH hk hx
 have hS4 : dirS W H v ≤ 4096 := by unfold dirS; cases v <;> simp <;> omega
 have hk4 : k ≤ 4096 := by unfold dirS at hk; cases v <;> simp at hk <;> omega
 generalize dirP W d v k = p at *
 have hS := hid (show dirS W H v = if v then H else W from rfl)
 generalize dirS W H v = S at *
 have HAa := hid fun (h : 0 < a) => HA.out (a - 1) (by omega)
 have HAy := hid fun (h : b < S) => HA.out b h
 have HAy2 := hid fun (y : Nat) (h : y < S) => HA.out y h
 replace HAy2 := hid fun (y : Nat) (h : y < b) => HAy2.out y (by omega)
 obtain ⟨t, ht⟩ : ∃ t, runB p S a b = t := ⟨_, rfl⟩
 have hN := hid fun (y : Nat) (h1 : a ≤ y) (h2 : y < b) (h : p y = false) => ht.symm.trans (runB_no h1 h2 h)
 have hY := hid fun (h : ∀ y, a ≤ y → y < b → p y = true) => ht.symm.trans (runB_yes h)
 rw [ht]
 clear ht HA hk hl hd
 generalize d.length = n at *
 go_enter Tryz.func57, Tryz.ntmps57
 go_upto_region 1 with fail
 refine enterR (P := fun u => Code.wp _ _ _ _ u) (c := [.int .i64 W, .int .i64 H, .slice A n c]) ?_
 intro u HB r0 zn0 hsz
 have c0 : u.cell? ⟨w.heap.size, 0, none⟩ = some (.int .i64 W) := r0 0 _ rfl
 have c1 : u.cell? ⟨w.heap.size, 1, none⟩ = some (.int .i64 H) := r0 1 _ rfl
 have c2 : u.cell? ⟨w.heap.size, 2, none⟩ = some (.slice A n c) := r0 2 _ rfl
 have hKp := hid fun (V : World) (hb : Below u.heap.size u V) => And.intro (And.intro (keep_cell hb c0) (keep_cell hb c1)) (keep_cell hb c2)
 clear r0 zn0 hsz
 cases v
 ·replace hS := hid (show S = W from by have := hS.out; simpa using this)
  go_wp2
  clear c0 c1 c2
  have HB1 := HB
  go_loopw [12] (fun s12 wr => ∃ y : Nat, s12 = .int .i64 y ∧ y ≤ b ∧ Hid (Dk p a y) ∧ Below u.heap.size u wr) (fun s12 _ => b - (intOf s12).toNat)
  case atStart => exact ⟨a, rfl, hab, hid ⟨Nat.le_refl _, fun z h1 h2 => by omega⟩, Below.refl _ _⟩
  case round =>
   clear HB
   obtain ⟨y, rfl, hy, hD, hbu⟩ := hrel
   have HB2 := bel_step HB1 hbu
   obtain ⟨⟨c0, c1⟩, c2⟩ := hKp.out wr hbu
   by_cases hyb : y < b
   ·have hyi : (y : Int) < (b : Int) := by omega
    have HAb := hid (HAy2.out y (by omega))
    obtain ⟨q, hq⟩ : ∃ q, p y = q := ⟨_, rfl⟩
    rw [hq] at HAb
    clear HAa HAy HAy2
    cases q
    ·obtain rfl := hN.out y hD.out.le hyb hq
     clear hN hY hD hq
     go_wp2_with fail
     refine (HAb.out wr HB2).mono ?_
     rintro e u2 ⟨rfl, hv⟩
     have HB := bel_step HB2 hv
     clear HAb
     go_wp2
     go_ret
     exact ⟨rfl, HB⟩
    ·have hD2 := hid (hD.out.next hq)
     clear hN hY hD hq
     go_wp2_with fail
     refine (HAb.out wr HB2).mono ?_
     rintro e u2 ⟨rfl, hv⟩
     replace hbu := bel_step hbu hv
     clear HAb
     go_wp2
     go_roundw
     case rel => exact ⟨y + 1, by go_num, by omega, hD2, hbu⟩
     case measure => simp [intOf]; omega
   ·-- the ends
    obtain rfl : y = b := by omega
    have hyi : ¬ (y : Int) < (y : Int) := by omega
    have hall := hid (hY.out fun z h1 h2 => hD.out.all z h1 h2)
    clear hN hY hD
    have HB := HB2
    by_cases a0 : a = 0
    ·subst a0
     have ha0 : ((0 : Int) == 0) = true := rfl
     have hall2 := hid (show t = (y == S || !p y) from by have := hall.out; simpa using this)
     clear hall HAa
     by_cases hb : y = S
     ·have hbi : ((y : Int) == (W : Int)) = true := by rw [beq_iff_eq]; have := hS.out; omega
      obtain rfl := hall2.out.trans (show (y == S || !p y) = true from by rw [show (y == S) = true from by simpa using hb]; rfl)
      clear hall2 HAy hb
      go_wp2
      go_ret
      exact ⟨rfl, HB⟩
     ·have hbi : ((y : Int) == (W : Int)) = false := by rw [beq_eq_false_iff_ne]; have := hS.out; omega
      have HAb := hid (HAy.out (by omega))
      clear HAy
      obtain ⟨q2, hq2⟩ : ∃ q, p y = q := ⟨_, rfl⟩
      rw [hq2] at HAb
      obtain rfl := hall2.out.trans (show (y == S || !p y) = !q2 from by rw [hq2, show (y == S) = false from by simpa using hb, Bool.false_or])
      clear hall2 hq2 hb
      go_wp2_with fail
      refine (HAb.out _ HB).mono ?_
      rintro e u4 ⟨rfl, hv⟩
      have HB := bel_step HB hv
      clear HAb
      go_wp2
      go_ret
      exact ⟨rfl, HB⟩
    ·have ha0 : ((a : Int) == 0) = false := by rw [beq_eq_false_iff_ne]; omega
     have hwa : IntKind.i64.wrap ((a : Int) - 1) = ((a - 1 : Nat) : Int) := by rw [IntKind.wrap_i64]; omega
     have HAb := hid (HAa.out (by omega))
     clear HAa
     obtain ⟨q, hq⟩ : ∃ q, p (a - 1) = q := ⟨_, rfl⟩
     rw [hq] at HAb
     have hall2 := hid (show t = (!q && (y == S || !p y)) from by
      have := hall.out
      rw [hq, show (a == 0) = false from by simpa using a0, Bool.false_or] at this
      exact this)
     clear hall hq
     obtain ⟨aa, haa⟩ : ∃ z, a - 1 = z := ⟨_, rfl⟩
     rw [haa] at hwa HAb
     clear haa
     go_wp2_with fail
     refine (HAb.out wr HB).mono ?_
     rintro e u3 ⟨rfl, hv⟩
     have HB := bel_step HB hv
     replace c0 := keep_cell hv c0
     replace c1 := keep_cell hv c1
     replace c2 := keep_cell hv c2
     clear hv
     clear HAb
     cases q
     ·rw [Bool.not_false, Bool.true_and] at hall2
      by_cases hb : y = S
      ·have hbi : ((y : Int) == (W : Int)) = true := by rw [beq_iff_eq]; have := hS.out; omega
       obtain rfl := hall2.out.trans (show (y == S || !p y) = true from by rw [show (y == S) = true from by simpa using hb]; rfl)
       clear hall2 HAy hb
       go_wp2
       go_ret
       exact ⟨rfl, HB⟩
      ·have hbi : ((y : Int) == (W : Int)) = false := by rw [beq_eq_false_iff_ne]; have := hS.out; omega
       have HAb := hid (HAy.out (by omega))
       clear HAy
       obtain ⟨q2, hq2⟩ : ∃ q, p y = q := ⟨_, rfl⟩
       rw [hq2] at HAb
       obtain rfl := hall2.out.trans (show (y == S || !p y) = !q2 from by rw [hq2, show (y == S) = false from by simpa using hb, Bool.false_or])
       clear hall2 hq2 hb
       go_wp2_with fail
       refine (HAb.out _ HB).mono ?_
       rintro e u4 ⟨rfl, hv⟩
       have HB := bel_step HB hv
       clear HAb
       go_wp2
       go_ret
       exact ⟨rfl, HB⟩
     ·rw [Bool.not_true, Bool.false_and] at hall2
      obtain rfl := hall2.out
      clear hall2 HAy
      go_wp2
      go_ret
      exact ⟨rfl, HB⟩
 ·replace hS := hid (show S = H from by have := hS.out; simpa using this)
  go_wp2
  clear c0 c1 c2
  have HB1 := HB
  go_loopw [12] (fun s12 wr => ∃ y : Nat, s12 = .int .i64 y ∧ y ≤ b ∧ Hid (Dk p a y) ∧ Below u.heap.size u wr) (fun s12 _ => b - (intOf s12).toNat)
  case atStart => exact ⟨a, rfl, hab, hid ⟨Nat.le_refl _, fun z h1 h2 => by omega⟩, Below.refl _ _⟩
  case round =>
   clear HB
   obtain ⟨y, rfl, hy, hD, hbu⟩ := hrel
   have HB2 := bel_step HB1 hbu
   obtain ⟨⟨c0, c1⟩, c2⟩ := hKp.out wr hbu
   by_cases hyb : y < b
   ·have hyi : (y : Int) < (b : Int) := by omega
    have HAb := hid (HAy2.out y (by omega))
    obtain ⟨q, hq⟩ : ∃ q, p y = q := ⟨_, rfl⟩
    rw [hq] at HAb
    clear HAa HAy HAy2
    cases q
    ·obtain rfl := hN.out y hD.out.le hyb hq
     clear hN hY hD hq
     go_wp2_with fail
     refine (HAb.out wr HB2).mono ?_
     rintro e u2 ⟨rfl, hv⟩
     have HB := bel_step HB2 hv
     clear HAb
     go_wp2
     go_ret
     exact ⟨rfl, HB⟩
    ·have hD2 := hid (hD.out.next hq)
     clear hN hY hD hq
     go_wp2_with fail
     refine (HAb.out wr HB2).mono ?_
     rintro e u2 ⟨rfl, hv⟩
     replace hbu := bel_step hbu hv
     clear HAb
     go_wp2
     go_roundw
     case rel => exact ⟨y + 1, by go_num, by omega, hD2, hbu⟩
     case measure => simp [intOf]; omega
   ·-- the ends
    obtain rfl : y = b := by omega
    have hyi : ¬ (y : Int) < (y : Int) := by omega
    have hall := hid (hY.out fun z h1 h2 => hD.out.all z h1 h2)
    clear hN hY hD
    have HB := HB2
    by_cases a0 : a = 0
    ·subst a0
     have ha0 : ((0 : Int) == 0) = true := rfl
     have hall2 := hid (show t = (y == S || !p y) from by have := hall.out; simpa using this)
     clear hall HAa
     by_cases hb : y = S
     ·have hbi : ((y : Int) == (H : Int)) = true := by rw [beq_iff_eq]; have := hS.out; omega
      obtain rfl := hall2.out.trans (show (y == S || !p y) = true from by rw [show (y == S) = true from by simpa using hb]; rfl)
      clear hall2 HAy hb
      go_wp2
      go_ret
      exact ⟨rfl, HB⟩
     ·have hbi : ((y : Int) == (H : Int)) = false := by rw [beq_eq_false_iff_ne]; have := hS.out; omega
      have HAb := hid (HAy.out (by omega))
      clear HAy
      obtain ⟨q2, hq2⟩ : ∃ q, p y = q := ⟨_, rfl⟩
      rw [hq2] at HAb
      obtain rfl := hall2.out.trans (show (y == S || !p y) = !q2 from by rw [hq2, show (y == S) = false from by simpa using hb, Bool.false_or])
      clear hall2 hq2 hb
      go_wp2_with fail
      refine (HAb.out _ HB).mono ?_
      rintro e u4 ⟨rfl, hv⟩
      have HB := bel_step HB hv
      clear HAb
      go_wp2
      go_ret
      exact ⟨rfl, HB⟩
    ·have ha0 : ((a : Int) == 0) = false := by rw [beq_eq_false_iff_ne]; omega
     have hwa : IntKind.i64.wrap ((a : Int) - 1) = ((a - 1 : Nat) : Int) := by rw [IntKind.wrap_i64]; omega
     have HAb := hid (HAa.out (by omega))
     clear HAa
     obtain ⟨q, hq⟩ : ∃ q, p (a - 1) = q := ⟨_, rfl⟩
     rw [hq] at HAb
     have hall2 := hid (show t = (!q && (y == S || !p y)) from by
      have := hall.out
      rw [hq, show (a == 0) = false from by simpa using a0, Bool.false_or] at this
      exact this)
     clear hall hq
     obtain ⟨aa, haa⟩ : ∃ z, a - 1 = z := ⟨_, rfl⟩
     rw [haa] at hwa HAb
     clear haa
     go_wp2_with fail
     refine (HAb.out wr HB).mono ?_
     rintro e u3 ⟨rfl, hv⟩
     have HB := bel_step HB hv
     replace c0 := keep_cell hv c0
     replace c1 := keep_cell hv c1
     replace c2 := keep_cell hv c2
     clear hv
     clear HAb
     cases q
     ·rw [Bool.not_false, Bool.true_and] at hall2
      by_cases hb : y = S
      ·have hbi : ((y : Int) == (H : Int)) = true := by rw [beq_iff_eq]; have := hS.out; omega
       obtain rfl := hall2.out.trans (show (y == S || !p y) = true from by rw [show (y == S) = true from by simpa using hb]; rfl)
       clear hall2 HAy hb
       go_wp2
       go_ret
       exact ⟨rfl, HB⟩
      ·have hbi : ((y : Int) == (H : Int)) = false := by rw [beq_eq_false_iff_ne]; have := hS.out; omega
       have HAb := hid (HAy.out (by omega))
       clear HAy
       obtain ⟨q2, hq2⟩ : ∃ q, p y = q := ⟨_, rfl⟩
       rw [hq2] at HAb
       obtain rfl := hall2.out.trans (show (y == S || !p y) = !q2 from by rw [hq2, show (y == S) = false from by simpa using hb, Bool.false_or])
       clear hall2 hq2 hb
       go_wp2_with fail
       refine (HAb.out _ HB).mono ?_
       rintro e u4 ⟨rfl, hv⟩
       have HB := bel_step HB hv
       clear HAb
       go_wp2
       go_ret
       exact ⟨rfl, HB⟩
     ·rw [Bool.not_true, Bool.false_and] at hall2
      obtain rfl := hall2.out
      clear hall2 HAy
      go_wp2
      go_ret
      exact ⟨rfl, HB⟩
end Go.Proofs.YtjfgklhifhaaoaaGreat
