/- Tables: runs of dark pixels. Conditions: at most 4096 pixels, a length from 1 to 4096. -/
import Derived.Test.YtjfgklhifhaaoaaZTw6
set_option linter.unusedVariables false
set_option linter.unusedSimpArgs false
namespace Go.Proofs.Ytjfgklhifhaaoaa
open Go.RowKit
theorem runX_len (p : Nat → Bool) (w k x : Nat) : (runX p w k x).length ≤ x := by
 unfold runX
 exact Nat.le_trans (List.length_filterMap_le ..) (by simp)
/-- what the loop over dark pixels has seen -/
structure Dk (p : Nat → Bool) (x y : Nat) : Prop where
 le : x ≤ y
 all : ∀ z, x ≤ z → z < y → p z = true
theorem Dk.next {p : Nat → Bool} {x y : Nat} (h : Dk p x y) (hp : p y = true) : Dk p x (y + 1) := ⟨Nat.le_succ_of_le h.le, fun z h1 h2 => by
 by_cases e : z = y
 ·rw [e]; exact hp
 ·exact h.all z h1 (by omega)⟩
set_option maxRecDepth 100000 in
set_option maxHeartbeats 4000000 in
theorem Truns_g (g : Nat) (lb : Array Value) (p : Nat → Bool) (W k : Nat) {w : World} (eg : ∀ args w, (callFunc g args).run Try.prog w = .ok (.enter g args) w) (hW : W ≤ 4096) (hk1 : 1 ≤ k) (hk2 : k ≤ 4096)
  (hD0 : ∀ (V : World), Below w.heap.size w V → ∀ x : Nat, x < W → Calls Try.prog g (#[.int .i64 (x : Int)] ++ lb) V (RetB V (p x))) :
  Calls Try.prog 22 #[.int .i64 (W : Int), .int .i64 (k : Int), .func (.func g) #[] lb] w (RnK.Ret w (runL p W k)) := by
 have hD := hid hD0
 have hend := hid fun (x : Nat) (h : W ≤ x) => runX_end (p := p) (w := W) hk1 h
 have hO : RnK.Own w w.heap.size (.slice none 0 0) (runX p W k 0) := Knd.Own.nil _ _
 clear hD0
 generalize runL p W k = R at *
 go_enter Try.func22, Try.ntmps22
 go_wp2
 go_loopw [8, 7] (fun s8 s7 wr => ∃ x : Nat, s8 = .int .i64 x ∧ x ≤ W + 1 ∧ Hid (x = 0 ∨ W < x ∨ p (x - 1) = false) ∧ RnK.Own wr w.heap.size s7 (runX p W k x) ∧ Below w.heap.size w wr) (fun s8 _ _ => W + 1 - (intOf s8).toNat)
 case atStart => exact ⟨0, rfl, by omega, hid (Or.inl rfl), hO, Below.refl _ _⟩
 case round =>
  clear hO
  obtain ⟨x, rfl, hx, hX, hOw, hbw⟩ := hrel
  by_cases hxw : x < W
  ·have hxi : (x : Int) < (W : Int) := by omega
   go_wp2
   obtain ⟨w0, hw0⟩ : ∃ w0, w0 = wr := ⟨_, rfl⟩
   subst hw0
   go_loopw [8] (fun s8 wz => ∃ y : Nat, s8 = .int .i64 y ∧ y ≤ W ∧ Hid (Dk p x y) ∧ Below w0.heap.size w0 wz) (fun s8 _ => W - (intOf s8).toNat)
   case atStart => exact ⟨x, rfl, by omega, hid ⟨Nat.le_refl _, fun z h1 h2 => by omega⟩, Below.refl _ _⟩
   case round =>
    obtain ⟨y, rfl, hy, hDk, hbz⟩ := hrel
    by_cases hyw : y < W
    ·have hyi : (y : Int) < (W : Int) := by omega
     obtain ⟨t, ht⟩ : ∃ t, p y = t := ⟨_, rfl⟩
     have hH := hid (show Calls Try.prog g (#[.int .i64 (y : Int)] ++ lb) wr (RetB wr t) from by rw [← ht]; exact hD.out wr (bel_step hbw hbz) y hyw)
     cases t
     ·have hE := hid (show y = endR p x (W - x) from (endR_uni hDk.out.le (by omega) hDk.out.all (fun _ => ht)).symm)
      have hE2 := hid (show y + 1 = 0 ∨ W < y + 1 ∨ p (y + 1 - 1) = false from .inr (.inr ht))
      clear ht
      go_wp2_with fail
      refine hH.out.mono ?_
      rintro e v ⟨rfl, hv⟩
      clear hH
      replace hbz := bel_step hbz hv
      clear hv
      have hle := hDk.out.le
      have hwx : IntKind.i64.wrap ((y : Int) - (x : Int)) = ((y - x : Nat) : Int) := by rw [IntKind.wrap_i64]; omega
      have hst := hid (runX_step hk1 (show x < W by omega) (hX.out.elim Or.inl fun h => h.elim (fun h => absurd h (by omega)) Or.inr) hE.out)
      have hb8 := hid (show y + 1 = 0 ∨ W < y + 1 ∨ p (y + 1 - 1) = false from hE2.out)
      have hln := runX_len p W k x
      replace hOw := hOw.below hbz
      replace hbw := bel_step hbw hbz
      have hzz := hbw.size
      clear hDk hD hE hE2 hX hbz
      by_cases hkk : k ≤ y - x
      ·have hki : (k : Int) ≤ ((y - x : Nat) : Int) := by omega
       have hst2 := hid (show runX p W k (y + 1) = runX p W k x ++ [(x, y)] from by have := hst.out; rwa [if_pos hkk] at this)
       clear hst
       generalize runX p W k x = Lx at *
       have hOx := hOw.below ((Below.refl _ _).alloc (Nat.le_refl _) (.cells #[.int .i64 (x : Int), .int .i64 (y : Int)] 85))
       have hBx := hbw.alloc hzz (.cells #[.int .i64 (x : Int), .int .i64 (y : Int)] 85)
       have hr := rng_alloc (w := v) (cs := [.int .i64 (x : Int), .int .i64 (y : Int)]) (t := 85)
       clear hOw hbw
       go_wp2_with (at_builtin; go_loud (refine Knd.app1 RnKo rfl (.tmp 31) (.tmp 35) rfl w.heap.size u7 Lx (x, y) v.heap.size rfl hOx rfl hr (by omega) (by simp; omega) ?_); intro v' w' hO' hg' hat'; have hb' := hid (Knd.grown hBx hOx hg' (by simp; omega) (Nat.le_refl _)); have hO' := hid hO'; clear hg' hat' hOx hBx hr)
       go_roundw
       case rel => exact ⟨y + 1, by go_num, by omega, hb8, by rw [hst2.out]; exact hO'.out, hb'.out⟩
       case measure => simp [intOf]; omega
      ·have hki : ¬ (k : Int) ≤ ((y - x : Nat) : Int) := by omega
       have hst2 := hid (show runX p W k (y + 1) = runX p W k x from by have := hst.out; rwa [if_neg hkk, List.append_nil] at this)
       clear hst
       go_wp2
       go_roundw
       case rel => exact ⟨y + 1, by go_num, by omega, hb8, by rw [hst2.out]; exact hOw, hbw⟩
       case measure => simp [intOf]; omega
     ·have hDk2 := hid (hDk.out.next ht)
      clear ht hDk
      go_wp2_with fail
      refine hH.out.mono ?_
      rintro e v ⟨rfl, hv⟩
      clear hH
      replace hbz := bel_step hbz hv
      go_wp2
      go_roundw
      case rel => exact ⟨y + 1, by go_num, by omega, hDk2, hbz⟩
      case measure => simp [intOf]; omega
    ·obtain rfl : W = y := by omega
     have hyi : ¬ (W : Int) < (W : Int) := by omega
     have hE := hid (show W = endR p x (W - x) from (endR_uni hDk.out.le (by omega) hDk.out.all (fun h => by omega)).symm)
     have hE2 := hid (show W + 1 = 0 ∨ W < W + 1 ∨ p (W + 1 - 1) = false from .inr (.inl (by omega)))
     obtain ⟨v, hv⟩ : ∃ v, v = wr := ⟨_, rfl⟩
     subst hv
     have hle := hDk.out.le
     have hwx : IntKind.i64.wrap ((W : Int) - (x : Int)) = ((W - x : Nat) : Int) := by rw [IntKind.wrap_i64]; omega
     have hst := hid (runX_step hk1 (show x < W by omega) (hX.out.elim Or.inl fun h => h.elim (fun h => absurd h (by omega)) Or.inr) hE.out)
     have hb8 := hid (show W + 1 = 0 ∨ W < W + 1 ∨ p (W + 1 - 1) = false from hE2.out)
     have hln := runX_len p W k x
     replace hOw := hOw.below hbz
     replace hbw := bel_step hbw hbz
     have hzz := hbw.size
     clear hDk hD hE hE2 hX hbz
     by_cases hkk : k ≤ W - x
     ·have hki : (k : Int) ≤ ((W - x : Nat) : Int) := by omega
      have hst2 := hid (show runX p W k (W + 1) = runX p W k x ++ [(x, W)] from by have := hst.out; rwa [if_pos hkk] at this)
      clear hst
      generalize runX p W k x = Lx at *
      have hOx := hOw.below ((Below.refl _ _).alloc (Nat.le_refl _) (.cells #[.int .i64 (x : Int), .int .i64 (W : Int)] 85))
      have hBx := hbw.alloc hzz (.cells #[.int .i64 (x : Int), .int .i64 (W : Int)] 85)
      have hr := rng_alloc (w := v) (cs := [.int .i64 (x : Int), .int .i64 (W : Int)]) (t := 85)
      clear hOw hbw
      go_wp2_with (at_builtin; go_loud (refine Knd.app1 RnKo rfl (.tmp 31) (.tmp 35) rfl w.heap.size u7 Lx (x, W) v.heap.size rfl hOx rfl hr (by omega) (by simp; omega) ?_); intro v' w' hO' hg' hat'; have hb' := hid (Knd.grown hBx hOx hg' (by simp; omega) (Nat.le_refl _)); have hO' := hid hO'; clear hg' hat' hOx hBx hr)
      go_roundw
      case rel => exact ⟨W + 1, by go_num, by omega, hb8, by rw [hst2.out]; exact hO'.out, hb'.out⟩
      case measure => simp [intOf]; omega
     ·have hki : ¬ (k : Int) ≤ ((W - x : Nat) : Int) := by omega
      have hst2 := hid (show runX p W k (W + 1) = runX p W k x from by have := hst.out; rwa [if_neg hkk, List.append_nil] at this)
      clear hst
      go_wp2
      go_roundw
      case rel => exact ⟨W + 1, by go_num, by omega, hb8, by rw [hst2.out]; exact hOw, hbw⟩
      case measure => simp [intOf]; omega
  ·have hxi : ¬ (x : Int) < (W : Int) := by omega
   have he := hid (hend.out x (by omega))
   go_wp2
   go_ret
   exact ⟨_, rfl, by rw [← he.out]; exact hOw, hbw⟩
end Go.Proofs.Ytjfgklhifhaaoaa
