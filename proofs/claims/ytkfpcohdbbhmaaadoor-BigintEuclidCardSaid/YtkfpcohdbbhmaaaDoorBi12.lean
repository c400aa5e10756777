/- Magnitudes: the walk of divisor. Conditions: none. -/
import Derived.Test.YtkfpcohdbbhmaaaDoorBi11
namespace Go.Proofs.YtkfpcohdbbhmaaaDoor
set_option linter.unusedVariables false
set_option linter.unusedSimpArgs false
open Go.RowKit Big

theorem gcd_step (a b : Nat) : Nat.gcd b (a % b) = Nat.gcd a b := by
  rw [Nat.gcd_comm a b, Nat.gcd_rec b a, Nat.gcd_comm]

theorem val_two {xs : List Nat} (ho : Ok xs) (h : xs.length ≤ 2) : val xs ≤ 18446744073709551615 := by
  match xs, h, ho with
  | [], _, _ => simp [val]
  | [x], _, ho => have := ho.head; simp [val]; omega
  | [x, y], _, ho => have := ho.head; have := ho.tail.head; simp only [val]; omega

theorem limbs_mod_len {ys : List Nat} (ho : Ok ys) {r : Nat} (h : r < val ys) : (limbs r).length ≤ ys.length := by
  rw [limbs_len_iff]; have := val_lt_pow ho; omega

set_option maxHeartbeats 2000000 in
theorem divisor_any (A B : Option Addr) (c d : Nat) (xs ys : List Nat) (w : World) (ha : Mg w A c xs) (hb : Mg w B d ys) (na : Nrm xs) (nb : Nrm ys) (hs : xs.length ≤ 1073741823) (ht : ys.length ≤ 1073741823) :
    Calls Tryd.prog 59 #[.slice A xs.length c, .slice B ys.length d] w (RetN w (Nat.gcd (val xs) (val ys))) := by
  go_enter Tryd.func59, Tryd.ntmps59
  go_wp2
  go_loopg [0, 1] (val ys) (fun g s0 s1 wr => ∃ (A1 B1 : Option Addr) (c1 d1 : Nat) (x1 y1 : List Nat), s0 = .slice A1 x1.length c1 ∧ s1 = .slice B1 y1.length d1 ∧ x1.length ≤ 1073741823 ∧ y1.length ≤ 1073741823 ∧ Below w.heap.size w wr ∧ Mg wr A1 c1 x1 ∧ Mg wr B1 d1 y1 ∧ Nrm x1 ∧ Nrm y1 ∧ Hid (g = val y1) ∧ Hid (Nat.gcd (val x1) (val y1) = Nat.gcd (val xs) (val ys)))
  case atStart => exact ⟨A, B, c, d, xs, ys, rfl, rfl, hs, ht, Below.refl _ _, ha, hb, na, nb, rfl, rfl⟩
  case round =>
    clear ha hb na nb hs ht
    obtain ⟨A1, B1, c1, d1, x1, y1, rfl, rfl, hx, hy, hbl, ha, hb, na, nb, hg, hgcd⟩ := hrel
    by_cases h0 : 0 < y1.length
    · have hne : y1 ≠ [] := by intro h; subst h; simp at h0
      have hpos := val_pos nb hne
      by_cases h2 : x1.length ≤ 2 ∧ y1.length ≤ 2
      · obtain ⟨h2a, h2b⟩ := h2
        obtain ⟨wo, rfl⟩ : ∃ wo : World, wo = wr := ⟨_, rfl⟩
        have hx64 : val x1 ≤ 18446744073709551615 := val_two ha.ok h2a
        have hy64 : val y1 ≤ 18446744073709551615 := val_two hb.ok h2b
        have wx := word_any A1 c1 x1 wo ha h2a
        have wy := fun (w5 : World) (h5 : Below wo.heap.size wo w5) => word_any B1 d1 y1 w5 (hb.below h5) h2b
        generalize val x1 = X at *
        generalize val y1 = Y at *
        have WX := hid wx
        have WY := hid wy
        clear wx wy
        go_wp2_with fail
        refine (WX.out).mono ?_
        rintro e w1 ⟨rfl, hb1⟩
        go_wp2_with fail
        refine (WY.out _ hb1).mono ?_
        rintro e w2 ⟨rfl, hb2⟩
        have hbl2 : Below w.heap.size w w2 := hbl.trans ((hb1.mono hbl.size).trans (hb2.mono (Nat.le_trans hbl.size hb1.size)))
        clear WX WY hb1 hb2 ha hb hbl
        go_wp2_with fail
        go_loopw [5, 6] (fun s5 s6 wr => ∃ X Y : Nat, s5 = .int .u64 X ∧ s6 = .int .u64 Y ∧ X ≤ 18446744073709551615 ∧ Y ≤ 18446744073709551615 ∧ Below w.heap.size w wr ∧ Hid (Nat.gcd X Y = Nat.gcd (val xs) (val ys))) (fun _ s6 _ => (intOf s6).toNat)
        case atStart => exact ⟨X, Y, rfl, rfl, hx64, hy64, hbl2, hgcd⟩
        case round =>
          clear hg hgcd hbl2 hpos hx64 hy64
          obtain ⟨X, Y, rfl, rfl, hX, hY, hbl, hgcd⟩ := hrel
          by_cases hy0 : 0 < Y
          · have hm : (X : Int) % (Y : Int) = ((X % Y : Nat) : Int) := (Int.natCast_emod _ _).symm
            have hlt := Nat.mod_lt X hy0
            have hstep : Hid (Nat.gcd Y (X % Y) = Nat.gcd (val xs) (val ys)) := (gcd_step X Y).trans hgcd.out
            generalize X % Y = Z at *
            go_wp2
            go_quiet (fail)
            go_wp2_with fail
            go_roundw
            case rel => exact ⟨Y, Z, rfl, val_i hm, hY, by omega, (by repeat (first | exact hbl | refine Below.drew ?_ | refine below_drewN ?_ _ | refine Below.setCell ?_ (by exact Nat.le_refl _) _ | refine Below.alloc ?_ (by simp; omega) _)), hstep⟩
            case measure => simp [intOf, hm]; omega
          · obtain rfl : Y = 0 := by omega
            have hG : Hid (X = Nat.gcd (val xs) (val ys)) := by have := hgcd.out; rw [Nat.gcd_zero_right] at this; exact this
            go_wp2_with (go_at_call 77; refine (fromWord_any X _ hX).mono ?_; rintro e w3 ⟨R3, cc3, rfl, hr3, hr4⟩)
            go_ret
            rw [← hG.out]
            exact ⟨R3, cc3, rfl, hr3, hbl.trans (hr4.mono hbl.size)⟩
      · have HP := hid hpos
        have hdv := fun (w5 : World) (h5 : Below wr.heap.size wr w5) => divide_any A1 B1 c1 d1 x1 y1 w5 (ha.below h5) (hb.below h5) na nb hne hx
        have HD := hid hdv
        clear hdv hpos
        by_cases h2a : x1.length ≤ 2
        · have h2b : ¬ y1.length ≤ 2 := fun h => h2 ⟨h2a, h⟩
          clear h2
          go_wp2_with (go_at_call 51; refine (HD.out _ (Below.refl _ _)).mono ?_; rintro e w4 ⟨Aq, cq, Ar, cr, rfl, hq, hr, hb4⟩)
          go_roundg (val x1 % val y1)
          case measure => rw [hg.out]; exact Nat.mod_lt _ HP.out
          case rel => exact ⟨B1, Ar, d1, cr, y1, limbs (val x1 % val y1), rfl, rfl, hy, Nat.le_trans (limbs_mod_len hb.ok (Nat.mod_lt _ HP.out)) hy, hbl.trans (hb4.mono hbl.size), hb.below hb4, hr, nb, nrm_limbs _, (val_limbs _).symm, by unfold Hid; rw [val_limbs, gcd_step]; exact hgcd.out⟩
        · clear h2
          go_wp2_with (go_at_call 51; refine (HD.out _ (Below.refl _ _)).mono ?_; rintro e w4 ⟨Aq, cq, Ar, cr, rfl, hq, hr, hb4⟩)
          go_roundg (val x1 % val y1)
          case measure => rw [hg.out]; exact Nat.mod_lt _ HP.out
          case rel => exact ⟨B1, Ar, d1, cr, y1, limbs (val x1 % val y1), rfl, rfl, hy, Nat.le_trans (limbs_mod_len hb.ok (Nat.mod_lt _ HP.out)) hy, hbl.trans (hb4.mono hbl.size), hb.below hb4, hr, nb, nrm_limbs _, (val_limbs _).symm, by unfold Hid; rw [val_limbs, gcd_step]; exact hgcd.out⟩
    · have he : y1 = [] := List.eq_nil_of_length_eq_zero (by omega)
      subst he
      have hG : Hid (val x1 = Nat.gcd (val xs) (val ys)) := by have := hgcd.out; rw [show val [] = 0 from rfl, Nat.gcd_zero_right] at this; exact this
      go_wp2_with (at_builtin; refine wpList_app rfl (.const (.slice none 0 0)) (.tmp 40) 22 rfl 57 (.int .u32 0) 4 Tryd.underlying22 info32 rfl w.heap.size lim (fun _ => rfl) _ [] rfl (World.ownsRow_nil _ _ _ _) A1 c1 x1 rfl ha.rd (by simp; omega) (by simp; omega) hbl.size ?_; intro v' w2 hown hgr hwh)
      obtain ⟨R, cc, rfl, hm⟩ := own_mg hown ha.ok
      go_wp2
      go_ret
      have hl : limbs (val x1) = x1 := limbs_val ha.ok na
      rw [← hG.out]
      exact ⟨R, cc, by rw [hl]; rfl, by rw [hl]; exact hm, hbl.trans (below_app (World.ownsRow_nil wr w.heap.size 57 1) hgr hbl.size)⟩

end Go.Proofs.YtkfpcohdbbhmaaaDoor
