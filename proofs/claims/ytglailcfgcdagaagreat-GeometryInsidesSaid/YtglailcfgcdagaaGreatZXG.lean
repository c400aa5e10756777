/- The fractions' reference: the walk of common. Conditions: none. -/
import Derived.Test.YtglailcfgcdagaaGreatZXF
import Derived.Test.YtglailcfgcdagaaGreatZYE
import Derived.Test.YtglailcfgcdagaaGreatZYI
import Derived.Test.YtglailcfgcdagaaGreatZYA
import Derived.Test.YtglailcfgcdagaaGreatZYM2
set_option linter.unusedVariables false
set_option linter.unusedSimpArgs false
namespace Go.Proofs.YtglailcfgcdagaaGreat
open Go.RowKit Big
theorem two_le {n k t L : Nat} (h : n = k * 2 ^ t) (h0 : n ≠ 0) (hL : (limbs n).length ≤ L) : t < 32 * L + 1 := by
 have h1 := (limbs_len_iff n L).1 hL
 have hk : 1 ≤ k := by
  rcases Nat.eq_zero_or_pos k with h2 | h2
  ·subst h2; simp at h; omega
  ·exact h2
 have h2 : 2 ^ t ≤ n := by rw [h]; exact Nat.le_mul_of_pos_left _ hk
 have h3 : (2 : Nat) ^ t < 2 ^ (32 * L) := by
  have : (4294967296 : Nat) ^ L = 2 ^ (32 * L) := by rw [Nat.pow_mul]
  omega
 have := (Nat.pow_lt_pow_iff_right (by decide : 1 < 2)).1 h3
 omega
theorem phi_len (n m : Nat) : phi n m ≤ 64 * ((limbs n).length + (limbs m).length) + 1 := by
 have h1 := (limbs_len_iff n _).1 (Nat.le_refl _)
 have h2 := (limbs_len_iff m _).1 (Nat.le_refl _)
 have e : ∀ L : Nat, (4294967296 : Nat) ^ L = 2 ^ (32 * L) := fun L => by rw [Nat.pow_mul]
 rw [e] at h1 h2
 have := phi_le h1 h2
 omega
/-- the state of the second loop -/
structure Cm (n m G M n1 m1 i : Nat) : Prop where
 n0 : n1 ≠ 0
 odd : ¬ (n1 % 2 = 0 ∧ m1 % 2 = 0)
 g : Nat.gcd n1 m1 = G
 ph : i + phi n1 m1 ≤ M
 ln : n1 ≤ n
 lm : m1 ≤ m
theorem Cm.a {n m G M n1 m1 i : Nat} (h : Cm n m G M n1 m1 i) (hm : m1 ≠ 0) (he : n1 % 2 = 0) : Cm n m G M (n1 / 2) m1 (i + 1) := by
 have hp := phi_a h.n0 hm he
 have := h.ph
 have := h.odd
 refine ⟨by have := h.n0; omega, by omega, ?_, by omega, by have := h.ln; omega, h.lm⟩
 have e : n1 = 2 * (n1 / 2) := by omega
 rw [← h.g, e, show 2 * (n1 / 2) / 2 = n1 / 2 by omega]
 exact (gcd_left (by omega)).symm
theorem Cm.b {n m G M n1 m1 i : Nat} (h : Cm n m G M n1 m1 i) (hm : m1 ≠ 0) (ho : n1 % 2 = 1) (he : m1 % 2 = 0) : Cm n m G M n1 (m1 / 2) (i + 1) := by
 have hp := phi_b (a := n1) hm he
 have := h.ph
 refine ⟨h.n0, by omega, ?_, by omega, h.ln, by have := h.lm; omega⟩
 have e : m1 = 2 * (m1 / 2) := by omega
 rw [← h.g, e, show 2 * (m1 / 2) / 2 = m1 / 2 by omega]
 exact (gcd_right ho).symm
theorem Cm.s {n m G M n1 m1 i : Nat} (h : Cm n m G M n1 m1 i) (hm : m1 ≠ 0) (ho : n1 % 2 = 1) (ho2 : m1 % 2 = 1) (hgt : m1 < n1) : Cm n m G M (n1 - m1) m1 (i + 1) := by
 have hp := phi_s1 hm ho ho2
 have := h.ph
 refine ⟨by omega, by omega, ?_, by omega, by have := h.ln; omega, h.lm⟩
 rw [gcd_sub1 (by omega)]; exact h.g
theorem Cm.t {n m G M n1 m1 i : Nat} (h : Cm n m G M n1 m1 i) (hm : m1 ≠ 0) (ho : n1 % 2 = 1) (ho2 : m1 % 2 = 1) (hle : n1 ≤ m1) : Cm n m G M n1 (m1 - n1) (i + 1) := by
 have hp := phi_s2 hm ho ho2
 have := h.ph
 refine ⟨h.n0, by omega, ?_, by omega, h.ln, by have := h.lm; omega⟩
 rw [gcd_sub2 hle]; exact h.g
theorem Cm.lt {n m G M n1 m1 i : Nat} (h : Cm n m G M n1 m1 i) (hm : m1 ≠ 0) : i < M := by
 have h1 := h.ph
 rw [phi_pos hm] at h1
 have h2 : 1 ≤ bl n1 := by rw [bl_pos h.n0]; omega
 omega
theorem Cm.done {n m G M n1 i : Nat} (h : Cm n m G M n1 0 i) : n1 = G := by have := h.g; rwa [Nat.gcd_zero_right] at this
set_option maxRecDepth 100000 in
set_option maxHeartbeats 4000000 in
theorem Qcommon_pos (A B : Option Addr) (c d n m : Nat) (w : World) (ha : Mg w A c (limbs n)) (hb : Mg w B d (limbs m)) (hs : (limbs n).length ≤ 50000) (ht : (limbs m).length ≤ 50000) (hn : n ≠ 0) (hm : m ≠ 0) :
    Calls Tryz.prog 61 #[.slice A (limbs n).length c, .slice B (limbs m).length d] w (RetN w (Nat.gcd n m)) := by
  have l1 : (((limbs n).length : Int) == 0) = false := by rw [beq_eq_false_iff_ne]; have : limbs n ≠ [] := fun h => hn (limbs_eq_nil.1 h); have := List.length_pos_iff.2 this; omega
  have l2 : (((limbs m).length : Int) == 0) = false := by rw [beq_eq_false_iff_ne]; have : limbs m ≠ [] := fun h => hm (limbs_eq_nil.1 h); have := List.length_pos_iff.2 this; omega
  go_enter Tryz.func61, Tryz.ntmps61
  go_wp2
  clear l1 l2
  go_loopw [0, 1, 5] (fun s0 s1 s5 wr => ∃ (n' m' t : Nat) (A' B' : Option Addr) (c' d' : Nat), s0 = .slice A' (limbs n').length c' ∧ s1 = .slice B' (limbs m').length d' ∧ s5 = .int .i64 t ∧ Mg wr A' c' (limbs n') ∧ Mg wr B' d' (limbs m') ∧ Below w.heap.size w wr ∧ Hid (n = n' * 2 ^ t ∧ m = m' * 2 ^ t)) (fun _ _ s5 _ => 2000000 - (intOf s5).toNat)
  case atStart => exact ⟨n, m, 0, A, B, c, d, rfl, rfl, rfl, ha, hb, Below.refl _ _, by unfold Hid; simp⟩
  case round =>
    obtain ⟨n', m', t, A', B', c', d', rfl, rfl, rfl, hA, hB, hbl, hh⟩ := hrel
    have htl := two_le hh.out.1 hn hs
    have hn0 : n' ≠ 0 := fun h => hn (by rw [hh.out.1, h, Nat.zero_mul])
    have hm0 : m' ≠ 0 := fun h => hm (by rw [hh.out.2, h, Nat.zero_mul])
    have hln : n' ≤ n := by conv => rhs; rw [hh.out.1]
                            exact Nat.le_mul_of_pos_right _ (Nat.pow_pos (by decide))
    have hlm : m' ≤ m := by conv => rhs; rw [hh.out.2]
                            exact Nat.le_mul_of_pos_right _ (Nat.pow_pos (by decide))
    have hl1 := Nat.le_trans (limbs_mono hln) hs
    have hl2 := Nat.le_trans (limbs_mono hlm) ht
    have hwz := hbl.size
    by_cases hpar : n' % 2 = 0 ∧ m' % 2 = 0
    · obtain ⟨p1, p2⟩ := hpar
      have HE1 := hid (Qeven_n hA true (by simp [p1]))
      have HE2 := hid (Qeven_n hB true (by simp [p2]))
      have HH : Hid (n = n' / 2 * 2 ^ (t + 1) ∧ m = m' / 2 * 2 ^ (t + 1)) := by
        have e1 : n' = 2 * (n' / 2) := by omega
        have e2 : m' = 2 * (m' / 2) := by omega
        refine ⟨?_, ?_⟩
        · conv => lhs; rw [hh.out.1, e1]
          rw [Nat.pow_succ]; ac_rfl
        · conv => lhs; rw [hh.out.2, e2]
          rw [Nat.pow_succ]; ac_rfl
      clear hh p1 p2 ha hb
      go_wp2_with fail
      refine HE1.out.mono ?_
      rintro e w1 ⟨rfl, rfl⟩
      go_wp2_with fail
      refine HE2.out.mono ?_
      rintro e w1 ⟨rfl, rfl⟩
      go_wp2_with fail
      refine (Qhalve_n hA (by omega)).mono ?_
      rintro e w1 ⟨R1, c1, rfl, hr1, h1, _⟩
      have hb1 := hbl.trans (h1.mono hwz)
      go_wp2_with fail
      refine (Qhalve_n (hB.below h1) (by omega)).mono ?_
      rintro e w2 ⟨R2, c2, rfl, hr2, h2, _⟩
      have hb2 := hb1.trans (h2.mono hb1.size)
      go_wp2_with fail
      go_roundw
      case rel => exact ⟨n' / 2, m' / 2, t + 1, R1, R2, c1, c2, rfl, rfl, by go_num, hr1.below h2, hr2, hb2, HH⟩
      case measure => simp [intOf]; omega
    · have hph := phi_len n' m'
      have hM0 : 64 * ((limbs n').length + (limbs m').length) + 4 ≤ 6400004 := by omega
      obtain ⟨M, hM⟩ : ∃ M : Nat, 64 * (((limbs n').length : Int) + ((limbs m').length : Int)) + 4 = (M : Int) := ⟨64 * ((limbs n').length + (limbs m').length) + 4, by omega⟩
      have hM6 : M ≤ 6400004 := by omega
      have HC : Hid (Cm n' m' (Nat.gcd n' m') M n' m' 0) := ⟨hn0, hpar, rfl, by omega, Nat.le_refl _, Nat.le_refl _⟩
      have HG : Hid (Nat.gcd n m = Nat.gcd n' m' * 2 ^ t) := by
        have := Nat.gcd_mul_right n' (2 ^ t) m'
        rw [← hh.out.1, ← hh.out.2] at this
        exact this
      have HGl : Hid (Nat.gcd n m ≤ n) := Nat.gcd_le_left _ (Nat.pos_of_ne_zero hn)
      have hp : n' % 2 = 1 ∨ (n' % 2 = 0 ∧ m' % 2 = 1) := by omega
      clear hpar hph hM0 hh ha hb
      rcases hp with p1 | ⟨p1, p2⟩
      case' inl =>
        have HE1 := hid (Qeven_n hA false (by simp [p1]))
        clear p1
        go_wp2_with fail
        refine HE1.out.mono ?_
        rintro e w1 ⟨rfl, rfl⟩
        clear HE1
      case' inr =>
        have HE1 := hid (Qeven_n hA true (by simp [p1]))
        have HE2 := hid (Qeven_n hB false (by simp [p2]))
        clear p1 p2
        go_wp2_with fail
        refine HE1.out.mono ?_
        rintro e w1 ⟨rfl, rfl⟩
        go_wp2_with fail
        refine HE2.out.mono ?_
        rintro e w1 ⟨rfl, rfl⟩
        clear HE1 HE2
      all_goals
        go_wp2
        clear hM
        obtain ⟨wo, rfl⟩ : ∃ wo : World, wo = wr := ⟨_, rfl⟩
        go_loopw [0, 1, 7] (fun s0 s1 s7 wr => ∃ (n1 m1 i : Nat) (A1 B1 : Option Addr) (c1 d1 : Nat), s0 = .slice A1 (limbs n1).length c1 ∧ s1 = .slice B1 (limbs m1).length d1 ∧ s7 = .int .i64 i ∧ Mg wr A1 c1 (limbs n1) ∧ Mg wr B1 d1 (limbs m1) ∧ Below w.heap.size w wr ∧ i ≤ M ∧ Hid (Cm n' m' (Nat.gcd n' m') M n1 m1 i)) (fun _ _ s7 _ => M - (intOf s7).toNat)
        case atStart => exact ⟨n', m', 0, A', B', c', d', rfl, rfl, rfl, hA, hB, hbl, by omega, HC⟩
        case round =>
          clear hA hB hbl HC hwz
          obtain ⟨n1, m1, i, A1, B1, c1, d1, rfl, rfl, rfl, hA, hB, hbl, hiM, hC⟩ := hrel
          have hwz := hbl.size
          have hk1 := Nat.le_trans (limbs_mono hC.out.ln) hl1
          have hk2 := Nat.le_trans (limbs_mono hC.out.lm) hl2
          by_cases hz : m1 = 0
          · subst hz
            have HD := hid hC.out.done
            rw [limbs_zero] at hB hk2
            simp only [limbs_zero, List.length_nil]
            clear hB hC
            go_wp2
            all_goals
              obtain ⟨wp, rfl⟩ : ∃ wp : World, wp = wr := ⟨_, rfl⟩
              go_loopw [0, 8] (fun s0 s8 wr => ∃ (j : Nat) (A1 : Option Addr) (c1 : Nat), j ≤ t ∧ s8 = .int .i64 j ∧ s0 = .slice A1 (limbs (n1 * 2 ^ j)).length c1 ∧ Mg wr A1 c1 (limbs (n1 * 2 ^ j)) ∧ Below w.heap.size w wr) (fun _ s8 _ => t - (intOf s8).toNat)
              case atStart => exact ⟨0, A1, c1, by omega, rfl, by rw [Nat.pow_zero, Nat.mul_one], by rw [Nat.pow_zero, Nat.mul_one]; exact hA, hbl⟩
              case round =>
                clear hA hbl hwz
                obtain ⟨j, A2, c2, hj, rfl, rfl, hA, hbl⟩ := hrel
                by_cases hjt : j < t
                · have hle : n1 * 2 ^ j ≤ n := Nat.le_trans (by rw [HG.out, ← HD.out]; exact Nat.mul_le_mul_left _ (Nat.pow_le_pow_right (by decide) hj)) HGl.out
                  have hlen := Nat.le_trans (limbs_mono hle) hs
                  have e : 2 * (n1 * 2 ^ j) + 0 = n1 * 2 ^ (j + 1) := by rw [Nat.pow_succ]; simp only [Nat.add_zero]; ac_rfl
                  have HS := Qshift_n hA (by omega) 0 (by omega)
                  rw [e] at HS
                  have HS := hid HS
                  clear e hle
                  generalize hq : n1 * 2 ^ (j + 1) = q at *
                  have HQ := hid hq
                  clear hq
                  generalize n1 * 2 ^ j = p at *
                  go_wp2_with fail
                  refine HS.out.mono ?_
                  rintro e w1 ⟨R1, c1, rfl, hr1, h1, _⟩
                  go_wp2_with fail
                  go_roundw
                  case rel => exact ⟨j + 1, R1, c1, by omega, by go_num, by rw [HQ.out], by rw [HQ.out]; exact hr1, hbl.trans (h1.mono hbl.size)⟩
                  case measure => simp [intOf]; omega
                · obtain rfl : j = t := by omega
                  have e : n1 * 2 ^ j = Nat.gcd n m := by rw [HG.out, ← HD.out]
                  rw [e] at hA
                  rw [e]
                  clear e
                  go_wp2
                  go_ret
                  exact ⟨A2, c2, rfl, hA, hbl⟩
          · have hiM2 := hC.out.lt hz
            have hlm1 : 0 < (limbs m1).length := List.length_pos_iff.2 (fun h => hz (limbs_eq_nil.1 h))
            by_cases q1 : n1 % 2 = 0
            · have HE1 := hid (Qeven_n hA true (by simp [q1]))
              have HH := hid (hC.out.a hz q1)
              clear q1 hC
              go_wp2_with fail
              refine HE1.out.mono ?_
              rintro e w1 ⟨rfl, rfl⟩
              go_wp2_with fail
              refine (Qhalve_n hA (by omega)).mono ?_
              rintro e w1 ⟨R1, e1, rfl, hr1, h1, _⟩
              have hb1 := hbl.trans (h1.mono hwz)
              go_wp2_with fail
              go_roundw
              case rel => exact ⟨n1 / 2, m1, i + 1, R1, B1, e1, d1, rfl, rfl, by go_num, hr1, hB.below h1, hb1, by omega, HH⟩
              case measure => simp [intOf]; omega
            · have q1 : n1 % 2 = 1 := by omega
              have HE1 := hid (Qeven_n hA false (by simp [q1]))
              by_cases q2 : m1 % 2 = 0
              · have HE2 := hid (Qeven_n hB true (by simp [q2]))
                have HH := hid (hC.out.b hz q1 q2)
                clear q1 q2 hC
                go_wp2_with fail
                refine HE1.out.mono ?_
                rintro e w1 ⟨rfl, rfl⟩
                go_wp2_with fail
                refine HE2.out.mono ?_
                rintro e w1 ⟨rfl, rfl⟩
                go_wp2_with fail
                refine (Qhalve_n hB (by omega)).mono ?_
                rintro e w1 ⟨R1, e1, rfl, hr1, h1, _⟩
                have hb1 := hbl.trans (h1.mono hwz)
                go_wp2_with fail
                go_roundw
                case rel => exact ⟨n1, m1 / 2, i + 1, A1, R1, c1, e1, rfl, rfl, by go_num, hA.below h1, hr1, hb1, by omega, HH⟩
                case measure => simp [intOf]; omega
              · have q2 : m1 % 2 = 1 := by omega
                have HE2 := hid (Qeven_n hB false (by simp [q2]))
                have HO := hid (Qcmp_n hA hB (by omega))
                by_cases hgt : m1 < n1
                · have HH := hid (hC.out.s hz q1 q2 hgt)
                  rw [ord_gt hgt] at HO
                  clear q1 q2 hC
                  go_wp2_with fail
                  refine HE1.out.mono ?_
                  rintro e w1 ⟨rfl, rfl⟩
                  go_wp2_with fail
                  refine HE2.out.mono ?_
                  rintro e w1 ⟨rfl, rfl⟩
                  go_wp2_with fail
                  refine HO.out.mono ?_
                  rintro e w2 ⟨rfl, h2⟩
                  have hb2 := hbl.trans (h2.mono hwz)
                  go_wp2_with fail
                  refine (Qminus_n (hA.below h2) (hB.below h2) (by omega) (by omega) (by omega)).mono ?_
                  rintro e w1 ⟨R1, e1, rfl, hr1, h1, _⟩
                  have hb1 := hb2.trans (h1.mono hb2.size)
                  go_wp2_with fail
                  go_roundw
                  case rel => exact ⟨n1 - m1, m1, i + 1, R1, B1, e1, d1, rfl, rfl, by go_num, hr1, (hB.below h2).below h1, hb1, by omega, HH⟩
                  case measure => simp [intOf]; omega
                · have HH := hid (hC.out.t hz q1 q2 (by omega))
                  have ho : ord n1 m1 ≤ 0 := by unfold ord; split <;> (try split) <;> omega
                  generalize ord n1 m1 = ov at *
                  clear q1 q2 hC
                  go_wp2_with fail
                  refine HE1.out.mono ?_
                  rintro e w1 ⟨rfl, rfl⟩
                  go_wp2_with fail
                  refine HE2.out.mono ?_
                  rintro e w1 ⟨rfl, rfl⟩
                  go_wp2_with fail
                  refine HO.out.mono ?_
                  rintro e w2 ⟨rfl, h2⟩
                  have hb2 := hbl.trans (h2.mono hwz)
                  go_wp2_with fail
                  refine (Qminus_n (hB.below h2) (hA.below h2) (by omega) (by omega) (by omega)).mono ?_
                  rintro e w1 ⟨R1, e1, rfl, hr1, h1, _⟩
                  have hb1 := hb2.trans (h1.mono hb2.size)
                  go_wp2_with fail
                  go_roundw
                  case rel => exact ⟨n1, m1 - n1, i + 1, A1, R1, c1, e1, rfl, rfl, by go_num, (hA.below h2).below h1, hr1, hb1, by omega, HH⟩
                  case measure => simp [intOf]; omega
theorem Qcommon_n {A B : Option Addr} {c d n m : Nat} {w : World} (ha : Mg w A c (limbs n)) (hb : Mg w B d (limbs m)) (hs : (limbs n).length ≤ 50000) (ht : (limbs m).length ≤ 50000) :
  Calls Tryz.prog 61 #[.slice A (limbs n).length c, .slice B (limbs m).length d] w (RetN w (Nat.gcd n m)) := by
 by_cases hn : n = 0
 ·subst hn
  rw [limbs_zero, Nat.gcd_zero_left]
  simp only [List.length_nil]
  have hcb := hb.cap
  have hmb := hb.max
  go_enter Tryz.func61, Tryz.ntmps61
  go_wp2
  go_ret
  exact ⟨B, d, rfl, hb, Below.refl _ _⟩
 ·by_cases hm : m = 0
  ·subst hm
   have l1 : (((limbs n).length : Int) == 0) = false := by rw [beq_eq_false_iff_ne]; have : limbs n ≠ [] := fun h => hn (limbs_eq_nil.1 h); have := List.length_pos_iff.2 this; omega
   rw [limbs_zero, Nat.gcd_zero_right]
   simp only [List.length_nil]
   have hcb := ha.cap
   have hmb := ha.max
   go_enter Tryz.func61, Tryz.ntmps61
   go_wp2
   go_ret
   exact ⟨A, c, rfl, ha, Below.refl _ _⟩
  ·exact Qcommon_pos A B c d n m w ha hb hs ht hn hm
end Go.Proofs.YtglailcfgcdagaaGreat
/- The fractions' reference: words for fractions; walks of made, one, sum. Conditions: none. -/
namespace Go.Proofs.YtglailcfgcdagaaGreat
open Go.RowKit Big
section
variable {A B : Option Addr} {c d n m k k2 : Nat} {L L2 : List Nat} {w : World} (hx : Lz n k L) (hy : Lz m k2 L2) (ha : Mg w A c L) (hb : Mg w B d L2) (hs : k ≤ 50000) (ht : k2 ≤ 50000)
include hx hy ha hb hs ht
theorem Qcommon_g {k3 : Nat} {L3 : List Nat} (hz : Lz (Nat.gcd n m) k3 L3) : Calls Tryz.prog 61 #[.slice A k c, .slice B k2 d] w (GN w k3 L3) := by
 obtain ⟨rfl, rfl⟩ := hx; obtain ⟨rfl, rfl⟩ := hy; obtain ⟨rfl, rfl⟩ := hz
 exact Qcommon_n ha hb (by omega) (by omega)
theorem Qdivide_g {k3 k4 : Nat} {L3 L4 : List Nat} (hz : Lz (n / m) k3 L3) (hr : Lz (n % m) k4 L4) (h0 : m ≠ 0) : Calls Tryz.prog 62 #[.slice A k c, .slice B k2 d] w (GNN w k3 L3 k4 L4) := by
 obtain ⟨rfl, rfl⟩ := hx; obtain ⟨rfl, rfl⟩ := hy; obtain ⟨rfl, rfl⟩ := hz; obtain ⟨rfl, rfl⟩ := hr
 exact Qdivide_n A B c d n m w ha hb (by omega) (by omega) h0
end
set_option maxRecDepth 100000 in
set_option maxHeartbeats 2000000 in
theorem Qmade_g {neg : Bool} {n dd : Nat} {A B : Option Addr} {c d k k2 : Nat} {L L2 : List Nat} {w : World} {b : Bool} {kx ly : Nat} {xs ys : List Nat} {err : Int} (hx : Lz n k L) (hy : Lz dd k2 L2) (ha : Mg w A c L) (hb : Mg w B d L2) (hs : k ≤ 50000) (ht : k2 ≤ 50000) (h0 : dd ≠ 0)
  {p : Int × Nat} (hp : Fz p b kx xs ly ys) (hr : lowE (sg neg n) dd = (p, err)) : Calls Tryz.prog 48 #[.bool neg, .slice A k c, .slice B k2 d] w (GF w b kx xs ly ys err) := by
 obtain ⟨kg, LG, IG⟩ := lz (Nat.gcd n dd)
 obtain ⟨k1, L1, I1⟩ := lz (n / Nat.gcd n dd)
 obtain ⟨k2', L2', I2⟩ := lz (n % Nat.gcd n dd)
 obtain ⟨k3, L3, I3⟩ := lz (dd / Nat.gcd n dd)
 obtain ⟨k4, L4, I4⟩ := lz (dd % Nat.gcd n dd)
 have hg0 : Nat.gcd n dd ≠ 0 := fun h => h0 (Nat.eq_zero_of_gcd_eq_zero_right h)
 have hkg : kg ≤ 50000 := Nat.le_trans (IG.out.mono hy (Nat.gcd_le_right _ (Nat.pos_of_ne_zero h0))) ht
 have HC := hid fun (w1 : World) (h : Below w.heap.size w w1) => Qcommon_g (w := w1) hx hy (ha.below h) (hb.below h) hs ht IG.out
 have HD1 := hid fun (w1 : World) (h : Below w.heap.size w w1) (R : Option Addr) (cc : Nat) (m : Mg w1 R cc LG) => Qdivide_g (w := w1) hx IG.out (ha.below h) m hs hkg I1.out I2.out hg0
 have HD2 := hid fun (w1 : World) (h : Below w.heap.size w w1) (R : Option Addr) (cc : Nat) (m : Mg w1 R cc LG) => Qdivide_g (w := w1) hy IG.out (hb.below h) m ht hkg I3.out I4.out hg0
 have hl := low_sg neg n dd
 have hff : fitsF (low (sg neg n) dd) ↔ k1 ≤ 512 ∧ k3 ≤ 512 := by
  unfold fitsF
  rw [hl.1, hl.2, fits_sg, fits_nat, I1.out.len, I3.out.len]
 have h1b : k1 ≤ 50000 := Nat.le_trans (I1.out.mono hx (Nat.div_le_self _ _)) hs
 have h3b : k3 ≤ 50000 := Nat.le_trans (I3.out.mono hy (Nat.div_le_self _ _)) ht
 have HB : Below w.heap.size w w := Below.refl _ _
 have hca := ha.cap
 have hma := ha.max
 have hcb := hb.cap
 have hmb := hb.max
 by_cases hf : k1 ≤ 512 ∧ k3 ≤ 512
 ·rw [lowE_yes (hff.2 hf)] at hr
  rw [Prod.mk.injEq] at hr
  obtain ⟨rfl, rfl⟩ := hr
  obtain ⟨hb1, rfl, rfl, rfl, rfl⟩ := hp
  rw [hl.1] at hb1
  have e1 : limbs (low (sg neg n) dd).1.natAbs = L1 := by rw [hl.1, natAbs_sg]; exact I1.out.hL.symm
  have e2 : limbs (low (sg neg n) dd).2 = L3 := by rw [hl.2]; exact I3.out.hL.symm
  rw [e1, e2, ← I1.out.hk, ← I3.out.hk]
  have hb2 : b = (neg && decide (0 < k1)) := by
   rw [hb1]
   by_cases h : n / Nat.gcd n dd = 0
   ·have := I1.out.zero.2 h
    rw [h, sg_zero, this]; simp
   ·have : k1 ≠ 0 := fun h' => h (I1.out.zero.1 h')
    rw [sg_neg _ _ h]; simp [show 0 < k1 by omega]
  obtain ⟨f1, f2⟩ := hf
  clear hb1 hl hff e1 e2 hg0 h0 hx hy ha hb hs ht hkg IG I1 I2 I3 I4
  have HH := hid hb2
  clear hb2
  go_enter Tryz.func48, Tryz.ntmps48
  go_wp2_with fail
  refine (HC.out _ BG).mono ?_
  rintro e w1 ⟨R1, e1, rfl, m1, h1⟩
  obtain ⟨q0, q1, q2, q3, z0⟩ := newF h1
  have f_z0 := z0.fr
  have hv_ : Below w.heap.size w w1 := Below.trans (b := _) (by repeat (first | assumption | exact Bv _ _ | refine Ba ?_ (by simp; try omega) _ | refine Bd ?_ | refine Bn ?_ _)) (h1.mono (by simp; try omega))
  replace HB := HB.trans (hv_.mono HB.size)
  clear hv_
  go_wp2_with fail
  refine (HD1.out _ HB _ _ m1).mono ?_
  rintro e w2 ⟨R2, e2, R3, e3, rfl, m2, m3, h2⟩
  have hv_ : Below w1.heap.size w1 w2 := Below.trans (b := _) (by repeat (first | assumption | exact Bv _ _ | refine Ba ?_ (by simp; try omega) _ | refine Bd ?_ | refine Bn ?_ _)) (h2.mono (by simp; try omega))
  replace m1 := m1.below hv_
  replace q0 := keep_cell hv_ q0
  replace q1 := keep_cell hv_ q1
  replace q2 := keep_cell hv_ q2
  replace q3 := keep_cell hv_ q3
  have lt_q0 := cell_lt q0
  have lt_q1 := cell_lt q1
  have lt_q2 := cell_lt q2
  have lt_q3 := cell_lt q3
  replace z0 := z0.below hv_
  replace f_z0 := z0.fr
  replace HB := HB.trans (hv_.mono HB.size)
  clear hv_
  go_wp2_with fail
  refine (HD2.out _ HB _ _ m1).mono ?_
  rintro e w3 ⟨R4, e4, R5, e5, rfl, m5, m6, h3⟩
  have hv_ : Below w2.heap.size w2 w3 := Below.trans (b := _) (by repeat (first | assumption | exact Bv _ _ | refine Ba ?_ (by simp; try omega) _ | refine Bd ?_ | refine Bn ?_ _)) (h3.mono (by simp; try omega))
  replace m1 := m1.below hv_
  replace m2 := m2.below hv_
  replace q0 := keep_cell hv_ q0
  replace q1 := keep_cell hv_ q1
  replace q2 := keep_cell hv_ q2
  replace q3 := keep_cell hv_ q3
  have lt_q0 := cell_lt q0
  have lt_q1 := cell_lt q1
  have lt_q2 := cell_lt q2
  have lt_q3 := cell_lt q3
  replace z0 := z0.below hv_
  replace f_z0 := z0.fr
  replace HB := HB.trans (hv_.mono HB.size)
  clear hv_
  have m4 := m2
  cases neg
  ·have hbf : b = false := by rw [HH.out]; rfl
   subst hbf
   go_wp2
   refine bodyPost_ret (v := .tuple #[.agg #[.bool false, .slice R2 k1 e2, .bool false, .slice R4 k3 e4], .int .i64 0]) ?_ rfl ?_
   ·simp [results, Tryz.results48, go_sem, q0, q1, q2, q3]
   ·obtain ⟨j1, j2, j3⟩ := fin_fr m4 m5 HB (Nat.le_refl _) q0 q1 q2 q3 (.bool false) (.slice R2 k1 e2) (.bool false) (.slice R4 k3 e4)
    exact ⟨R2, e2, R4, e4, rfl, j1, j2, j3⟩
  ·by_cases hk0 : 0 < k1
   ·have hbf : b = true := by rw [HH.out]; simp [hk0]
    subst hbf
    go_wp2
    refine bodyPost_ret (v := .tuple #[.agg #[.bool true, .slice R2 k1 e2, .bool false, .slice R4 k3 e4], .int .i64 0]) ?_ rfl ?_
    ·simp [results, Tryz.results48, go_sem, q0, q1, q2, q3]
    ·obtain ⟨j1, j2, j3⟩ := fin_fr m4 m5 HB (Nat.le_refl _) q0 q1 q2 q3 (.bool true) (.slice R2 k1 e2) (.bool false) (.slice R4 k3 e4)
     exact ⟨R2, e2, R4, e4, rfl, j1, j2, j3⟩
   ·have hbf : b = false := by rw [HH.out]; simp [hk0]
    have hk1 : k1 = 0 := by omega
    subst hbf
    subst hk1
    go_wp2
    refine bodyPost_ret (v := .tuple #[.agg #[.bool false, .slice R2 0 e2, .bool false, .slice R4 k3 e4], .int .i64 0]) ?_ rfl ?_
    ·simp [results, Tryz.results48, go_sem, q0, q1, q2, q3]
    ·obtain ⟨j1, j2, j3⟩ := fin_fr m4 m5 HB (Nat.le_refl _) q0 q1 q2 q3 (.bool false) (.slice R2 0 e2) (.bool false) (.slice R4 k3 e4)
     exact ⟨R2, e2, R4, e4, rfl, j1, j2, j3⟩
 ·rw [lowE_no (fun h => hf (hff.1 h))] at hr
  rw [Prod.mk.injEq] at hr
  obtain ⟨rfl, rfl⟩ := hr
  obtain ⟨rfl, rfl, rfl, rfl, rfl⟩ := hp
  have hcase : 512 < k1 ∨ (k1 ≤ 512 ∧ 512 < k3) := by omega
  clear hl hff hg0 h0 hx hy ha hb hs ht hkg IG I1 I2 I3 I4 hf
  go_enter Tryz.func48, Tryz.ntmps48
  go_wp2_with fail
  refine (HC.out _ BG).mono ?_
  rintro e w1 ⟨R1, e1, rfl, m1, h1⟩
  obtain ⟨q0, q1, q2, q3, z0⟩ := newF h1
  have f_z0 := z0.fr
  have hv_ : Below w.heap.size w w1 := Below.trans (b := _) (by repeat (first | assumption | exact Bv _ _ | refine Ba ?_ (by simp; try omega) _ | refine Bd ?_ | refine Bn ?_ _)) (h1.mono (by simp; try omega))
  replace HB := HB.trans (hv_.mono HB.size)
  clear hv_
  go_wp2_with fail
  refine (HD1.out _ HB _ _ m1).mono ?_
  rintro e w2 ⟨R2, e2, R3, e3, rfl, m2, m3, h2⟩
  have hv_ : Below w1.heap.size w1 w2 := Below.trans (b := _) (by repeat (first | assumption | exact Bv _ _ | refine Ba ?_ (by simp; try omega) _ | refine Bd ?_ | refine Bn ?_ _)) (h2.mono (by simp; try omega))
  replace m1 := m1.below hv_
  replace q0 := keep_cell hv_ q0
  replace q1 := keep_cell hv_ q1
  replace q2 := keep_cell hv_ q2
  replace q3 := keep_cell hv_ q3
  have lt_q0 := cell_lt q0
  have lt_q1 := cell_lt q1
  have lt_q2 := cell_lt q2
  have lt_q3 := cell_lt q3
  replace z0 := z0.below hv_
  replace f_z0 := z0.fr
  replace HB := HB.trans (hv_.mono HB.size)
  clear hv_
  go_wp2_with fail
  refine (HD2.out _ HB _ _ m1).mono ?_
  rintro e w3 ⟨R4, e4, R5, e5, rfl, m5, m6, h3⟩
  have hv_ : Below w2.heap.size w2 w3 := Below.trans (b := _) (by repeat (first | assumption | exact Bv _ _ | refine Ba ?_ (by simp; try omega) _ | refine Bd ?_ | refine Bn ?_ _)) (h3.mono (by simp; try omega))
  replace m1 := m1.below hv_
  replace q0 := keep_cell hv_ q0
  replace q1 := keep_cell hv_ q1
  replace q2 := keep_cell hv_ q2
  replace q3 := keep_cell hv_ q3
  have lt_q0 := cell_lt q0
  have lt_q1 := cell_lt q1
  have lt_q2 := cell_lt q2
  have lt_q3 := cell_lt q3
  replace z0 := z0.below hv_
  replace f_z0 := z0.fr
  replace HB := HB.trans (hv_.mono HB.size)
  clear hv_
  rcases hcase with hc | ⟨hc1, hc2⟩
  all_goals
   go_wp2
   refine bodyPost_ret (v := .tuple #[.agg #[.bool false, .slice none 0 0, .bool false, .slice none 0 0], .int .i64 4]) ?_ rfl ?_
   ·simp [results, Tryz.results48, go_sem, q0, q1, q2, q3]
   ·obtain ⟨j1, j2, j3⟩ := fin_fr (X := none) (c := 0) (xs := []) (mg_nil' _) (mg_nil' _) HB (Nat.le_refl _) q0 q1 q2 q3 (.bool false) (.slice none 0 0) (.bool false) (.slice none 0 0)
    exact ⟨none, 0, none, 0, by simp [limbs_zero], by simpa [limbs_zero] using j1, by simpa [limbs_zero] using j2, j3⟩
end Go.Proofs.YtglailcfgcdagaaGreat
/- The fractions' reference: walks of one, Valid, sum, added. Conditions: none. -/
namespace Go.Proofs.YtglailcfgcdagaaGreat
open Go.RowKit Big
end Go.Proofs.YtglailcfgcdagaaGreat
/- The fractions' reference: walks of New, Of. Conditions: none. -/
namespace Go.Proofs.YtglailcfgcdagaaGreat
open Go.RowKit Big
set_option maxRecDepth 100000 in
set_option maxHeartbeats 2000000 in
theorem QNew_any {na nb : Bool} {xs ys : List Nat} {A B : Option Addr} {ca cb : Nat} {w : World} (ha : Mg w A ca xs) (hb : Mg w B cb ys) :
  Calls Tryz.prog 34 #[.agg #[.bool na, .slice A xs.length ca], .agg #[.bool nb, .slice B ys.length cb]] w (RetFE w (newR na xs nb ys)) := by
 have HX := hid fun (w1 : World) (h : Below w.heap.size w w1) => RValid_any na A ca xs w1 (ha.below h)
 have HY := hid fun (w1 : World) (h : Below w.heap.size w w1) => RValid_any nb B cb ys w1 (hb.below h)
 cases v1 : validB na xs
 ·have hr : newR na xs nb ys = ((0, 0), 1) := by unfold newR; rw [v1]; rfl
  rw [hr]
  rw [v1] at HX
  clear hr v1 ha hb HY
  generalize xs.length = k at *
  generalize ys.length = l at *
  go_enter Tryz.func34, Tryz.ntmps34
  go_wp2_with fail
  refine enterIIF (P := fun u => Calls _ _ _ u _) ?_
  intro u HB q0 q1 r0 r1 s0 s1 s2 s3 z1 z2 z3 hsz
  clear hsz
  have f_z1 := z1.fr
  have f_z2 := z2.fr
  have f_z3 := z3.fr
  have lt_q0 := cell_lt q0
  have lt_r0 := cell_lt r0
  have lt_s0 := cell_lt s0
  refine (HX.out _ HB).mono ?_
  rintro e w1 ⟨rfl, h1⟩
  have hv_ : Below u.heap.size u w1 := Below.trans (b := _) (by repeat (first | assumption | exact Bv _ _ | refine Ba ?_ (by simp; try omega) _ | refine Bd ?_ | refine Bn ?_ _)) (h1.mono (by simp; try omega))
  replace q0 := keep_cell hv_ q0
  replace q1 := keep_cell hv_ q1
  replace r0 := keep_cell hv_ r0
  replace r1 := keep_cell hv_ r1
  replace s0 := keep_cell hv_ s0
  replace s1 := keep_cell hv_ s1
  replace s2 := keep_cell hv_ s2
  replace s3 := keep_cell hv_ s3
  have lt_q0 := cell_lt q0
  have lt_q1 := cell_lt q1
  have lt_r0 := cell_lt r0
  have lt_r1 := cell_lt r1
  have lt_s0 := cell_lt s0
  have lt_s1 := cell_lt s1
  have lt_s2 := cell_lt s2
  have lt_s3 := cell_lt s3
  replace z1 := z1.below hv_
  replace z2 := z2.below hv_
  replace z3 := z3.below hv_
  replace f_z1 := z1.fr
  replace f_z2 := z2.fr
  replace f_z3 := z3.fr
  replace HB := HB.trans (hv_.mono HB.size)
  clear hv_
  go_wp2
  refine bodyPost_ret (v := .tuple #[.agg #[.bool false, .slice none 0 0, .bool false, .slice none 0 0], .int .i64 1]) ?_ rfl ?_
  ·simp [results, Tryz.results34, go_sem, s0, s1, s2, s3]
  ·exact retFE_set 1 HB (by omega) s0 s1 s2 s3
 ·rw [v1] at HX
  cases v2 : validB nb ys
  ·have hr : newR na xs nb ys = ((0, 0), 1) := by unfold newR; rw [v1, v2]; rfl
   rw [hr]
   rw [v2] at HY
   clear hr v1 v2 ha hb
   generalize xs.length = k at *
   generalize ys.length = l at *
   go_enter Tryz.func34, Tryz.ntmps34
   go_wp2_with fail
   refine enterIIF (P := fun u => Calls _ _ _ u _) ?_
   intro u HB q0 q1 r0 r1 s0 s1 s2 s3 z1 z2 z3 hsz
   clear hsz
   have f_z1 := z1.fr
   have f_z2 := z2.fr
   have f_z3 := z3.fr
   have lt_q0 := cell_lt q0
   have lt_r0 := cell_lt r0
   have lt_s0 := cell_lt s0
   refine (HX.out _ HB).mono ?_
   rintro e w1 ⟨rfl, h1⟩
   have hv_ : Below u.heap.size u w1 := Below.trans (b := _) (by repeat (first | assumption | exact Bv _ _ | refine Ba ?_ (by simp; try omega) _ | refine Bd ?_ | refine Bn ?_ _)) (h1.mono (by simp; try omega))
   replace q0 := keep_cell hv_ q0
   replace q1 := keep_cell hv_ q1
   replace r0 := keep_cell hv_ r0
   replace r1 := keep_cell hv_ r1
   replace s0 := keep_cell hv_ s0
   replace s1 := keep_cell hv_ s1
   replace s2 := keep_cell hv_ s2
   replace s3 := keep_cell hv_ s3
   have lt_q0 := cell_lt q0
   have lt_q1 := cell_lt q1
   have lt_r0 := cell_lt r0
   have lt_r1 := cell_lt r1
   have lt_s0 := cell_lt s0
   have lt_s1 := cell_lt s1
   have lt_s2 := cell_lt s2
   have lt_s3 := cell_lt s3
   replace z1 := z1.below hv_
   replace z2 := z2.below hv_
   replace z3 := z3.below hv_
   replace f_z1 := z1.fr
   replace f_z2 := z2.fr
   replace f_z3 := z3.fr
   replace HB := HB.trans (hv_.mono HB.size)
   clear hv_
   go_wp2_with fail
   refine (HY.out _ HB).mono ?_
   rintro e w2 ⟨rfl, h2⟩
   have hv_ : Below w1.heap.size w1 w2 := Below.trans (b := _) (by repeat (first | assumption | exact Bv _ _ | refine Ba ?_ (by simp; try omega) _ | refine Bd ?_ | refine Bn ?_ _)) (h2.mono (by simp; try omega))
   replace q0 := keep_cell hv_ q0
   replace q1 := keep_cell hv_ q1
   replace r0 := keep_cell hv_ r0
   replace r1 := keep_cell hv_ r1
   replace s0 := keep_cell hv_ s0
   replace s1 := keep_cell hv_ s1
   replace s2 := keep_cell hv_ s2
   replace s3 := keep_cell hv_ s3
   have lt_q0 := cell_lt q0
   have lt_q1 := cell_lt q1
   have lt_r0 := cell_lt r0
   have lt_r1 := cell_lt r1
   have lt_s0 := cell_lt s0
   have lt_s1 := cell_lt s1
   have lt_s2 := cell_lt s2
   have lt_s3 := cell_lt s3
   replace z1 := z1.below hv_
   replace z2 := z2.below hv_
   replace z3 := z3.below hv_
   replace f_z1 := z1.fr
   replace f_z2 := z2.fr
   replace f_z3 := z3.fr
   replace HB := HB.trans (hv_.mono HB.size)
   clear hv_
   go_wp2
   refine bodyPost_ret (v := .tuple #[.agg #[.bool false, .slice none 0 0, .bool false, .slice none 0 0], .int .i64 1]) ?_ rfl ?_
   ·simp [results, Tryz.results34, go_sem, s0, s1, s2, s3]
   ·exact retFE_set 1 HB (by omega) s0 s1 s2 s3
  ·rw [v2] at HY
   obtain ⟨p1, p2, p3⟩ := validB_limbs ha.ok v1
   obtain ⟨q1, q2, q3⟩ := validB_limbs hb.ok v2
   have b1 := validB_len v1
   have b2 := validB_len v2
   have ix : Lz (val xs) xs.length xs := ⟨p1, rfl⟩
   have iy : Lz (val ys) ys.length ys := ⟨q1, rfl⟩
   by_cases h0 : val ys = 0
   ·have hr : newR na xs nb ys = ((0, 0), 12) := by unfold newR newE; rw [v1, v2, h0, sg_zero]; simp
    have hl : ys.length = 0 := iy.zero.2 h0
    rw [hr, hl]
    rw [hl] at HY
    clear hr hl v1 v2 ha hb p1 p2 p3 q1 q2 q3 b1 b2 ix iy h0
    generalize xs.length = k at *
    go_enter Tryz.func34, Tryz.ntmps34
    go_wp2_with fail
    refine enterIIF (P := fun u => Calls _ _ _ u _) ?_
    intro u HB q0 q1 r0 r1 s0 s1 s2 s3 z1 z2 z3 hsz
    clear hsz
    have f_z1 := z1.fr
    have f_z2 := z2.fr
    have f_z3 := z3.fr
    have lt_q0 := cell_lt q0
    have lt_r0 := cell_lt r0
    have lt_s0 := cell_lt s0
    refine (HX.out _ HB).mono ?_
    rintro e w1 ⟨rfl, h1⟩
    have hv_ : Below u.heap.size u w1 := Below.trans (b := _) (by repeat (first | assumption | exact Bv _ _ | refine Ba ?_ (by simp; try omega) _ | refine Bd ?_ | refine Bn ?_ _)) (h1.mono (by simp; try omega))
    replace q0 := keep_cell hv_ q0
    replace q1 := keep_cell hv_ q1
    replace r0 := keep_cell hv_ r0
    replace r1 := keep_cell hv_ r1
    replace s0 := keep_cell hv_ s0
    replace s1 := keep_cell hv_ s1
    replace s2 := keep_cell hv_ s2
    replace s3 := keep_cell hv_ s3
    have lt_q0 := cell_lt q0
    have lt_q1 := cell_lt q1
    have lt_r0 := cell_lt r0
    have lt_r1 := cell_lt r1
    have lt_s0 := cell_lt s0
    have lt_s1 := cell_lt s1
    have lt_s2 := cell_lt s2
    have lt_s3 := cell_lt s3
    replace z1 := z1.below hv_
    replace z2 := z2.below hv_
    replace z3 := z3.below hv_
    replace f_z1 := z1.fr
    replace f_z2 := z2.fr
    replace f_z3 := z3.fr
    replace HB := HB.trans (hv_.mono HB.size)
    clear hv_
    go_wp2_with fail
    refine (HY.out _ HB).mono ?_
    rintro e w2 ⟨rfl, h2⟩
    have hv_ : Below w1.heap.size w1 w2 := Below.trans (b := _) (by repeat (first | assumption | exact Bv _ _ | refine Ba ?_ (by simp; try omega) _ | refine Bd ?_ | refine Bn ?_ _)) (h2.mono (by simp; try omega))
    replace q0 := keep_cell hv_ q0
    replace q1 := keep_cell hv_ q1
    replace r0 := keep_cell hv_ r0
    replace r1 := keep_cell hv_ r1
    replace s0 := keep_cell hv_ s0
    replace s1 := keep_cell hv_ s1
    replace s2 := keep_cell hv_ s2
    replace s3 := keep_cell hv_ s3
    have lt_q0 := cell_lt q0
    have lt_q1 := cell_lt q1
    have lt_r0 := cell_lt r0
    have lt_r1 := cell_lt r1
    have lt_s0 := cell_lt s0
    have lt_s1 := cell_lt s1
    have lt_s2 := cell_lt s2
    have lt_s3 := cell_lt s3
    replace z1 := z1.below hv_
    replace z2 := z2.below hv_
    replace z3 := z3.below hv_
    replace f_z1 := z1.fr
    replace f_z2 := z2.fr
    replace f_z3 := z3.fr
    replace HB := HB.trans (hv_.mono HB.size)
    clear hv_
    go_wp2
    refine bodyPost_ret (v := .tuple #[.agg #[.bool false, .slice none 0 0, .bool false, .slice none 0 0], .int .i64 12]) ?_ rfl ?_
    ·simp [results, Tryz.results34, go_sem, s0, s1, s2, s3]
    ·exact retFE_set 12 HB (by omega) s0 s1 s2 s3
   ·have hy0 : sg nb (val ys) ≠ 0 := by unfold sg; split <;> omega
    have hr : newR na xs nb ys = lowE (sg (!(na == nb)) (val xs)) (val ys) := by
     unfold newR newE
     rw [v1, v2, if_pos (by rfl), if_neg hy0, ← p3, ← q3, natAbs_sg, natAbs_sg]
     rfl
    have hl : ((ys.length : Int) == 0) = false := by rw [beq_eq_false_iff_ne]; have : ys.length ≠ 0 := fun h => h0 (iy.zero.1 h); omega
    obtain ⟨p, err, hp⟩ : ∃ p err, lowE (sg (!(na == nb)) (val xs)) (val ys) = (p, err) := ⟨_, _, rfl⟩
    obtain ⟨bq, kq, Xq, lq, Yq, IQ⟩ := fz p
    have HM := hid fun (w1 : World) (h : Below w.heap.size w w1) => Qmade_g (w := w1) ix iy (ha.below h) (hb.below h) (by omega) (by omega) h0 IQ.out hp
    rw [hr, hp]
    clear hr v1 v2 ha hb p1 p2 p3 q1 q2 q3 b1 b2 ix iy h0 hp hy0
    generalize xs.length = k at *
    generalize ys.length = l at *
    go_enter Tryz.func34, Tryz.ntmps34
    go_wp2_with fail
    refine enterIIF (P := fun u => Calls _ _ _ u _) ?_
    intro u HB q0 q1 r0 r1 s0 s1 s2 s3 z1 z2 z3 hsz
    clear hsz
    have f_z1 := z1.fr
    have f_z2 := z2.fr
    have f_z3 := z3.fr
    have lt_q0 := cell_lt q0
    have lt_r0 := cell_lt r0
    have lt_s0 := cell_lt s0
    refine (HX.out _ HB).mono ?_
    rintro e w1 ⟨rfl, h1⟩
    have hv_ : Below u.heap.size u w1 := Below.trans (b := _) (by repeat (first | assumption | exact Bv _ _ | refine Ba ?_ (by simp; try omega) _ | refine Bd ?_ | refine Bn ?_ _)) (h1.mono (by simp; try omega))
    replace q0 := keep_cell hv_ q0
    replace q1 := keep_cell hv_ q1
    replace r0 := keep_cell hv_ r0
    replace r1 := keep_cell hv_ r1
    replace s0 := keep_cell hv_ s0
    replace s1 := keep_cell hv_ s1
    replace s2 := keep_cell hv_ s2
    replace s3 := keep_cell hv_ s3
    have lt_q0 := cell_lt q0
    have lt_q1 := cell_lt q1
    have lt_r0 := cell_lt r0
    have lt_r1 := cell_lt r1
    have lt_s0 := cell_lt s0
    have lt_s1 := cell_lt s1
    have lt_s2 := cell_lt s2
    have lt_s3 := cell_lt s3
    replace z1 := z1.below hv_
    replace z2 := z2.below hv_
    replace z3 := z3.below hv_
    replace f_z1 := z1.fr
    replace f_z2 := z2.fr
    replace f_z3 := z3.fr
    replace HB := HB.trans (hv_.mono HB.size)
    clear hv_
    go_wp2_with fail
    refine (HY.out _ HB).mono ?_
    rintro e w2 ⟨rfl, h2⟩
    have hv_ : Below w1.heap.size w1 w2 := Below.trans (b := _) (by repeat (first | assumption | exact Bv _ _ | refine Ba ?_ (by simp; try omega) _ | refine Bd ?_ | refine Bn ?_ _)) (h2.mono (by simp; try omega))
    replace q0 := keep_cell hv_ q0
    replace q1 := keep_cell hv_ q1
    replace r0 := keep_cell hv_ r0
    replace r1 := keep_cell hv_ r1
    replace s0 := keep_cell hv_ s0
    replace s1 := keep_cell hv_ s1
    replace s2 := keep_cell hv_ s2
    replace s3 := keep_cell hv_ s3
    have lt_q0 := cell_lt q0
    have lt_q1 := cell_lt q1
    have lt_r0 := cell_lt r0
    have lt_r1 := cell_lt r1
    have lt_s0 := cell_lt s0
    have lt_s1 := cell_lt s1
    have lt_s2 := cell_lt s2
    have lt_s3 := cell_lt s3
    replace z1 := z1.below hv_
    replace z2 := z2.below hv_
    replace z3 := z3.below hv_
    replace f_z1 := z1.fr
    replace f_z2 := z2.fr
    replace f_z3 := z3.fr
    replace HB := HB.trans (hv_.mono HB.size)
    clear hv_
    go_wp2_with fail
    refine (HM.out _ HB).mono ?_
    rintro e w3 ⟨R1, c1, R2, c2, rfl, m1, m2, h3⟩
    have hv_ : Below w2.heap.size w2 w3 := Below.trans (b := _) (by repeat (first | assumption | exact Bv _ _ | refine Ba ?_ (by simp; try omega) _ | refine Bd ?_ | refine Bn ?_ _)) (h3.mono (by simp; try omega))
    replace q0 := keep_cell hv_ q0
    replace q1 := keep_cell hv_ q1
    replace r0 := keep_cell hv_ r0
    replace r1 := keep_cell hv_ r1
    replace s0 := keep_cell hv_ s0
    replace s1 := keep_cell hv_ s1
    replace s2 := keep_cell hv_ s2
    replace s3 := keep_cell hv_ s3
    have lt_q0 := cell_lt q0
    have lt_q1 := cell_lt q1
    have lt_r0 := cell_lt r0
    have lt_r1 := cell_lt r1
    have lt_s0 := cell_lt s0
    have lt_s1 := cell_lt s1
    have lt_s2 := cell_lt s2
    have lt_s3 := cell_lt s3
    replace z1 := z1.below hv_
    replace z2 := z2.below hv_
    replace z3 := z3.below hv_
    replace f_z1 := z1.fr
    replace f_z2 := z2.fr
    replace f_z3 := z3.fr
    replace HB := HB.trans (hv_.mono HB.size)
    clear hv_
    go_wp2
    refine bodyPost_ret (v := .tuple #[.agg #[.bool bq, .slice R1 kq c1, .bool false, .slice R2 lq c2], .int .i64 err]) ?_ rfl ?_
    ·simp [results, Tryz.results34, go_sem, s0, s1, s2, s3]
    ·obtain ⟨j1_, j2_, j3_⟩ := fin_fr m1 m2 HB (by omega) s0 s1 s2 s3 (.bool bq) (.slice R1 kq c1) (.bool false) (.slice R2 lq c2)
     exact GF.r ⟨R1, c1, R2, c2, rfl, j1_, j2_, j3_⟩ IQ.out
set_option maxRecDepth 100000 in
set_option maxHeartbeats 2000000 in
theorem QOf_any (x y : Int) (w : World) (h1 : -9223372036854775808 ≤ x) (h2 : x ≤ 9223372036854775807) (h3 : -9223372036854775808 ≤ y) (h4 : y ≤ 9223372036854775807) :
  Calls Tryz.prog 15 #[.int .i64 x, .int .i64 y] w (RetFE w (newE x y)) := by
 have HX := hid fun (w1 : World) => RFromInt_ok x w1 h1 h2
 have HY := hid fun (w1 : World) => RFromInt_ok y w1 h3 h4
 have HN := hid fun (w1 : World) (R Q : Option Addr) (c d : Nat) (m : Mg w1 R c (limbs x.natAbs)) (m' : Mg w1 Q d (limbs y.natAbs)) => by
  have := QNew_any (na := decide (x < 0)) (nb := decide (y < 0)) m m'
  rwa [newR_int x y (valid_int x h1 h2) (valid_int y h3 h4)] at this
 obtain ⟨q, hq⟩ : ∃ q, newE x y = q := ⟨_, rfl⟩
 rw [hq] at HN ⊢
 obtain ⟨bx, kx, Lx, IX⟩ := iz x
 obtain ⟨by_, ky, Ly, IY⟩ := iz y
 replace HX := hid fun w1 => (HX.out w1).mono fun e w' h => RetZ.g h IX.out
 replace HY := hid fun w1 => (HY.out w1).mono fun e w' h => RetZ.g h IY.out
 replace HN := hid fun (w1 : World) (R Q : Option Addr) (c d : Nat) (m : Mg w1 R c Lx) (m' : Mg w1 Q d Ly) => by
  have := HN.out w1 R Q c d (by rw [← IX.out.hx]; exact m) (by rw [← IY.out.hx]; exact m')
  rwa [← IX.out.hx, ← IY.out.hx, ← IX.out.hn, ← IY.out.hn, ← IX.out.hb, ← IY.out.hb] at this
 obtain ⟨⟨p, err⟩, rfl⟩ : ∃ p, q = p := ⟨_, rfl⟩
 obtain ⟨bq, kq, Xq, lq, Yq, IQ⟩ := fz p
 replace HN := hid fun w1 R Q c d m m' => (HN.out w1 R Q c d m m').mono fun e w' h => RetFE.g h IQ.out
 clear hq IX IY
 go_enter Tryz.func15, Tryz.ntmps15
 go_wp2_with fail
 refine enterF (P := fun u => Calls _ _ _ u _) ?_
 intro u HB q0 q1 q2 q3 z1 hsz
 clear hsz
 have f_z1 := z1.fr
 have lt_q0 := cell_lt q0
 refine (HX.out _).mono ?_
 rintro e w1 ⟨R1, c1, rfl, m1, h1_⟩
 have hv_ : Below u.heap.size u w1 := Below.trans (b := _) (by repeat (first | assumption | exact Bv _ _ | refine Ba ?_ (by simp; try omega) _ | refine Bd ?_ | refine Bn ?_ _)) (h1_.mono (by simp; try omega))
 replace q0 := keep_cell hv_ q0
 replace q1 := keep_cell hv_ q1
 replace q2 := keep_cell hv_ q2
 replace q3 := keep_cell hv_ q3
 have lt_q0 := cell_lt q0
 have lt_q1 := cell_lt q1
 have lt_q2 := cell_lt q2
 have lt_q3 := cell_lt q3
 replace z1 := z1.below hv_
 replace f_z1 := z1.fr
 replace HB := HB.trans (hv_.mono HB.size)
 clear hv_
 go_wp2_with fail
 refine (HY.out _).mono ?_
 rintro e w2 ⟨R2, c2, rfl, m2, h2_⟩
 have hv_ : Below w1.heap.size w1 w2 := Below.trans (b := _) (by repeat (first | assumption | exact Bv _ _ | refine Ba ?_ (by simp; try omega) _ | refine Bd ?_ | refine Bn ?_ _)) (h2_.mono (by simp; try omega))
 replace m1 := m1.below hv_
 replace q0 := keep_cell hv_ q0
 replace q1 := keep_cell hv_ q1
 replace q2 := keep_cell hv_ q2
 replace q3 := keep_cell hv_ q3
 have lt_q0 := cell_lt q0
 have lt_q1 := cell_lt q1
 have lt_q2 := cell_lt q2
 have lt_q3 := cell_lt q3
 replace z1 := z1.below hv_
 replace f_z1 := z1.fr
 replace HB := HB.trans (hv_.mono HB.size)
 clear hv_
 go_wp2_with fail
 refine (HN.out _ _ _ _ _ m1 m2).mono ?_
 rintro e w3 ⟨R3, c3, R4, c4, rfl, m3, m4, h3_⟩
 have hv_ : Below w2.heap.size w2 w3 := Below.trans (b := _) (by repeat (first | assumption | exact Bv _ _ | refine Ba ?_ (by simp; try omega) _ | refine Bd ?_ | refine Bn ?_ _)) (h3_.mono (by simp; try omega))
 replace q0 := keep_cell hv_ q0
 replace q1 := keep_cell hv_ q1
 replace q2 := keep_cell hv_ q2
 replace q3 := keep_cell hv_ q3
 have lt_q0 := cell_lt q0
 have lt_q1 := cell_lt q1
 have lt_q2 := cell_lt q2
 have lt_q3 := cell_lt q3
 replace z1 := z1.below hv_
 replace f_z1 := z1.fr
 replace HB := HB.trans (hv_.mono HB.size)
 clear hv_
 go_wp2
 refine bodyPost_ret (v := .tuple #[.agg #[.bool bq, .slice R3 kq c3, .bool false, .slice R4 lq c4], .int .i64 err]) ?_ rfl ?_
 ·simp [results, Tryz.results15, go_sem, q0, q1, q2, q3]
 ·obtain ⟨j1_, j2_, j3_⟩ := fin_fr m3 m4 HB (by omega) q0 q1 q2 q3 (.bool bq) (.slice R3 kq c3) (.bool false) (.slice R4 lq c4)
  exact GF.r ⟨R3, c3, R4, c4, rfl, j1_, j2_, j3_⟩ IQ.out
end Go.Proofs.YtglailcfgcdagaaGreat
