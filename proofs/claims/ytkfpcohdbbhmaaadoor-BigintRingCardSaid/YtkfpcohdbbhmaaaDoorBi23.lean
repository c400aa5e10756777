/- Integers: the walk of Pow. Conditions: none. -/
import Derived.Test.YtkfpcohdbbhmaaaDoorBiD
set_option linter.unusedVariables false
set_option linter.unusedSimpArgs false
namespace Go.Proofs.YtkfpcohdbbhmaaaDoor
open Go.RowKit Big

theorem i64_and1 (n : Int) : bits .and .i64 n 1 = n % 2 := by
  have h1 : (BitVec.ofInt 64 1).toNat = 2 ^ 1 - 1 := by decide
  have key : (BitVec.ofInt 64 n &&& BitVec.ofInt 64 1).toNat = (n % ((2 ^ 64 : Nat) : Int)).toNat % 2 ^ 1 := by
    rw [BitVec.toNat_and, BitVec.toNat_ofInt, h1, Nat.and_two_pow_sub_one_eq_mod]
  show IntKind.i64.wrap ((BitVec.ofInt 64 n &&& BitVec.ofInt 64 1).toNat : Int) = _
  rw [key, IntKind.wrap_i64]
  omega

theorem pow_long {m a b : Nat} (h : 512 < (limbs (m ^ a)).length) (hab : a ≤ b) : 512 < (limbs (m ^ b)).length := by
  cases m with
  | zero =>
    have h1 : (limbs (0 ^ a)).length ≤ 1 := by
      rw [limbs_len_iff]
      cases a with
      | zero => simp
      | succ a => rw [Nat.pow_succ, Nat.mul_zero]; simp
    omega
  | succ m => exact Nat.lt_of_lt_of_le h (limbs_mono (Nat.pow_le_pow_right (by omega) hab))

theorem pow_sg (x : Int) (N : Nat) : sg (decide (x < 0) && decide (N % 2 = 1)) (x.natAbs ^ N) = x ^ N := by
  rcases sg_cases x with ⟨n, rfl, h1, h2⟩ | ⟨n, rfl, h1, h2⟩
  · rw [h1, h2]; simp [sg]
  · rw [h1, h2]
    rw [show (-(n : Int)) ^ N = (-1) ^ N * (n : Int) ^ N by rw [← Int.mul_pow]; congr 1; omega]
    rcases Nat.mod_two_eq_zero_or_one N with h | h
    · obtain ⟨k, rfl⟩ : ∃ k, N = 2 * k := ⟨N / 2, by omega⟩
      rw [Int.pow_mul]
      simp [sg, Int.one_pow]
    · obtain ⟨k, rfl⟩ : ∃ k, N = 2 * k + 1 := ⟨N / 2, by omega⟩
      rw [Int.pow_succ (-1), Int.pow_mul]
      simp [sg, Int.one_pow]

theorem limbs_mul_len {a b k j : Nat} (h1 : (limbs a).length ≤ k) (h2 : (limbs b).length ≤ j) : (limbs (a * b)).length ≤ k + j := by
  rw [limbs_len_iff] at *
  rw [Nat.pow_add]
  exact Nat.mul_lt_mul'' h1 h2

theorem pow_half (m T : Nat) : m ^ T = m ^ (T / 2) * m ^ (T / 2) * (if T % 2 = 1 then m else 1) := by
  split
  · rw [← Nat.pow_add, ← Nat.pow_succ]; congr 1; omega
  · rw [← Nat.pow_add, Nat.mul_one]; congr 1; omega

set_option maxRecDepth 100000 in
set_option maxHeartbeats 1000000 in
theorem Pow_ok (x : Int) (N : Nat) (A : Option Addr) (c : Nat) (w : World) (ha : Mg w A c (limbs x.natAbs)) (fx : fits x) (hN : N ≤ 9223372036854775807) :
    Calls Tryd.prog 21 #[.agg #[.bool (decide ((x) < 0)), .slice A (limbs (Int.natAbs (x))).length c], .int .i64 N] w (RetF w (x ^ N)) := by
  have HX := hid fun (w1 : World) (h1 : Below w.heap.size w w1) => Valid_t (ha.below h1) fx
  have HS := hid fun (w1 : World) (R1 : Option Addr) (c1 P : Nat) (h1 : Mg w1 R1 c1 (limbs P)) (hl : (limbs P).length ≤ 512) => mul_n R1 R1 c1 c1 P P w1 h1 h1 (by omega) (by omega)
  have HM := hid fun (w1 : World) (h : Below w.heap.size w w1) (R1 : Option Addr) (c1 P : Nat) (h1 : Mg w1 R1 c1 (limbs P)) (hl : (limbs P).length ≤ 1024) => mul_n R1 A c1 c P x.natAbs w1 h1 (ha.below h) (by omega) (Nat.le_trans fx (by omega))
  have HI := hid fun (w1 : World) (R1 : Option Addr) (c1 : Nat) (b : Bool) (P : Nat) (h1 : Mg w1 R1 c1 (limbs P)) => integer_any b R1 c1 P w1 h1
  have HE := hid fun (P : Nat) (h : x.natAbs ^ N = P) => (show sg (decide (x < 0) && decide (N % 2 = 1)) P = x ^ N by rw [← h]; exact pow_sg x N)
  have HL := hid fun (P a : Nat) (h : x.natAbs ^ a = P) (h2 : 512 < (limbs P).length) (h3 : a ≤ N) => (show fitE (x ^ N) = (0, 4) by
    have h4 := pow_long (m := x.natAbs) (a := a) (by rw [h]; exact h2) h3
    exact fitE_no (by unfold fits; rw [Int.natAbs_pow]; omega))
  have HY := hid fun (h2 : (limbs (x.natAbs ^ N)).length ≤ 512) => (show fitE (x ^ N) = (x ^ N, 0) by
    exact fitE_yes (by unfold fits; rw [Int.natAbs_pow]; exact h2))
  clear ha fx
  generalize x ^ N = Z at *
  generalize decide (x < 0) = bx at *
  generalize (limbs x.natAbs).length = lx at *
  generalize x.natAbs = m at *
  go_enter Tryd.func21, Tryd.ntmps21
  go_wp2_with fail
  refine (HX.out _ (by repeat (first | assumption | exact Below.refl _ _ | refine Below.alloc ?_ (by simp; try omega) _ | refine Below.drew ?_ | refine below_drewN ?_ _))).mono ?_
  rintro e w1 ⟨rfl, h1⟩
  obtain ⟨p1, p2, p3, p4, p5⟩ := box2_keep h1
  have b1 : Below w.heap.size w w1 := Below.trans (b := _) (by repeat (first | assumption | exact Below.refl _ _ | refine Below.alloc ?_ (by simp; try omega) _ | refine Below.drew ?_ | refine below_drewN ?_ _)) (h1.mono (by simp; omega))
  have k0 : Hid (limbs 1 = limbs (m ^ (N / 2 ^ 63))) := by
    show limbs 1 = _
    rw [Nat.div_eq_of_lt (by omega), Nat.pow_zero]
  clear HX
  go_wp2_with fail
  go_loopw [6, 7] (fun s6 s7 wr => ∃ (R : Option Addr) (cc k : Nat), s6 = .slice R (limbs (m ^ (N / 2 ^ k))).length cc ∧ s7 = .int .i64 ((k : Int) - 1) ∧ k ≤ 63 ∧ (limbs (m ^ (N / 2 ^ k))).length ≤ 512 ∧ Below w1.heap.size w1 wr ∧ Mg wr R cc (limbs (m ^ (N / 2 ^ k)))) (fun _ s7 _ => (intOf s7 + 1).toNat)
  case atStart => exact ⟨_, 1, 63, by rw [← k0.out, limbs_one]; rfl, rfl, by omega, by rw [← k0.out, limbs_one]; decide, ((Below.refl _ _).alloc (Nat.le_refl _) _), by rw [← k0.out, limbs_one]; exact mg_one _⟩
  case round =>
    clear k0
    obtain ⟨R, cc, k, rfl, rfl, hk, hl, hbl, hr⟩ := hrel
    obtain ⟨q1, q2, q3, q4, q5⟩ := box2_keep (h1.trans (hbl.mono h1.size))
    have b2 := b1.trans (hbl.mono b1.size)
    generalize hP : m ^ (N / 2 ^ k) = P at *
    have HP := hid hP
    clear hP p1 p2 p3 p4 p5
    by_cases h0 : k = 0
    · subst h0
      rw [show N / 2 ^ 0 = N by simp] at HP
      have hmod : (N : Int) % 2 = ((N % 2 : Nat) : Int) := (Int.natCast_emod _ _).symm
      have HI1 := HI.out wr R cc (bx && decide (N % 2 = 1)) P hr
      rw [HE.out P HP.out] at HI1
      clear HE HI HM HS hr
      rcases Nat.mod_two_eq_zero_or_one N with h2 | h2
      · rw [h2] at hmod HI1
        simp at HI1
        cases bx
        all_goals
          go_wp2_with (go_at_call 54; refine HI1.mono ?_; rintro e w3 ⟨R3, c3, rfl, hr3, h3⟩; have h13 := h1.trans ((hbl.trans (h3.mono hbl.size)).mono h1.size); obtain ⟨r1, r2, r3, r4, r5⟩ := box2_keep h13)
          have k0 := r3 0
          have k1 := r3 1
          simp at k0 k1
          have b3 := b2.trans (h3.mono b2.size)
          unfold RetF
          rw [HY.out (by rw [HP.out]; exact hl)]
          refine bodyPost_ret (v := .tuple #[.agg #[.bool (decide (Z < 0)), .slice R3 (limbs Z.natAbs).length c3], .int .i64 0]) ?_ rfl ?_
          · simp [results, Tryd.results21, go_sem, k0, k1]
          · exact fin_ze hr3 b3 (by omega) k0 k1 _ _
      · rw [h2] at hmod HI1
        cases bx
        all_goals
          simp at HI1
          go_wp2_with (go_at_call 54; refine HI1.mono ?_; rintro e w3 ⟨R3, c3, rfl, hr3, h3⟩; have h13 := h1.trans ((hbl.trans (h3.mono hbl.size)).mono h1.size); obtain ⟨r1, r2, r3, r4, r5⟩ := box2_keep h13)
          have k0 := r3 0
          have k1 := r3 1
          simp at k0 k1
          have b3 := b2.trans (h3.mono b2.size)
          unfold RetF
          rw [HY.out (by rw [HP.out]; exact hl)]
          refine bodyPost_ret (v := .tuple #[.agg #[.bool (decide (Z < 0)), .slice R3 (limbs Z.natAbs).length c3], .int .i64 0]) ?_ rfl ?_
          · simp [results, Tryd.results21, go_sem, k0, k1]
          · exact fin_ze hr3 b3 (by omega) k0 k1 _ _
    · have hT : (N : Int) / 2 ^ (k - 1) = ((N / 2 ^ (k - 1) : Nat) : Int) := by rw [Int.natCast_ediv]; simp
      have hT2 : N / 2 ^ k = N / 2 ^ (k - 1) / 2 := by rw [Nat.div_div_eq_div_mul, ← Nat.pow_succ]; congr 2; omega
      have hTN : N / 2 ^ (k - 1) ≤ N := Nat.div_le_self _ _
      rw [hT2] at HP
      have hph := pow_half m (N / 2 ^ (k - 1))
      rw [HP.out] at hph
      have hand := i64_and1 ((N : Int) / 2 ^ (k - 1))
      rw [hT] at hand
      generalize hTT : N / 2 ^ (k - 1) = T at *
      have HTT := hid hTT
      have HS1 := HS.out wr R cc P hr hl
      have hlp : (limbs (P * P)).length ≤ 1024 := limbs_mul_len hl hl
      generalize P * P = PP at *
      clear hTT HI HE HY HS hr hT2
      rcases Nat.mod_two_eq_zero_or_one T with h2 | h2
      · have hbit : (bits BinOp.and IntKind.i64 ((N : Int) / 2 ^ (k - 1)) 1 == 1) = false := by rw [hT, hand]; simp; omega
        have HTP : Hid (m ^ T = PP) := by unfold Hid; rw [h2] at hph; simpa using hph
        clear hand hT hph
        by_cases hq : 512 < (limbs PP).length
        · go_wp2_with (go_at_call 63; refine HS1.mono ?_; rintro e w3 ⟨R3, c3, rfl, hr3, h3⟩; have h13 := h1.trans ((hbl.trans (h3.mono hbl.size)).mono h1.size); obtain ⟨r1, r2, r3, r4, r5⟩ := box2_keep h13)
          have k0 := r3 0
          have k1 := r3 1
          simp at k0 k1
          unfold RetF
          rw [HL.out PP T (HTP.out) hq hTN]
          refine bodyPost_ret (v := .tuple #[.agg #[.bool false, .slice none 0 0], .int .i64 4]) ?_ rfl ?_
          · simp [results, Tryd.results21, go_sem, k0, k1]
          · exact retZE_zero 4 (below_set (below_set (b2.trans (h3.mono b2.size)) (by omega) _ _) (by omega) _ _)
        · go_wp2_with (go_at_call 63; refine HS1.mono ?_; rintro e w3 ⟨R3, c3, rfl, hr3, h3⟩; have h13 := h1.trans ((hbl.trans (h3.mono hbl.size)).mono h1.size); obtain ⟨r1, r2, r3, r4, r5⟩ := box2_keep h13)
          go_roundw
          case rel =>
            rw [← HTP.out, ← HTT.out] at *
            exact ⟨R3, c3, k - 1, rfl, val_i (by omega), by omega, by omega, hbl.trans (h3.mono hbl.size), hr3⟩
          case measure => simp [intOf]; omega
      · have hbit : (bits BinOp.and IntKind.i64 ((N : Int) / 2 ^ (k - 1)) 1 == 1) = true := by rw [hT, hand]; simp; omega
        have HMQ := hid fun (w3 : World) (h : Below w.heap.size w w3) (R1 : Option Addr) (c1 : Nat) (h1 : Mg w3 R1 c1 (limbs PP)) => HM.out w3 h R1 c1 PP h1 hlp
        generalize hQ : PP * m = QQ at *
        have HTP : Hid (m ^ T = QQ) := by unfold Hid; rw [h2, if_pos rfl, hQ] at hph; exact hph
        clear hand hT hph HM hQ
        by_cases hq : 512 < (limbs QQ).length
        · go_wp2_with (first | (go_at_call 63; refine (HMQ.out _ (b2.trans (h3.mono b2.size)) _ _ hr3).mono ?_; rintro e w4 ⟨R4, c4, rfl, hr4, h4⟩; have h34 := h3.trans (h4.mono h3.size); have h14 := h1.trans ((hbl.trans (h34.mono hbl.size)).mono h1.size); obtain ⟨s1, s2, s3, s4, s5⟩ := box2_keep h14) | (go_at_call 63; refine HS1.mono ?_; rintro e w3 ⟨R3, c3, rfl, hr3, h3⟩; have h13 := h1.trans ((hbl.trans (h3.mono hbl.size)).mono h1.size); obtain ⟨r1, r2, r3, r4, r5⟩ := box2_keep h13))
          have k0 := s3 0
          have k1 := s3 1
          simp at k0 k1
          unfold RetF
          rw [HL.out QQ T (HTP.out) hq hTN]
          refine bodyPost_ret (v := .tuple #[.agg #[.bool false, .slice none 0 0], .int .i64 4]) ?_ rfl ?_
          · simp [results, Tryd.results21, go_sem, k0, k1]
          · exact retZE_zero 4 (below_set (below_set (b2.trans (h34.mono b2.size)) (by omega) _ _) (by omega) _ _)
        · go_wp2_with (first | (go_at_call 63; refine (HMQ.out _ (b2.trans (h3.mono b2.size)) _ _ hr3).mono ?_; rintro e w4 ⟨R4, c4, rfl, hr4, h4⟩; have h34 := h3.trans (h4.mono h3.size); have h14 := h1.trans ((hbl.trans (h34.mono hbl.size)).mono h1.size); obtain ⟨s1, s2, s3, s4, s5⟩ := box2_keep h14) | (go_at_call 63; refine HS1.mono ?_; rintro e w3 ⟨R3, c3, rfl, hr3, h3⟩; have h13 := h1.trans ((hbl.trans (h3.mono hbl.size)).mono h1.size); obtain ⟨r1, r2, r3, r4, r5⟩ := box2_keep h13))
          go_roundw
          case rel =>
            rw [← HTP.out, ← HTT.out] at *
            exact ⟨R4, c4, k - 1, rfl, val_i (by omega), by omega, by omega, hbl.trans (h34.mono hbl.size), hr4⟩
          case measure => simp [intOf]; omega

theorem Pow_neg (x : Int) (n : Int) (A : Option Addr) (c : Nat) (w : World) (ha : Mg w A c (limbs x.natAbs)) (fx : fits x) (hn : n < 0) (hn2 : -9223372036854775808 ≤ n) :
    Calls Tryd.prog 21 #[.agg #[.bool (decide ((x) < 0)), .slice A (limbs (Int.natAbs (x))).length c], .int .i64 n] w (RetZE w 0 1) := by
  have HX := hid fun (w1 : World) (h1 : Below w.heap.size w w1) => Valid_t (ha.below h1) fx
  clear ha fx
  generalize decide (x < 0) = bx at *
  generalize (limbs x.natAbs).length = lx at *
  go_enter Tryd.func21, Tryd.ntmps21
  go_wp2_with fail
  refine (HX.out _ (by repeat (first | assumption | exact Below.refl _ _ | refine Below.alloc ?_ (by simp; try omega) _ | refine Below.drew ?_ | refine below_drewN ?_ _))).mono ?_
  rintro e w1 ⟨rfl, h1⟩
  obtain ⟨p1, p2, p3, p4, p5⟩ := box2_keep h1
  have b1 : Below w.heap.size w w1 := Below.trans (b := _) (by repeat (first | assumption | exact Below.refl _ _ | refine Below.alloc ?_ (by simp; try omega) _ | refine Below.drew ?_ | refine below_drewN ?_ _)) (h1.mono (by simp; omega))
  have k0 := p3 0
  have k1 := p3 1
  simp at k0 k1
  go_wp2
  refine bodyPost_ret (v := .tuple #[.agg #[.bool false, .slice none 0 0], .int .i64 1]) ?_ rfl ?_
  · simp [results, Tryd.results21, go_sem, k0, k1]
  · exact retZE_zero 1 (below_set (below_set b1 (by omega) _ _) (by omega) _ _)

theorem Pow_bad (na : Bool) (xs : List Nat) (n : Int) (A : Option Addr) (c : Nat) (w : World) (ha : Mg w A c xs) (h : validB na xs = false) :
    Calls Tryd.prog 21 #[.agg #[.bool na, .slice A xs.length c], .int .i64 n] w (RetZE w 0 1) := by
  have HX := hid fun (w1 : World) (h1 : Below w.heap.size w w1) => Valid_f (ha.below h1) h
  clear ha h
  generalize xs.length = lx at *
  go_enter Tryd.func21, Tryd.ntmps21
  go_wp2_with fail
  refine (HX.out _ (by repeat (first | assumption | exact Below.refl _ _ | refine Below.alloc ?_ (by simp; try omega) _ | refine Below.drew ?_ | refine below_drewN ?_ _))).mono ?_
  rintro e w1 ⟨rfl, h1⟩
  obtain ⟨p1, p2, p3, p4, p5⟩ := box2_keep h1
  have b1 : Below w.heap.size w w1 := Below.trans (b := _) (by repeat (first | assumption | exact Below.refl _ _ | refine Below.alloc ?_ (by simp; try omega) _ | refine Below.drew ?_ | refine below_drewN ?_ _)) (h1.mono (by simp; omega))
  have k0 := p3 0
  have k1 := p3 1
  simp at k0 k1
  go_wp2
  refine bodyPost_ret (v := .tuple #[.agg #[.bool false, .slice none 0 0], .int .i64 1]) ?_ rfl ?_
  · simp [results, Tryd.results21, go_sem, k0, k1]
  · exact retZE_zero 1 (below_set (below_set b1 (by omega) _ _) (by omega) _ _)

end Go.Proofs.YtkfpcohdbbhmaaaDoor
