/- The reference: the walk of Digits. Conditions: none. -/
import Derived.Test.YtkfpcohdbbhmaaaDoorR13
namespace Go.Proofs.YtkfpcohdbbhmaaaDoor
set_option linter.unusedVariables false
set_option linter.unusedSimpArgs false
open Go.RowKit Big

theorem digs_len2 {b : Nat} (hb : 2 ≤ b) (k : Nat) : ∀ n, n < 2 ^ k → (digs b n).length ≤ k := by
  induction k with
  | zero => intro n h; simp at h; subst h; rw [digs_zero]; simp
  | succ k ih =>
    intro n h
    by_cases h0 : n = 0
    · subst h0; rw [digs_zero]; simp
    · rw [digs_pos hb h0, List.length_cons]
      have : n / b < 2 ^ k := by
        rw [Nat.div_lt_iff_lt_mul (by omega)]
        rw [Nat.pow_succ] at h
        exact Nat.lt_of_lt_of_le h (Nat.mul_le_mul_left _ hb)
      have := ih _ this
      omega
theorem digs_len_l {b n : Nat} (hb : 2 ≤ b) : (digs b n).length ≤ 32 * (limbs n).length := by
  apply digs_len2 hb
  have h := (limbs_len_iff n _).1 (Nat.le_refl _)
  rwa [two_pow_B] at h
theorem rev_drop {α : Type} {L : List α} {k : Nat} (hk : 0 < k) (h : k - 1 < L.length) : (L.drop (k - 1)).reverse = (L.drop k).reverse ++ [L[k - 1]] := by
  rw [List.drop_eq_getElem_cons h, show k - 1 + 1 = k by omega, List.reverse_cons]
theorem Mg.far {w : World} {A : Option Addr} {c : Nat} {xs : List Nat} (h : Mg w A c xs) (hl : 0 < xs.length) : ∀ p, A = some p → p.block < w.heap.size := by
  intro p hp
  obtain ⟨b, o, e, hB, _⟩ := h.rd hl
  rw [e] at hp
  injection hp with hp
  subst hp
  exact hB

set_option maxRecDepth 100000 in
set_option maxHeartbeats 2000000 in
theorem RDigits_ok (n b : Nat) (A : Option Addr) (c : Nat) (w : World) (ha : Mg w A c (limbs n)) (hf : (limbs n).length ≤ 512) (h2 : 2 ≤ b) (hb : b ≤ 65536) :
    Calls Tryd.prog 36 #[.agg #[.bool false, .slice A (limbs n).length c], .int .i64 b] w (RetIL w (dgE b n).1 (dgE b n).2) := by
  have HX := hid fun (w1 : World) (h1 : Below w.heap.size w w1) => by
    have h := RValid_t (z := (n : Int)) (ha.below h1) hf
    rw [show decide ((n : Int) < 0) = false by simp, Int.natAbs_natCast] at h
    exact h
  have HD := hid fun (w1 : World) (A1 : Option Addr) (c1 m : Nat) (h1 : Mg w1 A1 c1 (limbs m)) (hl : (limbs m).length ≤ 512) => (show Calls Tryd.prog 73 #[.slice A1 (limbs m).length c1, .int .u64 b] w1 (RetSF w1 (m / b) (m % b)) by
    have h := Rshort_fr A1 c1 (limbs m) b w1 h1 (by omega) (by omega) (by omega)
    rw [val_limbs] at h
    exact h)
  have HL := hid (show (digs b n).length ≤ 16384 from Nat.le_trans (digs_len_l h2) (by omega))
  obtain ⟨RR, hRR⟩ : ∃ RR, dgE b n = RR := ⟨_, rfl⟩
  rw [hRR]
  have H0 := hid (fun h : digs b n = [] => (show RR = ([0], 0) by
    rw [← hRR]
    have : n = 0 := by
      rcases Nat.eq_zero_or_pos n with h0 | h0
      · exact h0
      · exact absurd h (digs_ne h2 (by omega))
    simp [dgE, this]))
  have H1 := hid (fun (h : digs b n ≠ []) => (show RR = if (digs b n).length ≤ 4096 then ((digs b n).reverse, 0) else ([], 4) by
    rw [← hRR]
    have : n ≠ 0 := by rintro rfl; exact h (digs_zero b)
    simp [dgE, this]))
  clear hRR
  go_enter Tryd.func36, Tryd.ntmps36
  go_wp2_with fail
  refine (HX.out _ (by repeat (first | assumption | exact Below.refl _ _ | refine Below.alloc ?_ (by simp; try omega) _ | refine Below.drew ?_ | refine below_drewN ?_ _))).mono ?_
  rintro e w1 ⟨rfl, h1⟩
  obtain ⟨p1, p2, p3⟩ := box_keep h1
  have b1 : Below w.heap.size w w1 := Below.trans (b := _) (by repeat (first | assumption | exact Below.refl _ _ | refine Below.alloc ?_ (by simp; try omega) _ | refine Below.drew ?_ | refine below_drewN ?_ _)) (h1.mono (by simp))
  have ha1 := ha.below b1
  clear HX ha
  go_wp2_with fail
  go_loopg [6, 7] n (fun g s6 s7 wr => ∃ (v : Value) (L : List Nat) (R : Option Addr) (cc m : Nat), s6 = v ∧ wr.ownsRow w1.heap.size 3 1 v L.length (L.map dg) ∧ s7 = .slice R (limbs m).length cc ∧ Mg wr R cc (limbs m) ∧ (limbs m).length ≤ 512 ∧ Below w1.heap.size w1 wr ∧ Hid (g = m) ∧ Hid (digs b n = L ++ digs b m) ∧ Hid (0 < (limbs m).length → ∀ p, R = some p → some p.block ≠ v.ownBlock))
  case atStart => exact ⟨_, [], A, c, n, rfl, World.ownsRow_nil _ _ _ _, rfl, ha1, hf, Below.refl _ _, rfl, rfl, fun _ p _ => by simp [Value.ownBlock]⟩
  case round =>
    clear ha1
    obtain ⟨v, L, R, cc, m, rfl, hown, rfl, hr, hl, hbl, hg, hd, hne⟩ := hrel
    obtain ⟨Av, cv, rfl, hcv, hcm, hrd⟩ := own_rd hown
    have hb2 := b1.trans (hbl.mono b1.size)
    have hsz1 := hbl.size
    have hL : L.length ≤ 16384 := by have := HL.out; rw [hd.out] at this; simp at this; omega
    by_cases hm : m = 0
    · subst hm
      rw [limbs_zero] at *
      simp only [List.length_nil]
      have hLn : digs b n = L := by have := hd.out; rw [digs_zero, List.append_nil] at this; exact this
      rw [hLn] at H0 H1
      clear hr hne hg hd HD hLn
      obtain ⟨wo, rfl⟩ : ∃ wo : World, wo = wr := ⟨_, rfl⟩
      by_cases hL0 : L.length = 0
      · have hLe : L = [] := List.eq_nil_of_length_eq_zero hL0
        have hR := hid (H0.out hLe)
        subst hLe
        clear H0 H1 hrd hown
        go_wp2_with fail
        go_ret2
        rw [hR.out]
        exact ⟨_, 1, rfl, rd_one dg wo 0 _, hb2.alloc hb2.size _⟩
      · have hR := H1.out (fun h => hL0 (by rw [h]; rfl))
        have hl0 : ((L.length : Int) == 0) = false := by rw [beq_eq_false_iff_ne]; omega
        by_cases h4 : 4096 < L.length
        · rw [if_neg (by omega)] at hR
          have hR := hid hR
          clear H0 H1
          go_wp2_with fail
          go_ret2
          rw [hR.out]
          exact ⟨none, 0, rfl, Rd.nil _ _, hb2⟩
        · rw [if_pos (by omega)] at hR
          have hR := hid hR
          clear H0 H1 hown
          go_wp2_with fail
          go_loopw [10, 11] (fun s10 s11 wq => ∃ (k : Nat) (v : Value) (O : List Nat), k ≤ L.length ∧ s11 = .int .i64 ((k : Int) - 1) ∧ s10 = v ∧ wq.ownsRow wo.heap.size 3 1 v O.length (O.map dg) ∧ Below wo.heap.size wo wq ∧ Hid (O = (L.drop k).reverse)) (fun _ s11 _ => (intOf s11 + 1).toNat)
          case atStart => exact ⟨L.length, _, [], Nat.le_refl _, rfl, rfl, World.ownsRow_nil _ _ _ _, Below.refl _ _, by unfold Hid; simp⟩
          case round =>
            obtain ⟨k, v, O, hk, rfl, rfl, howo, hbo, hO⟩ := hrel
            have hOl : O.length = L.length - k := by rw [hO.out]; simp
            have hsz2 := hbo.size
            by_cases hk0 : 0 < k
            · have hk1 : k - 1 < L.length := by omega
              obtain ⟨bk, o, rfl, hbk, hc⟩ := hrd.at_ hk1
              have c1 := (hbo.cell (p := ⟨bk, o + (k - 1), none⟩) hbk).trans (hc (k - 1) hk1)
              unfold dg at c1
              clear hc
              have hO2 := hid (rev_drop hk0 hk1)
              rw [← hO.out] at hO2
              generalize L[k - 1] = x at *
              go_wp2_with (at_builtin; refine wpList_app rfl (.tmp 59) (.tmp 64) 42 rfl 3 (.int .i64 0) 8 Tryd.underlying42 infoI rfl wo.heap.size dg (fun _ => rfl) _ O rfl (own_below howo ((Below.refl _ _).alloc (Nat.le_refl _) (.cells #[.int .i64 (x : Int)] 3))) _ 1 [x] rfl (rd_one dg _ x 3) (by simp; omega) (by simp; omega) (by simp; omega) ?_; intro v5 w5 hown5 hgr hwh)
              have hb5 := below_app (own_below howo ((Below.refl _ _).alloc (Nat.le_refl _) (.cells #[.int .i64 (x : Int)] 3))) hgr (by simp; omega)
              go_roundw
              case rel => exact ⟨k - 1, v5, O ++ [x], by omega, by go_num, rfl, hown5, (hbo.alloc hbo.size _).trans hb5, hO2.out.symm⟩
              case measure => simp [intOf]; omega
            · obtain rfl : k = 0 := by omega
              obtain ⟨Ao, co, rfl, hco, hcm2, hrdo⟩ := own_rd howo
              have hOr : O = L.reverse := by rw [hO.out]; simp
              subst hOr
              go_wp2_with fail
              go_ret2
              rw [hR.out]
              exact ⟨Ao, co, rfl, hrdo, hb2.trans (hbo.mono hb2.size)⟩
    · have hl1 : 0 < (limbs m).length := by rw [limbs_pos hm]; simp
      have hdm := digs_pos h2 hm
      have HC := HD.out wr R cc m hr hl
      have hmod := Nat.mod_lt m (show 0 < b by omega)
      have hdl := Nat.div_le_self m b
      have hdlt := Nat.div_lt_self (show 0 < m by omega) (show 1 < b by omega)
      have hql := Nat.le_trans (limbs_mono hdl) hl
      have HH := hid hdm
      clear hdm HD
      generalize m % b = r at *
      generalize m / b = q at *
      have HC := hid HC
      go_wp2_with (first | (go_at_call 73; refine HC.out.mono ?_; rintro e w3 ⟨A3, c3, rfl, hr3, h3, hf3⟩; have hown3 := own_below (own_below hown h3) ((Below.refl _ _).alloc (Nat.le_refl _) (.cells #[.int .i64 (r : Int)] 3)); have hsz3 := h3.size) | (at_builtin; refine wpList_app rfl (.tmp 39) (.tmp 42) 42 rfl 3 (.int .i64 0) 8 Tryd.underlying42 infoI rfl w1.heap.size dg (fun _ => rfl) _ L rfl hown3 _ 1 [r] rfl (rd_one dg w3 r 3) (by simp; omega) (by simp; omega) (by simp; omega) ?_; intro v5 w5 hown5 hgr hwh))
      have hb5 := below_app hown3 hgr (by simp; omega)
      go_roundg q
      case rel => exact ⟨v5, L ++ [r], A3, c3, q, rfl, hown5, rfl, (hr3.below ((Below.refl _ _).alloc (Nat.le_refl _) _)).grown hgr (fun _ p hp => own_ne hown (hf3.out p hp)), hql, (hbl.trans ((h3.mono hbl.size).alloc (by omega) _)).trans hb5, rfl, by unfold Hid; rw [hd.out, HH.out]; simp, fun hpos p hp => by
        have hlt := hr3.far hpos p hp
        rcases hwh with h | h
        · rw [h]; exact own_ne hown (hf3.out p hp)
        · rw [h]; simp; omega⟩
      case measure => rw [hg.out]; exact hdlt

theorem RDigits_bad1 (na : Bool) (xs : List Nat) (b : Int) (A : Option Addr) (c : Nat) (w : World) (ha : Mg w A c xs) (h : validB na xs = false) :
    Calls Tryd.prog 36 #[.agg #[.bool na, .slice A xs.length c], .int .i64 b] w (RetIL w [] 1) := by
  have HX := hid fun (w1 : World) (h1 : Below w.heap.size w w1) => RValid_f (ha.below h1) h
  clear ha h
  generalize xs.length = lx at *
  go_enter Tryd.func36, Tryd.ntmps36
  go_wp2_with fail
  refine (HX.out _ (by repeat (first | assumption | exact Below.refl _ _ | refine Below.alloc ?_ (by simp; try omega) _ | refine Below.drew ?_ | refine below_drewN ?_ _))).mono ?_
  rintro e w1 ⟨rfl, h1⟩
  have b1 : Below w.heap.size w w1 := Below.trans (b := _) (by repeat (first | assumption | exact Below.refl _ _ | refine Below.alloc ?_ (by simp; try omega) _ | refine Below.drew ?_ | refine below_drewN ?_ _)) (h1.mono (by simp))
  go_wp2
  go_ret2
  exact ⟨none, 0, rfl, Rd.nil _ _, b1⟩

theorem RDigits_bad2 (x : Int) (b : Int) (A : Option Addr) (c : Nat) (w : World) (ha : Mg w A c (limbs x.natAbs)) (fx : fits x) (h : x < 0 ∨ b < 2 ∨ 65536 < b) :
    Calls Tryd.prog 36 #[.agg #[.bool (decide ((x) < 0)), .slice A (limbs (Int.natAbs (x))).length c], .int .i64 b] w (RetIL w [] 1) := by
  have HX := hid fun (w1 : World) (h1 : Below w.heap.size w w1) => RValid_t (ha.below h1) fx
  by_cases hx : x < 0
  · have ex : decide (x < 0) = true := by simpa using hx
    rw [ex] at HX ⊢
    clear ha fx ex hx h
    generalize (limbs x.natAbs).length = lx at *
    go_enter Tryd.func36, Tryd.ntmps36
    go_wp2_with fail
    refine (HX.out _ (by repeat (first | assumption | exact Below.refl _ _ | refine Below.alloc ?_ (by simp; try omega) _ | refine Below.drew ?_ | refine below_drewN ?_ _))).mono ?_
    rintro e w1 ⟨rfl, h1⟩
    obtain ⟨p1, p2, p3⟩ := box_keep h1
    have b1 : Below w.heap.size w w1 := Below.trans (b := _) (by repeat (first | assumption | exact Below.refl _ _ | refine Below.alloc ?_ (by simp; try omega) _ | refine Below.drew ?_ | refine below_drewN ?_ _)) (h1.mono (by simp))
    go_wp2
    go_ret2
    exact ⟨none, 0, rfl, Rd.nil _ _, b1⟩
  · have ex : decide (x < 0) = false := by simpa using hx
    have hb : b < 2 ∨ 65536 < b := by omega
    rw [ex] at HX ⊢
    clear ha fx ex hx h
    generalize (limbs x.natAbs).length = lx at *
    rcases hb with hb | hb
    all_goals
      go_enter Tryd.func36, Tryd.ntmps36
      go_wp2_with fail
      refine (HX.out _ (by repeat (first | assumption | exact Below.refl _ _ | refine Below.alloc ?_ (by simp; try omega) _ | refine Below.drew ?_ | refine below_drewN ?_ _))).mono ?_
      rintro e w1 ⟨rfl, h1⟩
      obtain ⟨p1, p2, p3⟩ := box_keep h1
      have b1 : Below w.heap.size w w1 := Below.trans (b := _) (by repeat (first | assumption | exact Below.refl _ _ | refine Below.alloc ?_ (by simp; try omega) _ | refine Below.drew ?_ | refine below_drewN ?_ _)) (h1.mono (by simp))
      go_wp2
      go_ret2
      exact ⟨none, 0, rfl, Rd.nil _ _, b1⟩
end Go.Proofs.YtkfpcohdbbhmaaaDoor
