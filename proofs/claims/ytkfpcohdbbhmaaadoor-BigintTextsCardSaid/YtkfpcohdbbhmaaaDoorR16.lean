/- The reference: the walk of Format. Conditions: none. -/
import Derived.Test.YtkfpcohdbbhmaaaDoorR14
import Derived.Test.YtkfpcohdbbhmaaaDoorBi27
import Derived.Laws.IdiomStrings
namespace Go.Proofs.YtkfpcohdbbhmaaaDoor
set_option linter.unusedVariables false
set_option linter.unusedSimpArgs false
open Go.RowKit Big

def bt (x : UInt8) : Value := .int .u8 (x.toNat : Int)
theorem info8 : (Tryd.prog.info? 5).map (fun i => (i.zero, i.size, i.bytes)) = some (some (.int .u8 0), 1, 1) := by kernel_rfl
theorem ch_toNat {d : Nat} (h : d < 10) : (ch d).toNat = 48 + d := by
  unfold ch
  rw [UInt8.toNat_ofNat']
  omega

theorem RFormat_bad (na : Bool) (xs : List Nat) (A : Option Addr) (c : Nat) (w : World) (ha : Mg w A c xs) (h : validB na xs = false) :
    Calls Tryd.prog 26 #[.agg #[.bool na, .slice A xs.length c]] w (RetS w []) := by
  have HX := hid fun (w1 : World) (h1 : Below w.heap.size w w1) => RValid_f (ha.below h1) h
  clear ha h
  generalize xs.length = lx at *
  go_enter Tryd.func26, Tryd.ntmps26
  go_wp2_with fail
  refine (HX.out _ (by repeat (first | assumption | exact Below.refl _ _ | refine Below.alloc ?_ (by simp; try omega) _ | refine Below.drew ?_ | refine below_drewN ?_ _))).mono ?_
  rintro e w1 ⟨rfl, h1⟩
  have b1 : Below w.heap.size w w1 := Below.trans (b := _) (by repeat (first | assumption | exact Below.refl _ _ | refine Below.alloc ?_ (by simp; try omega) _ | refine Below.drew ?_ | refine below_drewN ?_ _)) (h1.mono (by simp))
  go_wp2
  go_ret
  exact ⟨rfl, b1⟩

set_option maxRecDepth 100000 in
set_option maxHeartbeats 2000000 in
theorem RFormat_ok (x : Int) (A : Option Addr) (c : Nat) (w : World) (ha : Mg w A c (limbs x.natAbs)) (fx : fits x) :
    Calls Tryd.prog 26 #[.agg #[.bool (decide ((x) < 0)), .slice A (limbs (Int.natAbs (x))).length c]] w (RetS w (fmtZ x)) := by
  have HX := hid fun (w1 : World) (h1 : Below w.heap.size w w1) => RValid_t (ha.below h1) fx
  have HD := hid fun (w1 : World) (A1 : Option Addr) (c1 m : Nat) (h1 : Mg w1 A1 c1 (limbs m)) (hl : (limbs m).length ≤ 512) => (show Calls Tryd.prog 73 #[.slice A1 (limbs m).length c1, .int .u64 10] w1 (RetSF w1 (m / 10) (m % 10)) by
    have h := Rshort_fr A1 c1 (limbs m) 10 w1 h1 (by omega) (by omega) (by omega)
    rw [val_limbs] at h
    exact h)
  have hf : (limbs x.natAbs).length ≤ 512 := fx
  have HL := hid (show (digs 10 x.natAbs).length ≤ 16384 from Nat.le_trans (digs_len_l (by omega)) (by omega))
  obtain ⟨RR, hRR⟩ : ∃ RR, fmtZ x = RR := ⟨_, rfl⟩
  rw [hRR]
  have HF0 := hid (fun h : x = 0 => (show RR = [48] by rw [← hRR, h]; decide +kernel))
  have HF := hid (fun h : x.natAbs ≠ 0 => (show RR = if decide (x < 0) = true then 45 :: ((digs 10 x.natAbs).map ch).reverse else ((digs 10 x.natAbs).map ch).reverse by
    rw [← hRR, ← List.map_reverse]
    unfold fmtZ
    rw [dec_digs _ h]
    by_cases hx : x < 0 <;> simp [hx]))
  have hx0 : x.natAbs = 0 → x = 0 := by omega
  clear hRR fx
  generalize hbx : decide (x < 0) = bx at *
  generalize x.natAbs = n at *
  clear hbx
  go_enter Tryd.func26, Tryd.ntmps26
  go_wp2_with fail
  refine (HX.out _ (by repeat (first | assumption | exact Below.refl _ _ | refine Below.alloc ?_ (by simp; try omega) _ | refine Below.drew ?_ | refine below_drewN ?_ _))).mono ?_
  rintro e w1 ⟨rfl, h1⟩
  obtain ⟨p1, p2, p3⟩ := box_keep h1
  have b1 : Below w.heap.size w w1 := Below.trans (b := _) (by repeat (first | assumption | exact Below.refl _ _ | refine Below.alloc ?_ (by simp; try omega) _ | refine Below.drew ?_ | refine below_drewN ?_ _)) (h1.mono (by simp))
  have ha1 := ha.below b1
  clear HX ha
  go_wp2_with fail
  go_loopg [3, 4] n (fun g s3 s4 wr => ∃ (v : Value) (B : List UInt8) (R : Option Addr) (cc m : Nat), s3 = v ∧ wr.ownsRow w1.heap.size 5 1 v B.length (B.map bt) ∧ s4 = .slice R (limbs m).length cc ∧ Mg wr R cc (limbs m) ∧ (limbs m).length ≤ 512 ∧ Below w1.heap.size w1 wr ∧ Hid (g = m) ∧ Hid ((digs 10 n).map ch = B ++ (digs 10 m).map ch) ∧ Hid (0 < (limbs m).length → ∀ p, R = some p → some p.block ≠ v.ownBlock))
  case atStart => exact ⟨_, [], A, c, n, rfl, World.ownsRow_nil _ _ _ _, rfl, ha1, hf, Below.refl _ _, rfl, rfl, fun _ p _ => by simp [Value.ownBlock]⟩
  case round =>
    clear ha1
    obtain ⟨v, B, R, cc, m, rfl, hown, rfl, hr, hl, hbl, hg, hd, hne⟩ := hrel
    obtain ⟨Av, cv, rfl, hcv, hcm, hrd⟩ := own_rd hown
    obtain ⟨q1, q2, q3⟩ := box_keep (h1.trans (hbl.mono h1.size))
    have k0 := q1 0
    simp at k0
    have hb2 := b1.trans (hbl.mono b1.size)
    have hsz1 := hbl.size
    have hB : B.length ≤ 16384 := by have := congrArg List.length hd.out; have h2 := HL.out; simp at this; omega
    by_cases hm : m = 0
    · subst hm
      rw [limbs_zero] at *
      simp only [List.length_nil]
      have hLn : (digs 10 n).map ch = B := by have := hd.out; rw [digs_zero, List.map_nil, List.append_nil] at this; exact this
      rw [hLn] at HF
      have HBn := hid (congrArg List.length hLn)
      clear hr hne hg hd HD hLn
      obtain ⟨wo, rfl⟩ : ∃ wo : World, wo = wr := ⟨_, rfl⟩
      by_cases hB0 : B.length = 0
      · have hn0 : n = 0 := by
          have := HBn.out
          rcases Nat.eq_zero_or_pos n with h | h
          · exact h
          · have := digs_ne (b := 10) (n := n) (by omega) (by omega)
            rw [List.length_map, hB0] at *
            exact absurd (List.eq_nil_of_length_eq_zero (by assumption)) this
        have hR := hid (HF0.out (hx0 hn0))
        rw [hB0]
        clear HF HF0 hrd hown
        go_wp2_with fail
        go_ret
        rw [hR.out]
        exact ⟨rfl, hb2⟩
      · have hn0 : n ≠ 0 := by
          rintro rfl
          have := HBn.out
          rw [digs_zero] at this
          exact hB0 this.symm
        have hl0 : ((B.length : Int) == 0) = false := by rw [beq_eq_false_iff_ne]; omega
        have hR := HF.out hn0
        clear HF HF0 HBn
        cases bx
        · have HRR := hid (show RR = B.reverse by rw [hR, if_neg (by decide)])
          clear hR
          go_wp2_with fail
          go_loopw [7, 8] (fun s7 s8 wq => ∃ (k : Nat) (v : Value) (O : List UInt8), k ≤ B.length ∧ s8 = .int .i64 ((k : Int) - 1) ∧ s7 = v ∧ wq.ownsRow wo.heap.size 5 1 v O.length (O.map bt) ∧ Below wo.heap.size wo wq ∧ Hid (O = (B.drop k).reverse)) (fun _ s8 _ => (intOf s8 + 1).toNat)
          case atStart => exact ⟨B.length, _, [], Nat.le_refl _, by first | rfl | (simp; done), rfl, World.ownsRow_nil _ _ _ _, Below.refl _ _, by unfold Hid; simp⟩
          case round =>
            obtain ⟨k, v, O, hk, rfl, rfl, howo, hbo, hO⟩ := hrel
            have hOl : O.length = B.length - k := by rw [hO.out]; simp
            have hsz2 := hbo.size
            by_cases hk0 : 0 < k
            · have hk1 : k - 1 < B.length := by omega
              obtain ⟨bk, o, rfl, hbk, hc⟩ := (hrd).at_ hk1
              have c1 := (hbo.cell (p := ⟨bk, o + (k - 1), none⟩) hbk).trans (hc (k - 1) hk1)
              unfold bt at c1
              clear hc
              have hO2 := hid (rev_drop hk0 hk1)
              rw [← hO.out] at hO2
              generalize (B)[k - 1] = x at *
              go_wp2_with (at_builtin; refine wpList_app rfl (.tmp 44) (.tmp 49) 69 rfl 5 (.int .u8 0) 1 Tryd.underlying69 info8 rfl wo.heap.size bt (fun _ => rfl) _ O rfl (own_below howo ((Below.refl _ _).alloc (Nat.le_refl _) (.cells #[.int .u8 (x.toNat : Int)] 5))) _ 1 [x] rfl (rd_one bt _ x 5) (by simp; omega) (by simp; omega) (by simp; omega) ?_; intro v5 w5 hown5 hgr hwh)
              have hb5 := below_app (own_below howo ((Below.refl _ _).alloc (Nat.le_refl _) (.cells #[.int .u8 (x.toNat : Int)] 5))) hgr (by simp; omega)
              go_roundw
              case rel => exact ⟨k - 1, v5, O ++ [x], by omega, by go_num, rfl, hown5, (hbo.alloc hbo.size _).trans hb5, hO2.out.symm⟩
              case measure => simp [intOf]; omega
            · obtain rfl : k = 0 := by omega
              obtain ⟨Ao, co, rfl, hco, hcm2, hrdo⟩ := own_rd howo
              have hOr : O = (B).reverse := by rw [hO.out]; simp
              have hO0 : 0 < O.length := by omega
              obtain ⟨bg, og, rfl, hbg, hcg⟩ := hrdo.at_ hO0
              have hcv := run_convert_bytes_back (P := Tryd.prog) wr 69 9 5 ⟨bg, og, none⟩ co O Tryd.underlying69 Tryd.underlying5 Tryd.underlying9 (fun j hj => by rw [show (⟨bg, og, none⟩ : Addr).add j = ⟨bg, og + j, none⟩ by unfold Addr.add; split <;> simp_all]; exact hcg j hj)
              have HOr := hid hOr
              clear hcg hrdo howo hOr hOl hO0
              go_wp2_with fail
              go_ret
              exact ⟨by rw [HRR.out, HOr.out]; rfl, hb2.trans (hbo.mono hb2.size)⟩
        · have HRR := hid (show RR = (B ++ [45]).reverse by rw [hR, if_pos rfl]; simp)
          clear hR
          have hown3 := own_below hown ((Below.refl _ _).alloc (Nat.le_refl _) (.cells #[.int .u8 45] 5))
          go_wp2_with (at_builtin; refine wpList_app rfl (.tmp 34) (.tmp 35) 69 rfl 5 (.int .u8 0) 1 Tryd.underlying69 info8 rfl w1.heap.size bt (fun _ => rfl) _ B rfl hown3 _ 1 [45] rfl (by exact rd_one bt wo 45 5) (by simp; omega) (by simp; omega) (by simp; omega) ?_; intro v9 w9 hown9 hgr9 hwh9; have hB9 : (B ++ [45]).length ≤ 16385 := (by simp; omega); have hB9p : 0 < (B ++ [45]).length := (by simp); obtain ⟨A9, c9, rfl, hc9, hm9, hrd9⟩ := own_rd hown9; generalize B ++ [45] = B9 at *)
          have hb9 := (hbl.alloc hbl.size _).trans (below_app hown3 hgr9 (by simp; omega))
          have hb2 := b1.trans (hb9.mono b1.size)
          go_loopw [7, 8] (fun s7 s8 wq => ∃ (k : Nat) (v : Value) (O : List UInt8), k ≤ B9.length ∧ s8 = .int .i64 ((k : Int) - 1) ∧ s7 = v ∧ wq.ownsRow w9.heap.size 5 1 v O.length (O.map bt) ∧ Below w9.heap.size w9 wq ∧ Hid (O = (B9.drop k).reverse)) (fun _ s8 _ => (intOf s8 + 1).toNat)
          case atStart => exact ⟨B9.length, _, [], Nat.le_refl _, by first | rfl | (simp; done), rfl, World.ownsRow_nil _ _ _ _, Below.refl _ _, by unfold Hid; simp⟩
          case round =>
            obtain ⟨k, v, O, hk, rfl, rfl, howo, hbo, hO⟩ := hrel
            have hOl : O.length = B9.length - k := by rw [hO.out]; simp
            have hsz2 := hbo.size
            by_cases hk0 : 0 < k
            · have hk1 : k - 1 < B9.length := by omega
              obtain ⟨bk, o, rfl, hbk, hc⟩ := (hrd9).at_ hk1
              have c1 := (hbo.cell (p := ⟨bk, o + (k - 1), none⟩) hbk).trans (hc (k - 1) hk1)
              unfold bt at c1
              clear hc
              have hO2 := hid (rev_drop hk0 hk1)
              rw [← hO.out] at hO2
              generalize (B9)[k - 1] = x at *
              go_wp2_with (at_builtin; refine wpList_app rfl (.tmp 44) (.tmp 49) 69 rfl 5 (.int .u8 0) 1 Tryd.underlying69 info8 rfl w9.heap.size bt (fun _ => rfl) _ O rfl (own_below howo ((Below.refl _ _).alloc (Nat.le_refl _) (.cells #[.int .u8 (x.toNat : Int)] 5))) _ 1 [x] rfl (rd_one bt _ x 5) (by simp; omega) (by simp; omega) (by simp; omega) ?_; intro v5 w5 hown5 hgr hwh)
              have hb5 := below_app (own_below howo ((Below.refl _ _).alloc (Nat.le_refl _) (.cells #[.int .u8 (x.toNat : Int)] 5))) hgr (by simp; omega)
              go_roundw
              case rel => exact ⟨k - 1, v5, O ++ [x], by omega, by go_num, rfl, hown5, (hbo.alloc hbo.size _).trans hb5, hO2.out.symm⟩
              case measure => simp [intOf]; omega
            · obtain rfl : k = 0 := by omega
              obtain ⟨Ao, co, rfl, hco, hcm2, hrdo⟩ := own_rd howo
              have hOr : O = (B9).reverse := by rw [hO.out]; simp
              have hO0 : 0 < O.length := by omega
              obtain ⟨bg, og, rfl, hbg, hcg⟩ := hrdo.at_ hO0
              have hcv := run_convert_bytes_back (P := Tryd.prog) wr 69 9 5 ⟨bg, og, none⟩ co O Tryd.underlying69 Tryd.underlying5 Tryd.underlying9 (fun j hj => by rw [show (⟨bg, og, none⟩ : Addr).add j = ⟨bg, og + j, none⟩ by unfold Addr.add; split <;> simp_all]; exact hcg j hj)
              have HOr := hid hOr
              clear hcg hrdo howo hOr hOl hO0
              go_wp2_with fail
              go_ret
              exact ⟨by rw [HRR.out, HOr.out]; rfl, hb2.trans (hbo.mono hb2.size)⟩
    · have hl1 : 0 < (limbs m).length := by rw [limbs_pos hm]; simp
      have hdm := digs_pos (b := 10) (by omega) hm
      have HC := HD.out wr R cc m hr hl
      have hmod := Nat.mod_lt m (show 0 < 10 by omega)
      have hdl := Nat.div_le_self m 10
      have hdlt := Nat.div_lt_self (show 0 < m by omega) (show 1 < 10 by omega)
      have hql := Nat.le_trans (limbs_mono hdl) hl
      have HH := hid hdm
      clear hdm HD
      generalize m % 10 = r at *
      generalize m / 10 = q at *
      have HC := hid HC
      obtain ⟨y, hy⟩ : ∃ y, ch r = y := ⟨_, rfl⟩
      have hy1 : (48 : Int) + (r : Int) = ((y.toNat : Nat) : Int) := by rw [← hy, ch_toNat hmod]; simp
      have hy2 : y.toNat < 256 := by rw [← hy, ch_toNat hmod]; omega
      have HY := hid hy
      clear hy
      go_wp2_with (first | (go_at_call 73; refine HC.out.mono ?_; rintro e w3 ⟨A3, c3, rfl, hr3, h3, hf3⟩; have hown3 := own_below (own_below hown h3) ((Below.refl _ _).alloc (Nat.le_refl _) (.cells #[.int .u8 (y.toNat : Int)] 5)); have hsz3 := h3.size) | (at_builtin; refine wpList_app rfl (.tmp 22) (.tmp 26) 69 rfl 5 (.int .u8 0) 1 Tryd.underlying69 info8 rfl w1.heap.size bt (fun _ => rfl) _ B rfl hown3 _ 1 [y] rfl (rd_one bt w3 y 5) (by simp; omega) (by simp; omega) (by simp; omega) ?_; intro v5 w5 hown5 hgr hwh))
      have hb5 := below_app hown3 hgr (by simp; omega)
      go_roundg q
      case rel => exact ⟨v5, B ++ [y], A3, c3, q, rfl, hown5, rfl, (hr3.below ((Below.refl _ _).alloc (Nat.le_refl _) _)).grown hgr (fun _ p hp => own_ne hown (hf3.out p hp)), hql, (hbl.trans ((h3.mono hbl.size).alloc (by omega) _)).trans hb5, rfl, by unfold Hid; rw [hd.out, HH.out, List.map_cons, HY.out]; simp, fun hpos p hp => by
        have hlt := hr3.far hpos p hp
        rcases hwh with h | h
        · rw [h]; exact own_ne hown (hf3.out p hp)
        · rw [h]; simp; omega⟩
      case measure => rw [hg.out]; exact hdlt
end Go.Proofs.YtkfpcohdbbhmaaaDoor
