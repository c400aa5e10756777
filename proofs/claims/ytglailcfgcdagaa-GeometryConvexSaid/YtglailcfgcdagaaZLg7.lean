/- Geometry: the law Convex. Conditions: none. -/
import Derived.Test.YtglailcfgcdagaaZGc5
import Derived.Test.YtglailcfgcdagaaZGa1
set_option linter.unusedVariables false
set_option linter.unusedSimpArgs false
namespace Go.Proofs.Ytglailcfgcdagaa
open Go.RowKit Big
theorem turn_nums {t : Int} {n : Nat} (hn : 0 < n) (hn2 : n ≤ 60) : ∃ (r s : Int) (k : Nat), t.tmod n = r ∧ r + n = s ∧ s.tmod n = (k : Int) ∧ k < n ∧ IntKind.i64.wrap r = r ∧ IntKind.i64.wrap s = s ∧ IntKind.i64.wrap (k : Int) = (k : Int) := by
 have h1 : (t.tmod n).natAbs < n := by
  rw [Int.natAbs_tmod]
  exact Nat.mod_lt _ (by omega)
 obtain ⟨k, hk⟩ : ∃ k : Nat, (t.tmod n + n).tmod n = (k : Int) := by
  rw [Int.tmod_eq_emod_of_nonneg (by omega)]
  exact ⟨((t.tmod n + n) % n).toNat, by rw [Int.toNat_of_nonneg (Int.emod_nonneg _ (by omega))]⟩
 have h2 : (k : Int) < n := by
  rw [← hk, Int.tmod_eq_emod_of_nonneg (by omega)]
  exact Int.emod_lt_of_pos _ (by omega)
 refine ⟨_, _, k, rfl, rfl, hk, by omega, ?_, ?_, ?_⟩ <;> (rw [IntKind.wrap_i64]; omega)
set_option maxRecDepth 100000 in
set_option maxHeartbeats 8000000 in
theorem Convex_law (l : List (Int × Int)) (A : Option Addr) (c : Nat) {w : World} (hl : Pb w A c l) (tn : Int) (htn : i64B tn) : Calls Try.prog 9 #[.slice A l.length c, .int .i64 tn] w (RetB w true) := by
 obtain ⟨n, hn⟩ : ∃ n, l.length = n := ⟨_, rfl⟩
 obtain ⟨⟨H, e1⟩, hE⟩ : ∃ E, hullE l = E := ⟨_, rfl⟩
 have H0 := hid fun (W : World) => alive_ok W
 have H1 := hid fun (W : World) (hb : Below w.heap.size w W) => (show Calls Try.prog 20 #[.slice A n c] W (RetRE W (H, e1)) from by rw [← hn, ← hE]; exact GHull_g l A c (hl.below hb))
 have HC := hid fun (h : e1 = 0) => (show CvxF l H ∧ l ≠ [] from by
  unfold hullE at hE
  by_cases c0 : chkP l = 0
  ·rw [if_pos c0] at hE
   by_cases c1 : l.length = 0
   ·rw [if_pos c1] at hE; injection hE with _ h2; omega
   ·rw [if_neg c1] at hE
    injection hE with h2 _
    have h0 : l ≠ [] := fun e => c1 (by rw [e]; rfl)
    exact ⟨h2 ▸ cvx_facts c0 h0, h0⟩
  ·rw [if_neg c0] at hE; injection hE with _ h2; omega)
 have HN := hid fun (h : ¬ e1 = 0) => (show H = [] from by
  unfold hullE at hE
  by_cases c0 : chkP l = 0
  ·rw [if_pos c0] at hE
   by_cases c1 : l.length = 0
   ·rw [if_pos c1] at hE; injection hE with h2 _; exact h2.symm
   ·rw [if_neg c1] at hE; injection hE with _ h2; omega
  ·rw [if_neg c0] at hE; injection hE with h2 _; exact h2.symm)
 have HL := hid hl
 have hcc := hl.cap
 have hcm := hl.max
 rw [hn] at hcc ⊢
 clear hl hE
 have hnH := hid hn
 have HB := Below.refl w.heap.size w
 go_enter Try.func9, Try.ntmps9
 by_cases h60 : 60 < n
 ·have h60i : (60 : Int) < (n : Int) := by omega
  clear H1 HC HN HL hn
  go_wp2_with fail
  refine (H0.out _).mono ?_
  rintro e w9 ⟨rfl, hv⟩
  replace HB := bel_step HB hv
  clear hv
  go_wp2
  go_ret
  exact ⟨rfl, HB⟩
 ·have h60i : ¬ (60 : Int) < (n : Int) := by omega
  go_wp2_with fail
  refine (H1.out _ HB).mono ?_
  rintro e w1 ⟨v1, rfl, hO1, hv⟩
  obtain ⟨A1, c1, rfl, P1, _⟩ := OwnP.form hO1
  dsimp only at P1 ⊢
  replace HB := bel_step HB hv
  clear hO1 H1 hv
  by_cases he : e1 = 0
  ·obtain ⟨F, h0⟩ := HC.out he
   subst he
   have hn0 : 0 < n := by rw [← hn]; exact List.length_pos_iff.2 h0
   obtain ⟨r, s, k, f1, f2, f3, f4, k1, k2, k3⟩ := turn_nums (t := tn) hn0 (by omega)
   have FH := hid F
   obtain ⟨m, hm⟩ : ∃ m, H.length = m := ⟨_, rfl⟩
   have hmp : 0 < m := by rw [← hm]; exact F.len.1
   have hmn : m ≤ n := by rw [← hm, ← hn]; exact F.len.2
   rw [hm]
   have hmH := hid hm
   have hnz : ¬ (n : Int) = 0 := by omega
   have hnz2 : ¬ n = 0 := by omega
   have hM := hid fun (j : Nat) (hj : j < l.length) (W : World) (hb : Below w.heap.size w W) => (HL.out.below hb).at_ (k := j) hj
   obtain ⟨O, hO⟩ : ∃ O, othP l k = O := ⟨_, rfl⟩
   have hOl : O.length = n := by rw [← hO, oth_len, hn]
   have hOE := hid (show hullE O = (H, 0) by rw [← hO]; exact F.oth k (by omega))
   have hOa := hid fun (i j : Nat) (hi : i < l.length) (hj : (k + n - i) % n = j) (h2 : j < l.length) (h3 : i < O.length) => (show O[i] = l[j] by
    subst hO; exact oth_at hi (by rw [hn]; exact hj) h2)
   clear hO HN HC F hm hn h0
   replace hOl := hid hOl
   obtain ⟨w0, hw0⟩ : ∃ w0, w0 = w1 := ⟨_, rfl⟩
   subst hw0
   have hO0 : OwnP w0 w0.heap.size (.slice none 0 0) (O.take 0) := OwnP.nil _ _
   go_wp2
   go_loopw [51, 9, 8] (fun s51 s9 s8 wr => ∃ i : Nat, s51 = .int .i64 i ∧ i ≤ n ∧ OwnP wr w0.heap.size s8 (O.take i) ∧ Below w0.heap.size w0 wr) (fun s51 _ _ _ => n - (intOf s51).toNat)
   case atStart => exact ⟨0, rfl, by omega, hO0, Below.refl _ _⟩
   case round =>
    obtain ⟨i, rfl, hi, hO2, hb⟩ := hrel
    clear hO0
    by_cases hin : i < n
    ·have hii : (i : Int) < (n : Int) := by omega
     obtain ⟨j, hj⟩ : ∃ j, (k + n - i) % n = j := ⟨_, rfl⟩
     have hjn : j < n := by rw [← hj]; exact Nat.mod_lt _ (by omega)
     have hjl : j < l.length := by have := hnH.out; omega
     obtain ⟨b, o, hA1, c0, c1'⟩ := hM.out j hjl wr (bel_step HB hb)
     subst hA1
     have hq := hid (hOa.out i j (by have := hnH.out; omega) hj (by have := hnH.out; omega) (by have := hOl.out; omega))
     have hOi : i < O.length := by have := hOl.out; omega
     have hnx := hid (List.take_succ_eq_append_getElem hOi)
     rw [hq.out] at hnx
     have hlen : (O.take i).length ≤ 1000000 := by simp; omega
     generalize l[j] = q at *
     obtain ⟨x, y⟩ := q
     dsimp only at c0 c1'
     have a1 : (k : Int) + (n : Int) - (i : Int) = ((k + n - i : Nat) : Int) := by omega
     have a2 : IntKind.i64.wrap ((k : Int) + (n : Int)) = (k : Int) + (n : Int) := by rw [IntKind.wrap_i64]; omega
     have a3 : IntKind.i64.wrap ((k + n - i : Nat) : Int) = ((k + n - i : Nat) : Int) := by rw [IntKind.wrap_i64]; omega
     have a4 : Int.tmod ((k + n - i : Nat) : Int) (n : Int) = (j : Int) := by rw [← hj, Int.tmod_eq_emod_of_nonneg (by omega)]; push_cast; rfl
     have a5 : IntKind.i64.wrap (j : Int) = (j : Int) := by rw [IntKind.wrap_i64]; omega
     have a6 : (j : Int) < (n : Int) := by omega
     obtain ⟨kn, hkn⟩ : ∃ q, k + n - i = q := ⟨_, rfl⟩
     rw [hkn] at a1 a3 a4
     clear hkn hj hM hOa hq hjl hOi
     have hwr := hb.size
     have hOA := hO2.below ((Below.refl _ _).alloc (Nat.le_refl _) (.cells #[.int .i64 x, .int .i64 y] 23))
     have hBA := hb.alloc hwr (.cells #[.int .i64 x, .int .i64 y] 23)
     clear hO2 hb
     go_upto_region 12 with (at_builtin; refine wpList_appP rfl (.tmp 54) (.tmp 67) rfl w0.heap.size _ (O.take i) (x, y) wr.heap.size rfl hOA rfl (at_alloc0 rfl) (at_alloc1 rfl) hlen (by simp; omega) ?_; intro s6 w6 hown6 hgr)
     have hB6 := Below.grown hBA hgr (by simp; omega) (fun b e => (World.ownsRow.lt hOA b e).1)
     clear hOA hBA hgr c0 c1'
     go_wp2
     go_roundw
     case rel => exact ⟨i + 1, by go_num, by omega, by rw [hnx.out]; exact hown6, hB6⟩
     case measure => simp [intOf]; omega
    ·obtain rfl : i = n := by omega
     have hii : ¬ (i : Int) < (i : Int) := by omega
     rw [List.take_of_length_le (by have := hOl.out; omega)] at hO2
     obtain ⟨A2, c2, hv2, P2, _⟩ := OwnP.form hO2
     rw [hOl.out] at hv2
     subst hv2
     replace P1 := P1.below hb
     replace HB := bel_step HB hb
     have H2 := hid (show Calls Try.prog 20 #[.slice A2 i c2] wr (RetRE wr (H, 0)) from by rw [← hOl.out, ← hOE.out]; exact GHull_g O A2 c2 P2)
     have H3 := hid fun (W : World) (hb : Below wr.heap.size wr W) => (show Calls Try.prog 20 #[.slice A1 m c1] W (RetRE W (H, 0)) from by
      have hG := GHull_g H A1 c1 (P1.below hb)
      rw [hmH.out, FH.out.own] at hG
      exact hG)
     clear hOa hOE hOl hO2 P2 hb f1 f2 f3 f4 k1 k2 k3
     go_wp2_with fail
     refine H2.out.mono ?_
     rintro e w3 ⟨v3, rfl, hO3, hv⟩
     obtain ⟨A3, c3, rfl, P3, _⟩ := OwnP.form hO3
     dsimp only at P3 ⊢
     rw [hmH.out]
     replace P1 := P1.below hv
     replace HB := bel_step HB hv
     have hv3 := hv
     clear hO3 H2 hv
     go_wp2_with fail
     refine (H3.out _ hv3).mono ?_
     rintro e w4 ⟨v4, rfl, hO4, hv⟩
     obtain ⟨A4, c4, rfl, P4, _⟩ := OwnP.form hO4
     dsimp only at P4 ⊢
     rw [hmH.out]
     replace P1 := P1.below hv
     replace P3 := P3.below hv
     replace HB := bel_step HB hv
     clear hO4 H3 hv hv3
     have H4 := hid fun (W : World) (hb : Below w4.heap.size w4 W) => (show Calls Try.prog 24 #[.slice A3 m c3, .slice A1 m c1] W (RetB W true) from by
      have := RPoints_g H H A3 A1 c3 c1 (P3.below hb) (P1.below hb)
      rw [decide_eq_true rfl, hmH.out] at this; exact this)
     have H5 := hid fun (W : World) (hb : Below w4.heap.size w4 W) => (show Calls Try.prog 24 #[.slice A4 m c4, .slice A1 m c1] W (RetB W true) from by
      have := RPoints_g H H A4 A1 c4 c1 (P4.below hb) (P1.below hb)
      rw [decide_eq_true rfl, hmH.out] at this; exact this)
     clear P3 P4
     go_wp2_with fail
     refine (H4.out _ (Below.refl _ _)).mono ?_
     rintro e w5 ⟨rfl, hv⟩
     replace P1 := P1.below hv
     replace HB := bel_step HB hv
     go_wp2_with fail
     refine (H5.out _ hv).mono ?_
     rintro e w6 ⟨rfl, hv6⟩
     replace P1 := P1.below hv6
     replace HB := bel_step HB hv6
     clear H4 H5 hv hv6
     have hm0 : ((m : Int) == 0) = false := beq_eq_false_iff_ne.2 (by omega)
     have hm0b : ¬ m = 0 := by omega
     obtain ⟨w7, hw7⟩ : ∃ w7, w7 = w6 := ⟨_, rfl⟩
     subst hw7
     have HIn := hid fun (h2 : 2 < m) (q : Int × Int) (hq : q ∈ l) (W : World) (hb : Below w7.heap.size w7 W) => (show Calls Try.prog 32 #[.slice A1 m c1, .agg #[.int .i64 q.1, .int .i64 q.2]] W (RetBI W (true, 0)) from by
      rw [← FH.out.ins (by rw [hmH.out]; exact h2) q hq, ← hmH.out]; exact GInside_g H A1 c1 q (P1.below hb))
     obtain ⟨g1, o1, hAA, _, hcH⟩ := (id P1).rd (by have := hmH.out; omega)
     subst hAA
     obtain ⟨bA, oA, hAA, hltA, hcL⟩ := HL.out.rd (by have := hnH.out; omega)
     subst hAA
     have hlt1 : g1 < w7.heap.size := by
      obtain ⟨_, _, e, h, _⟩ := P1.rd (by have := hmH.out; omega)
      cases e; exact h
     have hMH := hid fun (j : Nat) (hj : j < H.length) (W : World) (hb : Below w7.heap.size w7 W) => (show W.cell? ⟨g1, o1 + j * 2, none⟩ = some (.int .i64 H[j].1) ∧ W.cell? ⟨g1, o1 + j * 2 + 1, none⟩ = some (.int .i64 H[j].2) from
      ⟨keep_cell hb (hcH j hj).1, keep_cell hb (hcH j hj).2⟩)
     have hML := hid fun (j : Nat) (hj : j < l.length) (W : World) (hb : Below w.heap.size w W) => (show W.cell? ⟨bA, oA + j * 2, none⟩ = some (.int .i64 l[j].1) ∧ W.cell? ⟨bA, oA + j * 2 + 1, none⟩ = some (.int .i64 l[j].2) from
      ⟨keep_cell hb (hcL j hj).1, keep_cell hb (hcL j hj).2⟩)
     have hcrp := Nat.le_trans (hmH.out ▸ P1.cap) P1.max
     clear P1 hcH hcL hM HL hltA hlt1
     go_wp2
     go_loopw [105] (fun s105 wr => ∃ a : Nat, s105 = .int .i64 a ∧ a ≤ m ∧ Below w7.heap.size w7 wr) (fun s105 _ => m - (intOf s105).toNat)
     case atStart => exact ⟨0, rfl, by omega, Below.refl _ _⟩
     case round =>
      obtain ⟨a, rfl, ha, hb⟩ := hrel
      by_cases ham : a < m
      ·have hai : (a : Int) < (m : Int) := by omega
       have haH : a < H.length := by have := hmH.out; omega
       obtain ⟨T, hTr, hT2⟩ := FH.out.turn a haH
       have hmem := FH.out.mem _ (List.getElem_mem haH)
       obtain ⟨a1, ha1⟩ : ∃ q, (a + 1) % m = q := ⟨_, rfl⟩
       obtain ⟨a2, ha2⟩ : ∃ q, (a + 2) % m = q := ⟨_, rfl⟩
       have ha1m : a1 < m := by rw [← ha1]; exact Nat.mod_lt _ hmp
       have ha2m : a2 < m := by rw [← ha2]; exact Nat.mod_lt _ hmp
       have ha1H : a1 < H.length := by have := hmH.out; omega
       have ha2H : a2 < H.length := by have := hmH.out; omega
       simp only [hmH.out, ha1, ha2] at hTr hT2
       have C0 := hid (hMH.out a haH)
       have C1 := hid (hMH.out a1 ha1H)
       have C2 := hid (hMH.out a2 ha2H)
       generalize H[a1] = Q1 at *
       generalize H[a2] = Q2 at *
       generalize H[a] = P at *
       have HCr := hid fun (W : World) => (show Calls Try.prog 10 #[.agg #[.int .i64 P.1, .int .i64 P.2], .agg #[.int .i64 Q1.1, .int .i64 Q1.2], .agg #[.int .i64 Q2.1, .int .i64 Q2.2]] W (RetII W (T, 0)) from by rw [← hTr]; exact GCross_g P Q1 Q2 W)
       have j1 : Int.tmod ((a : Int) + 1) (m : Int) = (a1 : Int) := by rw [← ha1, Int.tmod_eq_emod_of_nonneg (by omega)]; push_cast; rfl
       have j2 : Int.tmod ((a : Int) + 2) (m : Int) = (a2 : Int) := by rw [← ha2, Int.tmod_eq_emod_of_nonneg (by omega)]; push_cast; rfl
       have j3 : IntKind.i64.wrap ((a : Int) + 1) = (a : Int) + 1 := by rw [IntKind.wrap_i64]; omega
       have j4 : IntKind.i64.wrap ((a : Int) + 2) = (a : Int) + 2 := by rw [IntKind.wrap_i64]; omega
       have j5 : IntKind.i64.wrap (a1 : Int) = (a1 : Int) := by rw [IntKind.wrap_i64]; omega
       have j6 : IntKind.i64.wrap (a2 : Int) = (a2 : Int) := by rw [IntKind.wrap_i64]; omega
       have j7 : (a1 : Int) < (m : Int) := by omega
       have j8 : (a2 : Int) < (m : Int) := by omega
       have j9 : ¬ (m : Int) = 0 := by omega
       obtain ⟨P0, P1⟩ := P
       obtain ⟨Q10, Q11⟩ := Q1
       obtain ⟨Q20, Q21⟩ := Q2
       dsimp only at HCr C0 C1 C2
       replace hmem := hid hmem
       replace hT2 := hid hT2
       clear ha1 ha2 hTr haH ha1H ha2H hMH HIn
       go_wp2
       go_loopw [110, 15] (fun s110 s15 wr => ∃ (b : Nat) (t : Bool), s110 = .int .i64 b ∧ s15 = .bool t ∧ b ≤ i ∧ Hid (t = false → ∀ j (h : j < l.length), j < b → l[j] ≠ (P0, P1)) ∧ Below w7.heap.size w7 wr) (fun s110 _ _ => i - (intOf s110).toNat)
       case atStart => exact ⟨0, false, rfl, rfl, by omega, fun _ j _ h => by omega, hb⟩
       case round =>
        clear hb
        obtain ⟨b, t, rfl, rfl, hbi, hA, hb⟩ := hrel
        by_cases hbn : b < i
        ·have hbb : (b : Int) < (i : Int) := by omega
         have hbl : b < l.length := by have := hnH.out; omega
         cases t
         ·obtain ⟨e0, e1'⟩ := hML.out b hbl wr (bel_step HB hb)
          obtain ⟨p0, p1⟩ := C0.out wr hb
          have hAi := hid fun (h : l[b] ≠ (P0, P1)) (_ : false = false) (j : Nat) (h1 : j < l.length) (hj : j < b + 1) => (show l[j] ≠ (P0, P1) from by
           by_cases e : j = b
           ·subst e; exact h
           ·exact hA.out (by first | rfl | trivial) j h1 (by omega))
          generalize l[b] = q at *
          obtain ⟨q0, q1⟩ := q
          dsimp only at e0 e1'
          clear hA
          by_cases z0 : q0 = P0
          ·subst z0
           by_cases z1 : q1 = P1
           ·subst z1
            clear hAi
            go_wp2_with fail
            go_quiet (fail)
            have hv : Below wr.heap.size wr (wr.drewN nq) := below_drewN (Below.refl _ _) _
            generalize hvq : wr.drewN nq = v3 at hv ⊢
            clear hvq
            have hbv := bel_step hb hv
            clear hv e0 e1' p0 p1
            go_wp2
            go_roundw
            case rel => exact ⟨b + 1, true, by go_num, rfl, by omega, hid (fun h => by cases h), hbv⟩
            case measure => simp [intOf]; omega
           ·have hA3 := hid (hAi.out (fun h => z1 (by injection h)))
            clear hAi
            go_wp2_with fail
            go_quiet (fail)
            have hv : Below wr.heap.size wr (wr.drewN nq) := below_drewN (Below.refl _ _) _
            generalize hvq : wr.drewN nq = v3 at hv ⊢
            clear hvq
            have hbv := bel_step hb hv
            clear hv e0 e1' p0 p1
            go_wp2
            go_roundw
            case rel => exact ⟨b + 1, false, by go_num, rfl, by omega, hid (fun _ => hA3.out (by first | rfl | trivial)), hbv⟩
            case measure => simp [intOf]; omega
          ·have hA3 := hid (hAi.out (fun h => z0 (by injection h)))
           clear hAi
           go_wp2_with fail
           go_quiet (fail)
           have hv : Below wr.heap.size wr (wr.drewN nq) := below_drewN (Below.refl _ _) _
           generalize hvq : wr.drewN nq = v3 at hv ⊢
           clear hvq
           have hbv := bel_step hb hv
           clear hv e0 e1' p0 p1
           go_wp2
           go_roundw
           case rel => exact ⟨b + 1, false, by go_num, rfl, by omega, hid (fun _ => hA3.out (by first | rfl | trivial)), hbv⟩
           case measure => simp [intOf]; omega
         ·have e0 := trivial
          have e1' := trivial
          have p0 := trivial
          have p1 := trivial
          clear hA
          go_wp2_with fail
          go_quiet (fail)
          have hv : Below wr.heap.size wr (wr.drewN nq) := below_drewN (Below.refl _ _) _
          generalize hvq : wr.drewN nq = v3 at hv ⊢
          clear hvq
          have hbv := bel_step hb hv
          clear hv e0 e1' p0 p1
          go_wp2
          go_roundw
          case rel => exact ⟨b + 1, true, by go_num, rfl, by omega, hid (fun h => by cases h), hbv⟩
          case measure => simp [intOf]; omega
        ·obtain rfl : b = i := by omega
         have hbb : ¬ (b : Int) < (b : Int) := by omega
         cases t
         ·exfalso
          obtain ⟨j, hj, e⟩ := List.getElem_of_mem hmem.out
          exact hA.out (by first | rfl | trivial) j hj (by have := hnH.out; omega) e
         ·obtain ⟨p0, p1⟩ := C0.out wr hb
          obtain ⟨p2, p3⟩ := C1.out wr hb
          obtain ⟨p4, p5⟩ := C2.out wr hb
          clear hA hmem C0 C1 C2 hML
          go_upto_region 26 with fail
          go_region_held3 (fun w' => (w'.cell? ⟨g1, o1 + a * 2, none⟩ = some (.int .i64 P0) ∧ w'.cell? ⟨g1, o1 + a * 2 + 1, none⟩ = some (.int .i64 P1)) ∧ (w'.cell? ⟨g1, o1 + a1 * 2, none⟩ = some (.int .i64 Q10) ∧ w'.cell? ⟨g1, o1 + a1 * 2 + 1, none⟩ = some (.int .i64 Q11)) ∧ (w'.cell? ⟨g1, o1 + a2 * 2, none⟩ = some (.int .i64 Q20) ∧ w'.cell? ⟨g1, o1 + a2 * 2 + 1, none⟩ = some (.int .i64 Q21))) (first | ((try dsimp only); repeat' (first | with_reducible assumption | apply And.intro | (with_reducible refine keep_alloc ?_) | (with_reducible refine keep_drew ?_) | (with_reducible refine keep_set (by omega) ?_) | (with_reducible refine keep_sets (by omega) ?_) | (with_reducible refine keep_cell (W := wr) ?_ ?_) | fail))) ((go_at_call 10; (with_reducible refine (HCr.out _).mono ?_); rintro e v5 ⟨rfl, hq_⟩; have qy5 : Below wr.heap.size wr v5 := bel_step BG hq_))
          all_goals
           have hbv := bel_step hb qy5
           clear qy5 HCr p0 p1 p2 p3 p4 p5
           try dsimp only
           by_cases h2m : 2 < m
           ·have h2i : (2 : Int) < (m : Int) := by omega
            have hTp := hT2.out h2m
            have hTn : ¬ T ≤ 0 := by omega
            clear hT2
            go_wp2
            go_roundw
            case rel => exact ⟨a + 1, by go_num, by omega, hbv⟩
            case measure => simp [intOf]; omega
           ·have h2i : ¬ (2 : Int) < (m : Int) := by omega
            have h2d : decide ((2 : Int) < (m : Int)) = false := decide_eq_false h2i
            clear hT2
            go_wp2
            go_roundw
            case rel => exact ⟨a + 1, by go_num, by omega, hbv⟩
            case measure => simp [intOf]; omega
      ·obtain rfl : a = m := by omega
       have hai : ¬ (a : Int) < (a : Int) := by omega
       obtain ⟨w8, hw8⟩ : ∃ w8, w8 = wr := ⟨_, rfl⟩
       subst hw8
       replace HB := bel_step HB hb
       have hb8 := hid hb
       clear hb hMH
       go_wp2
       go_loopw [168] (fun s168 wr => ∃ b : Nat, s168 = .int .i64 b ∧ b ≤ i ∧ Below w8.heap.size w8 wr) (fun s168 _ => i - (intOf s168).toNat)
       case atStart => exact ⟨0, rfl, by omega, Below.refl _ _⟩
       case round =>
        obtain ⟨b, rfl, hbi, hb⟩ := hrel
        by_cases hbn : b < i
        ·have hbb : (b : Int) < (i : Int) := by omega
         by_cases h3 : a < 3
         ·have h3i : (a : Int) < 3 := by omega
          replace HB := bel_step HB hb
          clear hML HIn FH hb hb8
          go_wp2_with fail
          refine (H0.out _).mono ?_
          rintro e w9 ⟨rfl, hv⟩
          replace HB := bel_step HB hv
          clear hv
          go_wp2
          go_ret
          exact ⟨rfl, HB⟩
         ·have h3i : ¬ (a : Int) < 3 := by omega
          have hbl : b < l.length := by have := hnH.out; omega
          obtain ⟨e0, e1'⟩ := hML.out b hbl wr (bel_step HB hb)
          have HI2 := hid (HIn.out (by omega) _ (List.getElem_mem hbl))
          have hw8r := hid (bel_step hb8.out hb)
          generalize l[b] = q at *
          obtain ⟨q0, q1⟩ := q
          dsimp only at e0 e1' HI2
          clear hML HIn FH
          go_wp2_with fail
          refine (HI2.out _ hw8r.out).mono ?_
          rintro e v5 ⟨rfl, hv⟩
          have hbv := bel_step hb hv
          clear hv e0 e1' HI2 hw8r
          try dsimp only
          go_wp2
          go_roundw
          case rel => exact ⟨b + 1, by go_num, by omega, hbv⟩
          case measure => simp [intOf]; omega
        ·obtain rfl : b = i := by omega
         have hbb : ¬ (b : Int) < (b : Int) := by omega
         replace HB := bel_step HB hb
         clear hML HIn FH hb hb8
         go_wp2_with fail
         refine (H0.out _).mono ?_
         rintro e w9 ⟨rfl, hv⟩
         replace HB := bel_step HB hv
         clear hv
         go_wp2
         go_ret
         exact ⟨rfl, HB⟩
  ·obtain rfl := HN.out he
   clear HC HN HL hn
   go_wp2_with fail
   refine (H0.out _).mono ?_
   rintro e w9 ⟨rfl, hv⟩
   replace HB := bel_step HB hv
   clear hv
   go_wp2
   go_ret
   exact ⟨rfl, HB⟩
end Go.Proofs.Ytglailcfgcdagaa
