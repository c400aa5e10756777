/- Geometry: Convex and Inside of the reference. Conditions: none. -/
import Derived.Test.YtglailcfgcdagaaGreatZXI
set_option linter.unusedVariables false
set_option linter.unusedSimpArgs false
namespace Go.Proofs.YtglailcfgcdagaaGreat
open Go.RowKit Big
theorem rot_len (l : List (Int × Int)) (h : fstH l ≤ l.length) : (rotP l).length = l.length := by unfold rotP; simp; omega
theorem rot_at {l : List (Int × Int)} {a n i k : Nat} (ha : fstH l = a) (hn : l.length = n) (han : a < n) (hi : i < n) (hk : (a + i) % n = k) (hkl : k < l.length) (h2 : i < (rotP l).length) : (rotP l)[i] = l[k] := by
 have e : rotP l = l.drop a ++ l.take a := by unfold rotP; rw [ha]
 have h3 : (l.drop a ++ l.take a)[i]? = some l[k] := by
  rcases Nat.lt_or_ge (a + i) n with h | h
  ·rw [Nat.mod_eq_of_lt h] at hk
   subst hk
   rw [List.getElem?_append_left (by simp; omega), List.getElem?_drop, List.getElem?_eq_getElem hkl]
  ·have h4 : (a + i) % n = a + i - n := by rw [Nat.mod_eq_sub_mod h, Nat.mod_eq_of_lt (by omega)]
   rw [h4] at hk
   rw [List.getElem?_append_right (by simp; omega), List.getElem?_take, if_pos (by simp; omega)]
   have : i - (l.drop a).length = k := by simp; omega
   rw [this, List.getElem?_eq_getElem hkl]
 rw [← e] at h3
 rw [List.getElem?_eq_getElem h2] at h3
 exact Option.some.inj h3
set_option maxRecDepth 100000 in
set_option maxHeartbeats 8000000 in
theorem RConvex_g (l : List (Int × Int)) (A : Option Addr) (c : Nat) {w : World} (hl : Pb w A c l) (hln : l.length ≤ 4096) (h0 : l ≠ []) (hin : ∀ p ∈ l, inP p = true) :
  Calls Tryz.prog 25 #[.slice A l.length c] w (RetB w (decide (hullP l = rotP l))) := by
 obtain ⟨tq, htq⟩ : ∃ tq, decide (hullP l = rotP l) = tq := ⟨_, rfl⟩
 rw [htq]
 obtain ⟨n, hn⟩ : ∃ n, l.length = n := ⟨_, rfl⟩
 have hn0 : 0 < n := by rw [← hn]; exact List.length_pos_iff.2 h0
 obtain ⟨f, t, hh, hfm, hfl, hfe⟩ := hull_first h0
 have HH := hid (show Calls Tryz.prog 27 #[.slice A n c] w (RetR w (f :: t)) from by
  rw [← hn, ← hh, hullP_eq h0]; exact Rhull_g l _ c hl hln h0 hin)
 obtain ⟨b, o, hAA, _, hcL⟩ := (id hl).rd (by omega)
 subst hAA
 have hML := hid fun (j : Nat) (hj : j < l.length) (W : World) (hb : Below w.heap.size w W) => (show W.cell? ⟨b, o + j * 2, none⟩ = some (.int .i64 l[j].1) ∧ W.cell? ⟨b, o + j * 2 + 1, none⟩ = some (.int .i64 l[j].2) from
  ⟨keep_cell hb (hcL j hj).1, keep_cell hb (hcL j hj).2⟩)
 have hidx := hid fun (i : Nat) (hi : i < l.length) (h : l[i] = f) (hn : ∀ j (h1 : j < l.length), j < i → l[j] ≠ f) => (show fstH l = i from by rw [hfe]; exact idx_at hi h hn)
 have hRL := hid (rot_len l (Nat.le_of_lt hfl))
 have hRA := hid fun (a i k : Nat) (ha : fstH l = a) (han : a < n) (hi : i < n) (hk : (a + i) % n = k) (hkl : k < l.length) (h2 : i < (rotP l).length) => rot_at ha hn han hi hk hkl h2
 rw [hh] at htq
 have hmem := hid fun (h : ∀ j (h1 : j < l.length), j < n → l[j] ≠ f) => (show False from by
  obtain ⟨j, hj, e⟩ := List.getElem_of_mem hfm
  exact h j hj (by omega) e)
 have hcap := Nat.le_trans hl.cap hl.max
 have hn4 : n ≤ 4096 := by omega
 rw [hn] at hcap ⊢
 generalize rotP l = R at *
 have hF := hid fun (h : ¬ f :: t = R) => (show tq = false from by rw [← htq]; exact decide_eq_false h)
 have hT := hid fun (h : f :: t = R) => (show tq = true from by rw [← htq]; exact decide_eq_true h)
 have hnH := hid hn
 clear hl hcL hfl hfe hfm hh htq h0 hin hln
 clear hn
 go_enter Tryz.func25, Tryz.ntmps25
 go_wp2_with fail
 refine HH.out.mono ?_
 rintro e w1 ⟨v1, rfl, hO1, HB⟩
 obtain ⟨A1, c1, rfl, P1, hg⟩ := OwnP.form hO1
 obtain ⟨gh, rfl, _⟩ := hg (by simp)
 obtain ⟨m, hm⟩ : ∃ m, (f :: t).length = m := ⟨_, rfl⟩
 obtain ⟨_, _, e', _, hcH⟩ := (id P1).rd (by simp)
 cases e'
 have hMH := hid fun (j : Nat) (hj : j < (f :: t).length) (W : World) (hb : Below w1.heap.size w1 W) => (show W.cell? ⟨gh, 0 + j * 2, none⟩ = some (.int .i64 (f :: t)[j].1) ∧ W.cell? ⟨gh, 0 + j * 2 + 1, none⟩ = some (.int .i64 (f :: t)[j].2) from
  ⟨keep_cell hb (hcH j hj).1, keep_cell hb (hcH j hj).2⟩)
 simp only [Nat.zero_add] at hMH
 have hmm := Nat.le_trans P1.cap P1.max
 have hm0 : 0 < m := by rw [← hm]; simp
 have hm0i : (0 : Int) < (m : Int) := by omega
 rw [hm] at hmm ⊢
 have hmH := hid hm
 have hF0 := hid fun (W : World) (hb : Below w1.heap.size w1 W) => (hMH.out 0 (by simp) W hb)
 simp only [Nat.zero_mul, Nat.zero_add, List.getElem_cons_zero] at hF0
 generalize hLL : f :: t = L at *
 replace hLL := hid hLL
 clear P1 hg hO1 hcH HH hm
 obtain ⟨f0, f1⟩ := f
 dsimp only at hF0
 have hb0 := Below.refl w1.heap.size w1
 go_wp2
 go_loopw [4] (fun s4 wr => ∃ i : Nat, s4 = .int .i64 i ∧ i ≤ n ∧ Hid (∀ j (h1 : j < l.length), j < i → l[j] ≠ (f0, f1)) ∧ Below w1.heap.size w1 wr) (fun s4 _ => n - (intOf s4).toNat)
 case atStart => exact ⟨0, rfl, by omega, fun j _ h => by omega, hb0⟩
 case round =>
  clear hb0
  obtain ⟨i, rfl, hi, hA, hb⟩ := hrel
  have hin : i < n := by
   rcases Nat.lt_or_ge i n with h | h
   ·exact h
   ·exact (hmem.out fun j h1 h2 => hA.out j h1 (by omega)).elim
  have hii : (i : Int) < (n : Int) := by omega
  have hil : i < l.length := by have := hnH.out; omega
  obtain ⟨e0, e1⟩ := hML.out i hil wr (bel_step HB hb)
  obtain ⟨g0, g1⟩ := hF0.out wr hb
  have hFi := hid fun (h : l[i] = (f0, f1)) => hidx.out i hil h hA.out
  have hAi := hid fun (h : l[i] ≠ (f0, f1)) (j : Nat) (h1 : j < l.length) (hj : j < i + 1) => (show l[j] ≠ (f0, f1) from by
   by_cases e : j = i
   ·subst e; exact h
   ·exact hA.out j h1 (by omega))
  generalize hqq : l[i] = q at *
  obtain ⟨q0, q1⟩ := q
  replace hqq := hid hqq
  dsimp only at e0 e1
  clear hA
  by_cases z0 : q0 = f0
  ·by_cases z1 : q1 = f1
   ·have hfa := hid (hFi.out (by rw [z0, z1]))
    subst z0 z1
    clear hFi hAi hidx hmem hF0 hqq
    go_wp2_with fail
    go_quiet (fail)
    have hv : Below wr.heap.size wr (wr.drewN nq) := below_drewN (Below.refl _ _) _
    generalize hvq : wr.drewN nq = v3 at hv ⊢
    clear hvq
    have hbv := bel_step hb hv
    clear hv
    clear e0 e1 g0 g1
    go_wp2
    go_loopw [5] (fun s5 wr => ∃ j : Nat, s5 = .int .i64 j ∧ j ≤ n ∧ Hid (∀ q (h1 : q < L.length) (h2 : q < R.length), q < j → L[q] = R[q]) ∧ Hid (0 < j → m = n) ∧ Below w1.heap.size w1 wr) (fun s5 _ => n - (intOf s5).toNat)
    case atStart => exact ⟨0, rfl, by omega, fun q _ _ h => by omega, hid (fun h => by omega), hbv⟩
    case round =>
     clear hb hbv
     obtain ⟨j, rfl, hj, hA, hmn, hb⟩ := hrel
     by_cases hjn : j < n
     ·have hjj : (j : Int) < (n : Int) := by omega
      by_cases hmn2 : m = n
      ·have hmi : (m : Int) = (n : Int) := by omega
       obtain ⟨k, hk⟩ : ∃ k, (i + j) % n = k := ⟨_, rfl⟩
       have hkn : k < n := by rw [← hk]; exact Nat.mod_lt _ (by omega)
       have hkl : k < l.length := by have := hnH.out; omega
       have hjL : j < L.length := by have := hmH.out; omega
       have hjR : j < R.length := by have := hRL.out; have := hnH.out; omega
       have hRk := hid (hRA.out i j k hfa.out hin hjn hk hkl hjR)
       have a1 : Int.tmod ((i : Int) + (j : Int)) (n : Int) = (k : Int) := by rw [← hk, Int.tmod_eq_emod_of_nonneg (by omega)]; push_cast; rfl
       have a2 : IntKind.i64.wrap ((i : Int) + (j : Int)) = (i : Int) + (j : Int) := by rw [IntKind.wrap_i64]; omega
       have a3 : IntKind.i64.wrap (k : Int) = (k : Int) := by rw [IntKind.wrap_i64]; omega
       have a4 : (k : Int) < (n : Int) := by omega
       have a5 : ¬ (n : Int) = 0 := by omega
       have a6 : ¬ n = 0 := by omega
       obtain ⟨e0, e1⟩ := hML.out k hkl wr (bel_step HB hb)
       obtain ⟨g0, g1⟩ := hMH.out j hjL wr hb
       have hbad := hid fun (h : ¬ L[j] = l[k]) => hF.out (fun e => h (by
        have h2 := hRk.out
        rw [← h2]; subst e; rfl))
       have hgood := hid fun (h : L[j] = l[k]) (q : Nat) (h1 : q < L.length) (h2 : q < R.length) (hq : q < j + 1) => (show L[q] = R[q] from by
        by_cases e : q = j
        ·subst e; rw [hRk.out]; exact h
        ·exact hA.out q h1 h2 (by omega))
       generalize l[k] = x at *
       generalize L[j] = y at *
       obtain ⟨x0, x1⟩ := x
       obtain ⟨y0, y1⟩ := y
       dsimp only at e0 e1 g0 g1
       clear hA hRk hk hMH hML hRA hF hT hRL
       by_cases z2 : x0 = y0
       ·by_cases z3 : x1 = y1
        ·subst z2 z3
         have hA3 := hid (hgood.out rfl)
         clear hbad hgood
         go_wp2_with fail
         go_quiet (fail)
         have hv : Below wr.heap.size wr (wr.drewN nq) := below_drewN (Below.refl _ _) _
         generalize hvq : wr.drewN nq = v3 at hv ⊢
         clear hvq
         have hbv := bel_step hb hv
         clear hv
         clear e0 e1 g0 g1
         go_wp2
         go_roundw
         case rel => exact ⟨j + 1, by go_num, by omega, hA3, hid (fun _ => hmn2), hbv⟩
         case measure => simp [intOf]; omega
        ·obtain rfl := hbad.out (fun h => z3 (by injection h with _ h; exact h.symm))
         subst z2
         clear hbad hgood
         go_wp2_with fail
         go_quiet (fail)
         have hv : Below wr.heap.size wr (wr.drewN nq) := below_drewN (Below.refl _ _) _
         generalize hvq : wr.drewN nq = v3 at hv ⊢
         clear hvq
         have hbv := bel_step hb hv
         clear hv
         clear e0 e1 g0 g1
         go_wp2
         go_ret
         exact ⟨rfl, bel_step HB hbv⟩
       ·obtain rfl := hbad.out (fun h => z2 (by injection h with h _; exact h.symm))
        clear hbad hgood
        go_wp2_with fail
        go_quiet (fail)
        have hv : Below wr.heap.size wr (wr.drewN nq) := below_drewN (Below.refl _ _) _
        generalize hvq : wr.drewN nq = v3 at hv ⊢
        clear hvq
        have hbv := bel_step hb hv
        clear hv
        clear e0 e1 g0 g1
        go_wp2
        go_ret
        exact ⟨rfl, bel_step HB hbv⟩
      ·obtain rfl := hF.out (fun e => hmn2 (by
        have h1 := hRL.out
        rw [← e, hmH.out, hnH.out] at h1; exact h1))
       have hmi : ¬ (m : Int) = (n : Int) := by omega
       clear hA hMH hML hRA hF hT hRL
       go_wp2_with fail
       go_quiet (fail)
       have hv : Below wr.heap.size wr (wr.drewN nq) := below_drewN (Below.refl _ _) _
       generalize hvq : wr.drewN nq = v3 at hv ⊢
       clear hvq
       have hbv := bel_step hb hv
       clear hv
       go_wp2
       go_ret
       exact ⟨rfl, bel_step HB hbv⟩
     ·obtain rfl : j = n := by omega
      obtain rfl := hT.out (List.ext_getElem (by have := hRL.out; have := hmn.out hn0; have := hmH.out; have := hnH.out; omega) fun q h1 h2 => hA.out q h1 h2 (by have := hmn.out hn0; have := hmH.out; omega))
      have hjj : ¬ (j : Int) < (j : Int) := by omega
      have hfin := hid (bel_step HB hb)
      clear hA hMH hML hRA hF hT hRL hmn
      go_wp2
      go_ret
      exact ⟨rfl, hfin.out⟩
   ·have hA3 := hid (hAi.out (fun h => z1 (by injection h)))
    subst z0
    clear hFi hAi
    go_wp2_with fail
    go_quiet (fail)
    have hv : Below wr.heap.size wr (wr.drewN nq) := below_drewN (Below.refl _ _) _
    generalize hvq : wr.drewN nq = v3 at hv ⊢
    clear hvq
    have hbv := bel_step hb hv
    clear hv
    clear e0 e1 g0 g1
    go_wp2
    go_roundw
    case rel => exact ⟨i + 1, by go_num, by omega, hA3, hbv⟩
    case measure => simp [intOf]; omega
  ·have hA3 := hid (hAi.out (fun h => z0 (by injection h)))
   clear hFi hAi
   go_wp2_with fail
   go_quiet (fail)
   have hv : Below wr.heap.size wr (wr.drewN nq) := below_drewN (Below.refl _ _) _
   generalize hvq : wr.drewN nq = v3 at hv ⊢
   clear hvq
   have hbv := bel_step hb hv
   clear hv
   clear e0 e1 g0 g1
   go_wp2
   go_roundw
   case rel => exact ⟨i + 1, by go_num, by omega, hA3, hbv⟩
   case measure => simp [intOf]; omega
end Go.Proofs.YtglailcfgcdagaaGreat
/- Geometry: Inside of the reference. Conditions: none. -/
namespace Go.Proofs.YtglailcfgcdagaaGreat
open Go.RowKit Big
set_option maxRecDepth 100000 in
set_option maxHeartbeats 8000000 in
theorem RInside_g (l : List (Int × Int)) (A : Option Addr) (c : Nat) (p : Int × Int) {w : World} (hl : Pb w A c l) :
  Calls Tryz.prog 6 #[.slice A l.length c, .agg #[.int .i64 p.1, .int .i64 p.2]] w (RetBI w (insE l p)) := by
 obtain ⟨n, hn⟩ : ∃ n, l.length = n := ⟨_, rfl⟩
 obtain ⟨k, hk⟩ : ∃ k, chkP l = k := ⟨_, rfl⟩
 obtain ⟨k2, hk2⟩ : ∃ k, chkP [p] = k := ⟨_, rfl⟩
 have HK := hid fun (W : World) (hb : Below w.heap.size w W) => (show Calls Tryz.prog 24 #[.slice A n c] W (RetI W k) from by rw [← hk, ← hn]; exact Rright_g l A c (hl.below hb))
 have HK2 := hid fun (W : World) (t : TypeId) => (show Calls Tryz.prog 24 #[.slice (some ⟨W.heap.size, 0, none⟩) 1 1] (W.alloc (.cells #[.int .i64 p.1, .int .i64 p.2] t)) (RetI (W.alloc (.cells #[.int .i64 p.1, .int .i64 p.2] t)) k2) from by
  rw [← hk2]; exact Rright_g [p] _ _ (Pb.newL' W t p))
 have E1 := hid fun (h : k ≠ 0) => (show insE l p = (false, k) by rw [← hk] at h ⊢; unfold insE; rw [if_neg h])
 have E2 := hid fun (h : k = 0) (h2 : k2 ≠ 0) => (show insE l p = (false, k2) by rw [← hk2] at h2 ⊢; unfold insE; rw [if_pos (hk.trans h), if_neg h2])
 have E3 := hid fun (h : k = 0) (h2 : k2 = 0) (h3 : n < 3) => (show insE l p = (false, 7) by unfold insE; rw [if_pos (hk.trans h), if_pos (hk2.trans h2), if_pos (by omega)])
 have E4 := hid fun (h : k = 0) (h2 : k2 = 0) (h3 : ¬ n < 3) (h4 : ¬ hullP l = rotP l) => (show insE l p = (false, 9) by unfold insE; rw [if_pos (hk.trans h), if_pos (hk2.trans h2), if_neg (by omega), if_neg h4])
 have E5 := hid fun (h : k = 0) (h2 : k2 = 0) (h3 : ¬ n < 3) (h4 : hullP l = rotP l) => (show insE l p = (insB l p, 0) by unfold insE; rw [if_pos (hk.trans h), if_pos (hk2.trans h2), if_neg (by omega), if_pos h4])
 have HL := hid hl
 have hcp := Nat.le_trans hl.cap hl.max
 have hcc := hl.cap
 rw [hn] at hcp hcc ⊢
 have hc2 := hl.max
 have hC := hid (And.intro hk (And.intro hk2 hn))
 generalize insE l p = E at *
 clear hl hk hk2
 obtain ⟨x, y⟩ := p
 dsimp only at HK2 ⊢
 replace hn := hid hn
 go_enter Tryz.func6, Tryz.ntmps6
 go_upto_region 1 with fail
 refine enterR (P := fun u => Code.wp _ _ _ _ u) (c := [.int .i64 x, .int .i64 y]) ?_
 intro u HB r1 zn hsz
 have p0 := r1 0 _ rfl
 have p1 := r1 1 _ rfl
 simp only [Nat.zero_add] at p0 p1
 clear r1 zn hsz
 go_wp2_with fail
 refine (HK.out _ HB).mono ?_
 rintro e w1 ⟨rfl, hv⟩
 replace HB := bel_step HB hv
 have p0 := keep_cell hv p0
 have p1 := keep_cell hv p1
 clear hv HK
 by_cases hk0 : k = 0
 ·go_wp2_with fail
  refine (HK2.out _ _).mono ?_
  rintro e w2 ⟨rfl, hv⟩
  have hv := bel_step ((Below.refl w1.heap.size w1).alloc (Nat.le_refl _) _) hv
  replace HB := bel_step HB hv
  have p0 := keep_cell hv p0
  have p1 := keep_cell hv p1
  clear hv HK2
  by_cases hk3 : k2 = 0
  ·by_cases h3 : n < 3
   ·have h3i : (n : Int) < 3 := by omega
    obtain rfl := E3.out hk0 hk3 h3
    subst hk0 hk3
    clear E1 E2 E3 E4 E5 hC
    clear p0 p1
    go_wp2
    refine bodyPost_ret (v := .tuple #[.bool false, .int .i64 (7)]) ?_ rfl ?_
    ·simp [results, Tryz.results6, go_sem]
    ·exact ⟨rfl, HB⟩
   ·have h3i : ¬ (n : Int) < 3 := by omega
    have E6 := hid (E4.out hk0 hk3 h3)
    have E7 := hid (E5.out hk0 hk3 h3)
    obtain ⟨g1, g2⟩ := chkP_zero (hC.out.1.trans hk0)
    obtain ⟨_, g3⟩ := chkP_zero (hC.out.2.1.trans hk3)
    have g3 := hid (g3 _ (List.mem_singleton_self _))
    have hne : l ≠ [] := fun e => by subst e; have := hn.out; simp at this; omega
    have hn4 : n ≤ 4096 := by have := hn.out; omega
    obtain ⟨b, o, hAA, hlt0, _⟩ := HL.out.rd (by have := hn.out; omega)
    subst hAA
    obtain ⟨tq, htq⟩ : ∃ tq, decide (hullP l = rotP l) = tq := ⟨_, rfl⟩
    have HH := hid fun (W : World) (hb : Below w.heap.size w W) => (show Calls Tryz.prog 25 #[.slice (some ⟨b, o, none⟩) n c] W (RetB W tq) from by
     rw [← hn.out, ← htq]; exact RConvex_g l _ c (HL.out.below hb) g1 hne g2)
    have E6 := hid fun (h : tq = false) => E6.out (by rw [← htq] at h; exact of_decide_eq_false h)
    have E7 := hid fun (h : tq = true) => E7.out (by rw [← htq] at h; exact of_decide_eq_true h)
    have hg2 := hid g2
    clear E1 E2 E3 E4 E5 hC g1 g2 hlt0 htq
    subst hk0 hk3
    go_wp2_with fail
    refine (HH.out _ HB).mono ?_
    rintro e w3 ⟨rfl, hv⟩
    replace HB := bel_step HB hv
    have p0 := keep_cell hv p0
    have p1 := keep_cell hv p1
    clear hv HH
    cases tq
    ·obtain rfl := E6.out (by first | rfl | trivial)
     clear E6 E7
     clear p0 p1
     go_wp2
     refine bodyPost_ret (v := .tuple #[.bool false, .int .i64 (9)]) ?_ rfl ?_
     ·simp [results, Tryz.results6, go_sem]
     ·exact ⟨rfl, HB⟩
    ·obtain rfl := E7.out (by first | rfl | trivial)
     have hBt := hid fun (h : ∀ j, j < l.length → sideI l (x, y) j = true) => (show insB l (x, y) = true by
      unfold insB; rw [List.all_eq_true]; intro j hj; exact h j (List.mem_range.1 hj))
     have hBf := hid fun (j : Nat) (h1 : j < l.length) (h : sideI l (x, y) j = false) => (show insB l (x, y) = false by
      unfold insB
      cases hb : (List.range l.length).all (sideI l (x, y))
      ·rfl
      ·rw [List.all_eq_true] at hb
       have := hb j (List.mem_range.2 h1)
       rw [h] at this; cases this)
     generalize insB l (x, y) = R at *
     have hM := hid fun (j : Nat) (hj : j < n) (W : World) (hb : Below w.heap.size w W) => (HL.out.below hb).at_ (k := j) (by have := hn.out; omega)
     have hCx := hid fun (o a b : Int × Int) (ho : inP o = true) (ha : inP a = true) (hb : inP b = true) (W : World) => Rcross_g ho ha hb W
     have hI := hid fun (j : Nat) (hj : j < l.length) => hg2.out _ (List.getElem_mem hj)
     clear E6 E7 HL hg2
     go_wp2
     go_loopw [8] (fun s8 wr => ∃ i : Nat, s8 = .int .i64 i ∧ i ≤ n ∧ Hid (∀ j, j < i → sideI l (x, y) j = true) ∧ Below w.heap.size w wr ∧ wr.cell? ⟨w.heap.size, 0, none⟩ = some (.int .i64 x) ∧ wr.cell? ⟨w.heap.size, 1, none⟩ = some (.int .i64 y)) (fun s8 _ => n - (intOf s8).toNat)
     case atStart => exact ⟨0, rfl, by omega, fun j h => by omega, HB, p0, p1⟩
     case round =>
      clear HB p0 p1
      obtain ⟨i, rfl, hi, hA, HB, p0, p1⟩ := hrel
      by_cases hin2 : i < n
      ·have hii : (i : Int) < (n : Int) := by omega
       have hil : i < l.length := by have := hn.out; omega
       obtain ⟨k, hk⟩ : ∃ k, (i + 1) % n = k := ⟨_, rfl⟩
       have hkn : k < n := by rw [← hk]; exact Nat.mod_lt _ (by omega)
       have hkl : k < l.length := by have := hn.out; omega
       have hkm : Int.tmod ((i : Int) + 1) (n : Int) = (k : Int) := by rw [← hk]; rw [Int.tmod_eq_emod_of_nonneg (by omega)]; push_cast; rfl
       have hkw : IntKind.i64.wrap (k : Int) = (k : Int) := by rw [IntKind.wrap_i64]; omega
       have hki : (k : Int) < (n : Int) := by omega
       have hnz : ¬ (n : Int) = 0 := by omega
       have hnz2 : ¬ n = 0 := by omega
       have hnz3 : ((n : Int) == 0) = false := beq_eq_false_iff_ne.2 hnz
       have hiw : IntKind.i64.wrap ((i : Int) + 1) = (i : Int) + 1 := by rw [IntKind.wrap_i64]; omega
       obtain ⟨bb, oo, hA1, e0, e1⟩ := hM.out i hin2 wr HB
       cases hA1
       obtain ⟨bb, oo, hA2, g0, g1⟩ := hM.out k hkn wr HB
       cases hA2
       have hsi : sideI l (x, y) i = decide (0 ≤ crsZ l[i] l[k] (x, y)) := by
        unfold sideI
        rw [hn.out, hk]
        simp [hil, hkl]
       have hqi := hI.out i hil
       have hri := hI.out k hkl
       generalize l[i] = q at *
       generalize l[k] = r at *
       obtain ⟨z, hz⟩ : ∃ z, crsZ q r (x, y) = z := ⟨_, rfl⟩
       rw [hz] at hsi
       have HCr := hid fun (W : World) => (show Calls Tryz.prog 26 #[.agg #[.int .i64 q.1, .int .i64 q.2], .agg #[.int .i64 r.1, .int .i64 r.2], .agg #[.int .i64 x, .int .i64 y]] W (RetI W z) from by
        rw [← hz]; exact hCx.out _ _ _ hqi hri g3.out W)
       have hbad := hid fun (h : z < 0) => hBf.out i hil (by rw [hsi]; exact decide_eq_false (by omega))
       have hgood := hid fun (h : 0 ≤ z) (j : Nat) (hj : j < i + 1) => (show sideI l (x, y) j = true by
        by_cases e : j = i
        ·subst e; rw [hsi]; exact decide_eq_true h
        ·exact hA.out j (by omega))
       obtain ⟨q0, q1⟩ := q
       obtain ⟨r0, r1'⟩ := r
       dsimp only at e0 e1 g0 g1 HCr
       clear hBt hBf hM hCx hI hsi hqi hri hz hk
       go_upto_region 14 with fail
       go_region_held3 (fun w' => (w'.cell? ⟨b, o + i * 2, none⟩ = some (.int .i64 q0) ∧ w'.cell? ⟨b, o + i * 2 + 1, none⟩ = some (.int .i64 q1)) ∧ (w'.cell? ⟨b, o + k * 2, none⟩ = some (.int .i64 r0) ∧ w'.cell? ⟨b, o + k * 2 + 1, none⟩ = some (.int .i64 r1')) ∧ (w'.cell? ⟨w.heap.size, 0, none⟩ = some (.int .i64 x) ∧ w'.cell? ⟨w.heap.size, 1, none⟩ = some (.int .i64 y))) (first | ((try dsimp only); repeat' (first | with_reducible assumption | apply And.intro | (with_reducible refine keep_alloc ?_) | (with_reducible refine keep_drew ?_) | (with_reducible refine keep_set (by omega) ?_) | (with_reducible refine keep_sets (by omega) ?_) | (with_reducible refine keep_cell (W := wr) ?_ ?_) | fail))) ((go_at_call 26; (with_reducible refine (HCr.out _).mono ?_); rintro e v5 ⟨rfl, hq_⟩; have qy5 : Below wr.heap.size wr v5 := bel_step BG hq_))
       all_goals
        have p0 := keep_cell qy5 p0
        have p1 := keep_cell qy5 p1
        replace HB := bel_step HB qy5
        clear qy5 HCr e0 e1 g0 g1
        by_cases hz0 : z < 0
        ·obtain rfl := hbad.out hz0
         clear hbad hgood hA
         clear p0 p1
         go_wp2
         refine bodyPost_ret (v := .tuple #[.bool false, .int .i64 0]) ?_ rfl ?_
         ·simp [results, Tryz.results6, go_sem]
         ·exact ⟨rfl, HB⟩
        ·have hA3 := hid (hgood.out (by omega))
         clear hbad hgood hA
         go_wp2
         go_roundw
         case rel => exact ⟨i + 1, by go_num, by omega, hA3, HB, p0, p1⟩
         case measure => simp [intOf]; omega
      ·obtain rfl : i = n := by omega
       obtain rfl := hBt.out (fun j hj => hA.out j (by have := hn.out; omega))
       have hii : ¬ (i : Int) < (i : Int) := by omega
       clear hBt hBf hM hCx hI hA p0 p1
       go_wp2
       refine bodyPost_ret (v := .tuple #[.bool true, .int .i64 0]) ?_ rfl ?_
       ·simp [results, Tryz.results6, go_sem]
       ·exact ⟨rfl, HB⟩
  ·obtain rfl := E2.out hk0 hk3
   subst hk0
   clear E1 E2 E3 E4 E5 hC
   clear p0 p1
   go_wp2
   refine bodyPost_ret (v := .tuple #[.bool false, .int .i64 (k2)]) ?_ rfl ?_
   ·simp [results, Tryz.results6, go_sem]
   ·exact ⟨rfl, HB⟩
 ·obtain rfl := E1.out hk0
  clear E1 E2 E3 E4 E5 hC HK2
  clear p0 p1
  go_wp2
  refine bodyPost_ret (v := .tuple #[.bool false, .int .i64 (k)]) ?_ rfl ?_
  ·simp [results, Tryz.results6, go_sem]
  ·exact ⟨rfl, HB⟩
end Go.Proofs.YtglailcfgcdagaaGreat
