/- Reading order: the statement that columns and paragraphs divide. Conditions: none. -/
import Derived.Test.YtjdgjhaggpahkaaZLz5
import Derived.Test.YtjdgjhaggpahkaaZNr7
set_option linter.unusedVariables false
set_option linter.unusedSimpArgs false
namespace Go.Proofs.Ytjdgjhaggpahkaa
open Go.RowKit Go.Deep
/-- a list of lists, element by element -/
theorem Zls.rows {w : World} {A : Option Addr} {n c : Nat} {L : List (List Nat)} (hv : Zls w (.slice A n c) L) (hne : ∀ C ∈ L, C ≠ []) : ∀ (j : Nat) (hj : j < L.length) (W : World), Below w.heap.size w W → ∃ g o, A = some ⟨g, o, none⟩ ∧ ∃ gx ox cx, W.cell? ⟨g, o + j, none⟩ = some (.slice (some ⟨gx, ox, none⟩) L[j].length cx) ∧ CelZ W gx ox L[j] := fun j hj W hb => by
 obtain ⟨g, o, u, e, hc, hz⟩ := (hv.below hb).at_ (j := j) hj
 obtain ⟨gx, ox, cx, e2, hz2⟩ := hz.cel (List.length_pos_iff.2 (hne _ (List.getElem_mem hj)))
 subst e2
 exact ⟨g, o, e, gx, ox, cx, hc, hz2⟩
set_option maxRecDepth 100000 in
set_option maxHeartbeats 16000000 in
theorem Divides_law (l : List Bx) (A : Option Addr) (c : Nat) (gap : Int) {w : World} (hl : Qb w A c l) :
  Calls Try.prog 7 #[.slice A l.length c, .int .i64 gap] w (RetB w true) := by
 obtain ⟨n, hn⟩ : ∃ n, l.length = n := ⟨_, rfl⟩
 have HB := Below.refl w.heap.size w
 by_cases hbig : n ≤ 60
 ·have hbi : ¬ (60 : Int) < (n : Int) := by omega
  rcases chk_60 (l := l) (gap := gap) (by omega) with hck | hck
  ·obtain ⟨hg0, hg1, hbs⟩ := hb_of hck
   have S1 := colC_sep hck
   have S2 := parE_sep hck
   have HG := hid fun (W : World) (hb : Below w.heap.size w W) => (show Calls Try.prog 17 #[.slice A n c, .int .i64 gap] W (RetLE W (colC l gap) 0) from by rw [← hck, ← hn]; exact GCol_c l A c gap (hl.below hb))
   have HP := hid fun (W : World) (hb : Below w.heap.size w W) => (show Calls Try.prog 20 #[.slice A n c, .int .i64 gap] W (RetLE W (parE l gap).1 0) from by
    have h2 : (parE l gap).2 = 0 := by unfold parE; rw [if_pos hck]
    have := GPar_g l A c gap (hl.below hb)
    rwa [h2, hn] at this)
   generalize colC l gap = L1 at *
   generalize (parE l gap).1 = L2 at *
   have M1 := hid (S1.meet (p := bX l) (q := bR l) (gap := gap) (d := 0) ⟨hg0, hg1, by omega, by omega⟩ (fun x y h => by omega) (fun i hi => (hbs i hi).1.1) (fun i hi => (hbs i hi).1.2.2))
   have M2 := hid (S2.meet (p := bY l) (q := bB l) (gap := gap) (d := 1) ⟨hg0, hg1, by omega, by omega⟩ (fun x y h => by omega) (fun i hi => (hbs i hi).2.1) (fun i hi => (hbs i hi).2.2.2))
   rw [hn] at M1 M2 S1 S2
   have J1 := hid fun (v : Value) (W : World) (h : Zls W v L1) => Ljoined_g L1 v h S1.ne (by rw [S1.len]; omega)
   have J2 := hid fun (v : Value) (W : World) (h : Zls W v L2) => Ljoined_g L2 v h S2.ne (by rw [S2.len]; omega)
   have O1 := hid fun (v : Value) (W : World) (h : Zs W v L1.flatten) => Lonce_g L1.flatten v n h S1.len (by omega) S1.nd S1.lt
   have O2 := hid fun (v : Value) (W : World) (h : Zs W v L2.flatten) => Lonce_g L2.flatten v n h S2.len (by omega) S2.nd S2.lt
   have NE1 := hid (And.intro S1.ne S1.len)
   have NE2 := hid (And.intro S2.ne S2.len)
   have hok2 := hid fun (k : Nat) (hk : k < n) => (show okB (l.getD k default) = true from (chk0 hck).2.2.2 _ (by simp [show k < l.length by omega]))
   have hl0 := hid hl
   have hg0' : ¬ gap < 0 := by omega
   have hg1' : ¬ (4096 : Int) < gap := by omega
   rw [hn]
   replace hn := hid hn
   clear S1 S2 hbs hck hl
   go_enter Try.func7, Try.ntmps7
   go_wp2_with fail
   refine (HG.out _ HB).mono ?_
   rintro e w1 ⟨v1, rfl, z1, hb⟩
   replace HB := bel_step HB hb
   clear hb HG
   go_wp2_with fail
   refine (HP.out _ HB).mono ?_
   rintro e w2 ⟨v2, rfl, z2, hb⟩
   replace HB := bel_step HB hb
   replace z1 := z1.below hb
   clear hb HP
   go_wp2_with fail
   refine (J1.out _ _ z1).mono ?_
   rintro e w3 ⟨v3, rfl, y1, hb⟩
   replace HB := bel_step HB hb
   replace z1 := z1.below hb
   replace z2 := z2.below hb
   clear hb J1
   go_wp2_with fail
   refine (O1.out _ _ y1).mono ?_
   rintro e w4 ⟨rfl, hb⟩
   replace HB := bel_step HB hb
   replace z1 := z1.below hb
   replace z2 := z2.below hb
   clear hb O1 y1
   go_wp2_with fail
   refine (J2.out _ _ z2).mono ?_
   rintro e w5 ⟨v5, rfl, y1, hb⟩
   replace HB := bel_step HB hb
   replace z1 := z1.below hb
   replace z2 := z2.below hb
   clear hb J2
   go_wp2_with fail
   refine (O2.out _ _ y1).mono ?_
   rintro e wz ⟨rfl, hb⟩
   replace HB := bel_step HB hb
   replace z1 := z1.below hb
   replace z2 := z2.below hb
   clear hb O2 y1
   obtain ⟨A1, c1, rfl, hc1, hc2⟩ := z1.form
   obtain ⟨A2, c2, rfl, hd1, hd2⟩ := z2.form
   have Z1 := hid (z1.rows NE1.out.1)
   have Z2 := hid (z2.rows NE2.out.1)
   have HW := Below.refl wz.heap.size wz
   clear z1 z2
   obtain ⟨m1, hm1⟩ : ∃ m, L1.length = m := ⟨_, rfl⟩
   obtain ⟨m2, hm2⟩ : ∃ m, L2.length = m := ⟨_, rfl⟩
   rw [hm1] at hc1
   rw [hm2] at hd1
   rw [hm1, hm2]
   replace hm1 := hid hm1
   replace hm2 := hid hm2
   go_wp2_with fail
   go_loopw [85, 9] (fun ss sr wr => ∃ (i : Nat) (r : Int), ss = .int .i64 (i : Int) ∧ i ≤ m1 ∧ sr = .int .i64 r ∧ Hid (mxF (bR l) (L1.take i).flatten = r) ∧ -1099511627776 ≤ r ∧ r ≤ 8192 ∧ Below w.heap.size w wr ∧ Below wz.heap.size wz wr) (fun ss _ _ => m1 - (intOf ss).toNat)
   case atStart => exact ⟨0, _, rfl, by omega, rfl, rfl, by omega, by omega, HB, HW⟩
   case round =>
    clear HB HW
    obtain ⟨i, r, rfl, hi, rfl, hr, hr1, hr2, HB, HW⟩ := hrel
    by_cases hin : i < m1
    ·clear Z2 M2 NE2 hm2
     have hii : (i : Int) < (m1 : Int) := by omega
     have hil : i < L1.length := by have := hm1.out; omega
     obtain ⟨g, og, hA, gx, ox, cx, co, hcx⟩ := Z1.out i hil wr HW
     subst hA
     obtain ⟨C, hC⟩ : ∃ C, L1[i] = C := ⟨_, rfl⟩
     have hgt := hid fun (j : Nat) (hj : j < C.length) => (show C[j] < n ∧ r + gap + 0 ≤ bX l C[j] from by
      subst hC
      have h1 := M1.out.mem i hil j hj
      have h2 := M1.out.gt i hil j hj
      rw [hr.out] at h2
      exact ⟨h1, h2⟩)
     have hTs := hid (show (L1.take (i + 1)).flatten = (L1.take i).flatten ++ C from by rw [← hC]; exact flat_tk hil)
     have hk1 : 0 < C.length := by rw [← hC]; exact List.length_pos_iff.2 (NE1.out.1 _ (List.getElem_mem hil))
     have hk60 : C.length ≤ 60 := by
      have h1 := flat_tl hil
      have h2 := NE1.out.2
      rw [hC] at h1
      omega
     rw [hC] at co hcx
     obtain ⟨k, hk⟩ : ∃ k, C.length = k := ⟨_, rfl⟩
     rw [hk] at co hk1 hk60
     have hk0 : ¬ k = 0 := by omega
     have hk0' : ¬ (k : Int) = 0 := by omega
     obtain ⟨T, hT⟩ : ∃ T, (L1.take i).flatten = T := ⟨_, rfl⟩
     have hr' := hr.out
     rw [hT] at hr'
     replace hr := hid hr'
     replace hTs := hid (hTs.out.trans (by rw [hT]))
     replace hcx := hid hcx
     replace hk := hid hk
     clear hr' hT hC hk1
     have hI0 := Below.refl wr.heap.size wr
     go_wp2
     go_loopw [92, 13] (fun ss se wi => ∃ (j : Nat) (e : Int), ss = .int .i64 (j : Int) ∧ j ≤ k ∧ se = .int .i64 e ∧ Hid (mxF (bR l) (T ++ C.take j) = e) ∧ -1099511627776 ≤ e ∧ e ≤ 8192 ∧ Below wr.heap.size wr wi) (fun ss _ _ => k - (intOf ss).toNat)
     case atStart => exact ⟨0, r, rfl, by omega, rfl, by rw [List.take_zero, List.append_nil]; exact hr, hr1, hr2, hI0⟩
     case round =>
      clear hI0
      obtain ⟨j, e, rfl, hj, rfl, he, he1, he2, hI⟩ := hrel
      have HBi := bel_step HB hI
      by_cases hjk : j < k
      ·have hjj : (j : Int) < (k : Int) := by omega
       have hjl : j < C.length := by have := hk.out; omega
       have cj := keep_cell hI (hcx.out j hjl)
       unfold intV at cj
       obtain ⟨hxn, hgx⟩ := hgt.out j hjl
       have hes : mxF (bR l) (T ++ C.take (j + 1)) = max e (bR l C[j]) := by rw [List.take_succ_eq_append_getElem hjl, ← List.append_assoc, mxF_snoc, he.out]
       generalize C[j] = x at *
       obtain ⟨b, o, hA⟩ : ∃ b o, A = some ⟨b, o, none⟩ := by
        obtain ⟨b, o, hA, _⟩ := hl0.out.at_ (k := 0) (by have := hn.out; omega)
        exact ⟨b, o, hA⟩
       subst hA
       obtain ⟨q0, q1, q2, q3⟩ := (hl0.out.below HBi).xy hn.out hxn
       obtain ⟨k1, k2, k3, k4, k5, k6, k7, k8⟩ := okB_b (hok2.out x hxn)
       unfold bX at hgx
       unfold bR at hes
       generalize l.getD x default = bx at *
       obtain ⟨X, Y, W, H⟩ := bx
       dsimp only at q0 q1 q2 q3 k1 k2 k3 k4 k5 k6 k7 k8 hgx hes
       have hxx : (x : Int) < (n : Int) := by omega
       have w1' : IntKind.i64.wrap (X + W) = X + W := by rw [IntKind.wrap_i64]; omega
       have w2' : IntKind.i64.wrap (r + gap) = r + gap := by rw [IntKind.wrap_i64]; omega
       have hcmp : ¬ X < r + gap + 0 := by omega
       have hcmp2 : r + gap + 0 ≤ X := by omega
       simp only [Int.add_zero, Int.add_one_le_iff, Int.lt_add_one_iff] at hcmp hcmp2
       have hb1 : -1099511627776 ≤ max e (X + W) ∧ max e (X + W) ≤ 8192 := by omega
       replace hes := hid hes
       clear hgx he hr hTs hgt hcx HB HW hl0 hok2 k1 k2 k3 k4 k5 k6 k7 k8 Z1 M1 NE1
       go_upto_region 19 with fail
       go_quiet (fail)
       have hv : Below wr.heap.size wr (wr.drewN nq) := below_drewN (Below.refl _ _) _
       generalize hvq : wr.drewN nq = v2 at hv ⊢
       have hI2 := bel_step hI hv
       clear hvq hv q0 q1 q2 q3 cj hI HBi
       go_wp2
       go_roundw
       case rel => exact ⟨j + 1, max e (X + W), by go_num, by omega, rfl, hes, hb1.1, hb1.2, hI2⟩
       case measure => simp [intOf]; omega
      ·obtain rfl : j = k := by omega
       have hjj : ¬ (j : Int) < (j : Int) := by omega
       have hr3 := hid (show mxF (bR l) (L1.take (i + 1)).flatten = e from by
        rw [hTs.out]
        have h1 := he.out
        rwa [List.take_of_length_le (by have := hk.out; omega)] at h1)
       have HWi := bel_step HW hI
       clear HB HW hI he hr hTs hgt hcx hk hl0 hok2 Z1 M1 NE1
       go_wp2
       go_roundw
       case rel => exact ⟨i + 1, e, by go_num, by omega, rfl, hr3, he1, he2, HBi, HWi⟩
       case measure => simp [intOf]; omega
    ·obtain rfl : i = m1 := by omega
     have hii : ¬ (i : Int) < (i : Int) := by omega
     clear Z1 M1 NE1 hm1 hr hr1 hr2
     go_wp2_with fail
     go_loopw [126, 10] (fun ss sr wr => ∃ (i : Nat) (r : Int), ss = .int .i64 (i : Int) ∧ i ≤ m2 ∧ sr = .int .i64 r ∧ Hid (mxF (bB l) (L2.take i).flatten = r) ∧ -1099511627776 ≤ r ∧ r ≤ 8192 ∧ Below w.heap.size w wr ∧ Below wz.heap.size wz wr) (fun ss _ _ => m2 - (intOf ss).toNat)
     case atStart => exact ⟨0, _, rfl, by omega, rfl, rfl, by omega, by omega, HB, HW⟩
     case round =>
      clear HB HW hii
      obtain ⟨i, r, rfl, hi, rfl, hr, hr1, hr2, HB, HW⟩ := hrel
      by_cases hin : i < m2
      ·have hii : (i : Int) < (m2 : Int) := by omega
       have hil : i < L2.length := by have := hm2.out; omega
       obtain ⟨g, og, hA, gx, ox, cx, co, hcx⟩ := Z2.out i hil wr HW
       subst hA
       obtain ⟨C, hC⟩ : ∃ C, L2[i] = C := ⟨_, rfl⟩
       have hgt := hid fun (j : Nat) (hj : j < C.length) => (show C[j] < n ∧ r + gap + 1 ≤ bY l C[j] from by
        subst hC
        have h1 := M2.out.mem i hil j hj
        have h2 := M2.out.gt i hil j hj
        rw [hr.out] at h2
        exact ⟨h1, h2⟩)
       have hTs := hid (show (L2.take (i + 1)).flatten = (L2.take i).flatten ++ C from by rw [← hC]; exact flat_tk hil)
       have hk1 : 0 < C.length := by rw [← hC]; exact List.length_pos_iff.2 (NE2.out.1 _ (List.getElem_mem hil))
       have hk60 : C.length ≤ 60 := by
        have h1 := flat_tl hil
        have h2 := NE2.out.2
        rw [hC] at h1
        omega
       rw [hC] at co hcx
       obtain ⟨k, hk⟩ : ∃ k, C.length = k := ⟨_, rfl⟩
       rw [hk] at co hk1 hk60
       have hk0 : ¬ k = 0 := by omega
       have hk0' : ¬ (k : Int) = 0 := by omega
       obtain ⟨T, hT⟩ : ∃ T, (L2.take i).flatten = T := ⟨_, rfl⟩
       have hr' := hr.out
       rw [hT] at hr'
       replace hr := hid hr'
       replace hTs := hid (hTs.out.trans (by rw [hT]))
       replace hcx := hid hcx
       replace hk := hid hk
       clear hr' hT hC hk1
       have hI0 := Below.refl wr.heap.size wr
       go_wp2
       go_loopw [133, 18] (fun ss se wi => ∃ (j : Nat) (e : Int), ss = .int .i64 (j : Int) ∧ j ≤ k ∧ se = .int .i64 e ∧ Hid (mxF (bB l) (T ++ C.take j) = e) ∧ -1099511627776 ≤ e ∧ e ≤ 8192 ∧ Below wr.heap.size wr wi) (fun ss _ _ => k - (intOf ss).toNat)
       case atStart => exact ⟨0, r, rfl, by omega, rfl, by rw [List.take_zero, List.append_nil]; exact hr, hr1, hr2, hI0⟩
       case round =>
        clear hI0
        obtain ⟨j, e, rfl, hj, rfl, he, he1, he2, hI⟩ := hrel
        have HBi := bel_step HB hI
        by_cases hjk : j < k
        ·have hjj : (j : Int) < (k : Int) := by omega
         have hjl : j < C.length := by have := hk.out; omega
         have cj := keep_cell hI (hcx.out j hjl)
         unfold intV at cj
         obtain ⟨hxn, hgx⟩ := hgt.out j hjl
         have hes : mxF (bB l) (T ++ C.take (j + 1)) = max e (bB l C[j]) := by rw [List.take_succ_eq_append_getElem hjl, ← List.append_assoc, mxF_snoc, he.out]
         generalize C[j] = x at *
         obtain ⟨b, o, hA⟩ : ∃ b o, A = some ⟨b, o, none⟩ := by
          obtain ⟨b, o, hA, _⟩ := hl0.out.at_ (k := 0) (by have := hn.out; omega)
          exact ⟨b, o, hA⟩
         subst hA
         obtain ⟨q0, q1, q2, q3⟩ := (hl0.out.below HBi).xy hn.out hxn
         obtain ⟨k1, k2, k3, k4, k5, k6, k7, k8⟩ := okB_b (hok2.out x hxn)
         unfold bY at hgx
         unfold bB at hes
         generalize l.getD x default = bx at *
         obtain ⟨X, Y, W, H⟩ := bx
         dsimp only at q0 q1 q2 q3 k1 k2 k3 k4 k5 k6 k7 k8 hgx hes
         have hxx : (x : Int) < (n : Int) := by omega
         have w1' : IntKind.i64.wrap (Y + H) = Y + H := by rw [IntKind.wrap_i64]; omega
         have w2' : IntKind.i64.wrap (r + gap) = r + gap := by rw [IntKind.wrap_i64]; omega
         have hcmp : ¬ Y < r + gap + 1 := by omega
         have hcmp2 : r + gap + 1 ≤ Y := by omega
         simp only [Int.add_zero, Int.add_one_le_iff, Int.lt_add_one_iff] at hcmp hcmp2
         have hb1 : -1099511627776 ≤ max e (Y + H) ∧ max e (Y + H) ≤ 8192 := by omega
         replace hes := hid hes
         clear hgx he hr hTs hgt hcx HB HW hl0 hok2 k1 k2 k3 k4 k5 k6 k7 k8 Z2 M2 NE2
         go_upto_region 34 with fail
         go_quiet (fail)
         have hv : Below wr.heap.size wr (wr.drewN nq) := below_drewN (Below.refl _ _) _
         generalize hvq : wr.drewN nq = v2 at hv ⊢
         have hI2 := bel_step hI hv
         clear hvq hv q0 q1 q2 q3 cj hI HBi
         go_wp2
         go_roundw
         case rel => exact ⟨j + 1, max e (Y + H), by go_num, by omega, rfl, hes, hb1.1, hb1.2, hI2⟩
         case measure => simp [intOf]; omega
        ·obtain rfl : j = k := by omega
         have hjj : ¬ (j : Int) < (j : Int) := by omega
         have hr3 := hid (show mxF (bB l) (L2.take (i + 1)).flatten = e from by
          rw [hTs.out]
          have h1 := he.out
          rwa [List.take_of_length_le (by have := hk.out; omega)] at h1)
         have HWi := bel_step HW hI
         clear HB HW hI he hr hTs hgt hcx hk hl0 hok2 Z2 M2 NE2
         go_wp2
         go_roundw
         case rel => exact ⟨i + 1, e, by go_num, by omega, rfl, hr3, he1, he2, HBi, HWi⟩
         case measure => simp [intOf]; omega
      ·obtain rfl : i = m2 := by omega
       have hii : ¬ (i : Int) < (i : Int) := by omega
       clear Z2 M2 NE2 hm2 hr hr1 hr2 HW
       go_wp2_with fail
       refine (examples_ok _).mono ?_
       rintro e w8 ⟨rfl, hb⟩
       replace HB := bel_step HB hb
       clear hb
       go_wp2
       go_ret
       exact ⟨rfl, HB⟩
  ·have HG := hid fun (W : World) (hb : Below w.heap.size w W) => (show Calls Try.prog 17 #[.slice A n c, .int .i64 gap] W (RetLE W [] 3) from by
    have := GCol_c l A c gap (hl.below hb)
    rwa [colC_bad (by omega), hck, hn] at this)
   have HP := hid fun (W : World) (hb : Below w.heap.size w W) => (show Calls Try.prog 20 #[.slice A n c, .int .i64 gap] W (RetLE W [] 3) from by
    have h2 : parE l gap = ([], 3) := by unfold parE; rw [if_neg (by omega), hck]
    have := GPar_g l A c gap (hl.below hb)
    rwa [h2, hn] at this)
   rw [hn]
   clear hl hn hck
   go_enter Try.func7, Try.ntmps7
   go_wp2_with fail
   refine (HG.out _ HB).mono ?_
   rintro e w1 ⟨v1, rfl, z1, hb⟩
   replace HB := bel_step HB hb
   clear hb HG
   go_wp2_with fail
   refine (HP.out _ HB).mono ?_
   rintro e w2 ⟨v2, rfl, z2, hb⟩
   replace HB := bel_step HB hb
   clear hb HP
   obtain ⟨A1, c1, rfl, -, -⟩ := z1.form
   obtain ⟨A2, c2, rfl, -, -⟩ := z2.form
   clear z1 z2
   go_wp2_with fail
   refine (examples_ok _).mono ?_
   rintro e w8 ⟨rfl, hb⟩
   replace HB := bel_step HB hb
   clear hb
   go_wp2
   go_ret
   exact ⟨rfl, HB⟩
 ·have hbi : (60 : Int) < (n : Int) := by omega
  rw [hn]
  clear hl hn
  go_enter Try.func7, Try.ntmps7
  go_wp2_with fail
  refine (examples_ok _).mono ?_
  rintro e w8 ⟨rfl, hb⟩
  replace HB := bel_step HB hb
  clear hb
  go_wp2
  go_ret
  exact ⟨rfl, HB⟩
end Go.Proofs.Ytjdgjhaggpahkaa
