/- Homographies, the reference: walk of reduce. Conditions: none. -/
import Derived.Test.YtdkgbkbbbldliaaGreatZYT
import Derived.Test.YtdkgbkbbbldliaaGreatZYS
import Derived.Test.YtdkgbkbbbldliaaGreatZYI
set_option linter.unusedVariables false
set_option linter.unusedSimpArgs false
namespace Go.Proofs.YtdkgbkbbbldliaaGreat
open Go.RowKit Big
theorem RT54 : Tryz.prog.underlying 94 = some (.array 9 27) := Tryz.underlying94
set_option maxRecDepth 100000 in
theorem Xz {b : Bool} {n c : Nat} {A : Option Addr} {w : World} (t : Bool) (h : decide (n = 0) = t) :
  Calls Tryz.prog 80 #[.agg #[.bool b, .slice A n c]] w (RetB w t) := by
 have HT := hid h
 clear h
 go_enter Tryz.func80, Tryz.ntmps80
 go_wp2
 go_ret
 exact ⟨by rw [← HT.out]; simp; rw [Bool.eq_iff_iff]; simp, (Below.refl _ _).alloc (Nat.le_refl _) _⟩
theorem RS.setsg {w wr : World} {l : List ZE} {b b' : Bool} {G : Nat} (h : RS w l (sg b G) wr) (hG : G ≠ 0) : RS w l (sg b' G) (wr.setCell ⟨w.heap.size + 1 + 1, 0, none⟩ (.bool b')) := by
 obtain ⟨e, h1, h2, h3, h4⟩ := h.d
 have hm : ∀ A' c' xs', Mg wr A' c' xs' → Mg (wr.setCell ⟨w.heap.size + 1 + 1, 0, none⟩ (.bool b')) A' c' xs' := fun _ _ _ hh => hh.set_ _ _ _ _ h3 (by simp)
 refine ⟨Kg h.bel (by omega) _ _, Jh h.r0 (by omega), Jh h.r1 (by omega), h.z0.set_, h.z1.set_, h.z2.set_, fun x hx => (h.ok x hx).mv hm, ⟨⟨sg b' G, b', e.n, e.xs, e.A, e.c⟩, rfl, ⟨⟨?_, ?_, h2.i.hn⟩, hm _ _ _ h2.m⟩, Q6 h3, K6 (by omega) h4⟩⟩
 ·cases b' <;> simp [sg] <;> omega
 ·have := h2.i.hx
  rw [h1, Ja] at this
  show e.xs = _
  rw [Ja]
  exact this
theorem sgL_drop {zs : List Int} {i : Nat} (h : i < zs.length) : sgL (zs.drop i) = if zs[i] = 0 then sgL (zs.drop (i + 1)) else decide (zs[i] < 0) := by
 rw [List.drop_eq_getElem_cons h]
 rfl
set_option maxRecDepth 100000 in
set_option maxHeartbeats 8000000 in
theorem Gq (l : List ZE) (hl : l.length = 9) {w : World} (hok : ∀ e ∈ l, e.ok w) {k : Nat} (hk : k ≤ 16384) (hb : ∀ e ∈ l, Bz k e.z) :
  Calls Tryz.prog 99 #[.agg (Kc l).toArray] w (RetM w (redZ (l.map (·.z)))) := by
 have hi := hid (show (Tryz.prog.info? 94).map (·.size) = some (Kc l).length by rw [Kf, hl]; kernel_rfl)
 go_enter Tryz.func99, Tryz.ntmps99
 go_upto_region 2 with fail
 refine X5 (P := fun u => Code.wp _ _ _ _ u) (c2 := [.bool false, .slice none 0 0]) ?_
 intro u HB r0 r1 r2 zn0 zn1 zn2 hsz
 have hRS : RS w l ((gcdL ((l.map (·.z)).take 0) : Nat) : Int) u := ⟨HB, r0, r1, zn0, zn1, zn2, fun e he => (hok e he).below HB, ⟨ZE.zero, by simp [ZE.zero, gcdL], ZE.zero_ok u, r2 0 _ rfl, r2 1 _ rfl⟩⟩
 clear r0 r1 r2 zn0 zn1 zn2 hsz
 go_wp2
 go_loopw [4] (fun s4 wr => ∃ j : Nat, j ≤ 9 ∧ s4 = .int .i64 j ∧ RS w l ((gcdL ((l.map (·.z)).take j) : Nat) : Int) wr) (fun s4 _ => 9 - (intOf s4).toNat)
 case atStart => exact ⟨0, by omega, rfl, hRS⟩
 case round =>
  obtain ⟨j, hj, rfl, hS⟩ := hrel
  by_cases h9 : j < 9
  ·have hj2 : j < l.length := by omega
   have hx := hS.ok l[j] (List.getElem_mem hj2)
   have hgn := gcdL_take hj2
   have hbx := hb l[j] (List.getElem_mem hj2)
   have hbd := Vj hb j
   obtain ⟨t0, t1⟩ := Jn hS.r0 hj2
   generalize l[j] = e at *
   generalize hd1e : gcdL ((l.map (·.z)).take (j + 1)) = d1 at *
   have HQ := hid hd1e
   clear hd1e
   generalize gcdL ((l.map (·.z)).take j) = d0 at *
   obtain ⟨ed, hd1, hd2, k0, k1⟩ := hS.d
   obtain ⟨b', n', L', I'⟩ := iz (d1 : Int)
   have HG := hid fun (w1 : World) (h : Below wr.heap.size wr w1) => HRgcd_g (w := w1) hd2.i hx.i I'.out (hd2.m.below h) (hx.m.below h) (by rw [hd1]; exact hbd.ft hk) (hbx.ft hk) (by rw [hd1, Int.natAbs_natCast, hgn])
   obtain ⟨ez, eb, en, exs, eA, ec⟩ := e
   obtain ⟨dz, db, dn, dxs, dA, dc⟩ := ed
   dsimp only at *
   have HS := hid hS
   have lt2 := Kd k0
   have lt0 := Kd t0
   have h9i : (j : Int) < 9 := by omega
   have HB := Below.refl wr.heap.size wr
   clear hS hx hgn hbx hbd hd1 hd2 hRS hok hb
   go_wp2_with fail
   refine Ords.start (x := 5) (S := fun w' => (w'.cell? ⟨w.heap.size + 1 + 1, 0, none⟩ = some (.bool db) ∧ w'.cell? ⟨w.heap.size + 1 + 1, 1, none⟩ = some (.slice dA dn dc)) ∧ (w'.cell? ⟨w.heap.size, j * 2, none⟩ = some (.bool eb) ∧ w'.cell? ⟨w.heap.size, j * 2 + 1, none⟩ = some (.slice eA en ec))) (by kernel_rfl) ?_ (fun hHeld => ?_)
   ·exact ⟨⟨k0, k1⟩, ⟨t0, t1⟩⟩
   refine' Ords.take (i := 0) ?_ ?_ ?_ ?_ ?_ ?_ ?_ ?_ ?_
   rotate_left 2
   ·(simp only [List.getElem?_toArray, List.getElem?_cons_succ, List.getElem?_cons_zero]; rfl)
   ·kernel_rfl
   ·kernel_rfl
   ·kernel_rfl
   ·kernel_rfl
   ·exact fun _ _ _ h => h
   ·(refine Or.inl ⟨by rfl, ?_⟩; intro w_ hSw_; (try dsimp only at hSw_); go_simp; (try with_reducible rfl))
   ·assumption
   (try simp only [Act.put, Lp0, Lp1, Lp2])
   refine' Ords.take (i := 1) ?_ ?_ ?_ ?_ ?_ ?_ ?_ ?_ ?_
   rotate_left 2
   ·(simp only [List.getElem?_toArray, List.getElem?_cons_succ, List.getElem?_cons_zero]; rfl)
   ·kernel_rfl
   ·kernel_rfl
   ·kernel_rfl
   ·kernel_rfl
   ·exact fun _ _ _ h => h
   ·(refine Or.inl ⟨by rfl, ?_⟩; intro w_ hSw_; (try dsimp only at hSw_); go_simp; (try with_reducible rfl))
   ·assumption
   (try simp only [Act.put, Lp0, Lp1, Lp2])
   refine' Ords.take (i := 2) ?_ ?_ ?_ ?_ ?_ ?_ ?_ ?_ ?_
   rotate_left 2
   ·(simp only [List.getElem?_toArray, List.getElem?_cons_succ, List.getElem?_cons_zero]; rfl)
   ·kernel_rfl
   ·kernel_rfl
   ·kernel_rfl
   ·kernel_rfl
   ·exact fun _ _ _ h => h
   ·(refine Or.inl ⟨by rfl, ?_⟩; intro w_ hSw_; (try dsimp only at hSw_); go_simp; (try with_reducible rfl))
   ·assumption
   (try simp only [Act.put, Lp0, Lp1, Lp2])
   refine' Ords.take (i := 3) ?_ ?_ ?_ ?_ ?_ ?_ ?_ ?_ ?_
   rotate_left 2
   ·(simp only [List.getElem?_toArray, List.getElem?_cons_succ, List.getElem?_cons_zero]; rfl)
   ·kernel_rfl
   ·kernel_rfl
   ·kernel_rfl
   ·kernel_rfl
   ·exact fun _ _ _ h => h
   ·(refine Or.inl ⟨by rfl, ?_⟩; intro w_ hSw_; (try dsimp only at hSw_); go_simp; (try with_reducible rfl))
   ·assumption
   (try simp only [Act.put, Lp0, Lp1, Lp2])
   refine' Ords.step (i := 4) (by kernel_rfl) (by simp only [List.getElem?_toArray, List.getElem?_cons_succ, List.getElem?_cons_zero]; rfl) (fun K hK => ?_)
   go_simp
   (go_at_call 85; (with_reducible refine (HG.out _ (Kb HB BG)).mono ?_); rintro e v1 ⟨R2, d2, rfl, m2, hq2⟩; have qv1 : Below wr.heap.size wr v1 := Kb BG hq2; have k0 := Ka qv1 k0; have k1 := Ka qv1 k1; have fz := (HS.out.z2.below qv1).fr)
   (try go_wp2_with fail)
   refine' HKa hK (by (first | ((try dsimp only); repeat' (first | with_reducible assumption | apply And.intro | (with_reducible refine Kk ?_) | (with_reducible refine Kn ?_) | (with_reducible refine Kh (by omega) ?_) | (with_reducible refine Kp (by omega) ?_) | (with_reducible refine Ka (W := wr) ?_ ?_) | fail)))) (fun hHeld => ?_)
   clear hK K
   refine' Ords.last (by kernel_rfl) (by simp only [List.getElem?_toArray, List.getElem?_cons_succ, List.getElem?_cons_zero]; rfl) (by kernel_rfl) (fun K hK => ?_)
   go_simp
   (try go_wp2_with fail)
   refine hK.out _ _ ?_
   clear hK K
   (try simp only [Act.put, Lp0, Lp1, Lp2])
   go_wp2
   go_roundw
   case rel => exact ⟨j + 1, by omega, by go_num, by rw [HQ.out]; exact (HS.out.below qv1).setd I'.out m2⟩
   case measure => simp [intOf]; omega
  ·obtain rfl : j = 9 := by omega
   have hS2 : RS w l ((gcdL (l.map (·.z)) : Nat) : Int) wr := by rwa [List.take_of_length_le (by simp; omega)] at hS
   clear hS hRS
   obtain ⟨ed, hd1, hd2, k0, k1⟩ := hS2.d
   have hz0 : ed.n = 0 ↔ gcdL (l.map (·.z)) = 0 := by rw [hd2.i.zero, hd1]; omega
   by_cases h0 : gcdL (l.map (·.z)) = 0
   ·have HR : Hid (redZ (l.map (·.z)) = l.map (·.z)) := by unfold Hid redZ; rw [if_pos h0]
    have HZ := hid fun (w1 : World) => Xz (b := ed.b) (n := ed.n) (c := ed.c) (A := ed.A) (w := w1) true (by simp [hz0, h0])
    have HS := hid hS2
    have h18 : (Kc l).length = 18 := by rw [Kf, hl]
    clear hS2 hz0 h0 hd1 hd2
    obtain ⟨dz, db, dn, dxs, dA, dc⟩ := ed
    dsimp only at *
    go_wp2_with fail
    refine (HZ.out _).mono ?_
    rintro e w1 ⟨rfl, h1⟩
    have HS1 := hid (HS.out.below h1)
    have r0 := HS1.out.r0
    have ht := Kq HS1.out.r1 HS1.out.z1
    rw [show (Kc Kx).length = (Kc l).toArray.size by rw [List.size_toArray, Kf, Kf, hl]; rfl] at ht
    have hi' := hid (show (Tryz.prog.info? 94).map (·.size) = some (Kc l).toArray.size by rw [List.size_toArray, Kf, hl]; kernel_rfl)
    have ho := all_oneCell_toArray (Km l)
    obtain ⟨F1, F2, F3, F4⟩ := Ju (w := w) (l := l) (cs := Kx) RT54 rfl hi.out HS1.out.bel (by omega) HS1.out.r1 HS1.out.z1 (by rw [hl]; rfl) HS1.out.ok
    have HF := hid (And.intro F3 F4)
    clear F1 F3 F4 HS1 HS h1
    go_wp2_with (first | refine wpList_load_mid (by rfl) _ _ (by rfl) w.heap.size 0 (by rfl) (Kc l) _ r0 RT54 (by rfl) hi.out ?_ | refine wpList_store_mid (by rfl) _ _ _ (by rfl) (w.heap.size + 1) 0 (Kc l).toArray (by rfl) (by rfl) ht hi'.out ho ?_ | fail)
    refine bodyPost_ret (v := .agg (Kc l).toArray) ?_ rfl ?_
    ·simp [results, Tryz.results99, Sem.run_bind, asAddr, Act.put, F2]
    ·rw [HR.out]
     exact ⟨l, rfl, rfl, HF.out.2, HF.out.1⟩
   ·have HZ := hid fun (w1 : World) => Xz (b := ed.b) (n := ed.n) (c := ed.c) (A := ed.A) (w := w1) false (by simp [hz0, h0])
    have HS := hid hS2
    clear hS2 hz0 hd1 hd2
    obtain ⟨dz, db, dn, dxs, dA, dc⟩ := ed
    dsimp only at *
    go_wp2_with fail
    refine (HZ.out _).mono ?_
    rintro e w1 ⟨rfl, h1⟩
    have HS1 := hid (HS.out.below h1)
    clear HS k0 k1 HZ h1
    go_wp2
    go_loopw [5] (fun s5 wr => ∃ j : Nat, j ≤ 9 ∧ s5 = .int .i64 ((j : Int) - 1) ∧ RS w l (sg (sgL ((l.map (·.z)).drop j)) (gcdL (l.map (·.z)))) wr) (fun s5 _ => (intOf s5 + 1).toNat)
    case atStart => exact ⟨9, by omega, rfl, by rw [List.drop_of_length_le (by simp; omega)]; exact HS1.out⟩
    case round =>
     obtain ⟨j, hj, rfl, hS⟩ := hrel
     by_cases hj0 : 0 < j
     ·obtain ⟨i, rfl⟩ : ∃ i, j = i + 1 := ⟨j - 1, by omega⟩
      have hj2 : i < l.length := by omega
      have hx := hS.ok l[i] (List.getElem_mem hj2)
      obtain ⟨t0, t1⟩ := Jn hS.r0 hj2
      have hsd := sgL_drop (zs := l.map (·.z)) (i := i) (by simpa using hj2)
      rw [List.getElem_map] at hsd
      have ei : ((i + 1 : Nat) : Int) - 1 = (i : Int) := by omega
      rw [ei]
      have hi9 : (i : Int) < 9 := by omega
      have hi0 : (0 : Int) ≤ (i : Int) := by omega
      have e2 : IntKind.i64.wrap ((i : Int) - 1) = (i : Int) - 1 := by rw [IntKind.wrap_i64]; omega
      by_cases hx0 : l[i].z = 0
      ·rw [if_pos hx0] at hsd
       rw [← hsd] at hS
       have HZ := hid fun (w1 : World) => Xz (b := l[i].b) (n := l[i].n) (c := l[i].c) (A := l[i].A) (w := w1) true (by simp [hx.i.zero, hx0])
       generalize l[i] = e at *
       obtain ⟨ez, eb, en, exs, eA, ec⟩ := e
       dsimp only at *
       have HS := hid hS
       clear hS hx hx0 hsd hok hb HS1
       go_wp2_with fail
       refine (HZ.out _).mono ?_
       rintro e' w2 ⟨rfl, h2⟩
       go_wp2
       go_roundw
       case rel => exact ⟨i, by omega, rfl, HS.out.below h2⟩
       case measure => simp [intOf]
      ·rw [if_neg hx0] at hsd
       have HZ := hid fun (w1 : World) => Xz (b := l[i].b) (n := l[i].n) (c := l[i].c) (A := l[i].A) (w := w1) false (by simp [hx.i.zero, hx0])
       have hbb := hx.i.hb
       generalize l[i] = e at *
       obtain ⟨ez, eb, en, exs, eA, ec⟩ := e
       dsimp only at *
       rw [← hbb] at hsd
       obtain ⟨ed, hd1, hd2, k0, k1⟩ := hS.d
       obtain ⟨dz, db, dn, dxs, dA, dc⟩ := ed
       dsimp only at *
       have HS := hid hS
       have HSD := hid hsd
       clear hS hx hx0 hsd hok hb HS1 hd1 hd2 hbb
       go_wp2_with fail
       refine (HZ.out _).mono ?_
       rintro e' w2 ⟨rfl, h2⟩
       have k0 := Ka h2 k0
       have t0 := Ka h2 t0
       have fz := (HS.out.z2.below h2).fr
       go_wp2
       go_roundw
       case rel => exact ⟨i, by omega, rfl, by rw [HSD.out]; exact (HS.out.below h2).setsg h0⟩
       case measure => simp [intOf]
     ·obtain rfl : j = 0 := by omega
      simp only [List.drop_zero] at hS
      have HR : Hid (redZ (l.map (·.z)) = (l.map (·.z)).map fun x => dmQ x (sg (sgL (l.map (·.z))) (gcdL (l.map (·.z))))) := by unfold Hid redZ; rw [if_neg h0]
      have hD0 := sg_ne (b := sgL (l.map (·.z))) h0
      have hbD : Bz k (sg (sgL (l.map (·.z))) (gcdL (l.map (·.z)))) := by
       have := D2 (l := l.map (·.z)) (k := k) (by intro x hx; obtain ⟨e, he, rfl⟩ := List.mem_map.1 hx; exact hb e he)
       unfold Bz at *
       rw [Ja]
       simpa using this
      generalize sg (sgL (l.map (·.z))) (gcdL (l.map (·.z))) = D at *
      obtain ⟨ed, hd1, hd2, k0, k1⟩ := hS.d
      have r0 := hS.r0
      have h18 : (Kc l).length = 18 := by rw [Kf, hl]
      have F1 := Jt (w := wr) hl 94 (by kernel_rfl)
      have hHS := hid hS
      clear HS1
      go_upto_region 13 with fail
      go_upto_region 14 with (first | refine wpList_load_mid (by rfl) _ _ (by rfl) w.heap.size 0 (by rfl) (Kc l) _ r0 RT54 (by rfl) hi.out ?_ | fail)
      refine Kw (P := fun u => Code.wp _ _ _ _ u) ?_
      intro v hv q0 qz hsz
      have hv0 := hid hv
      have hS := hS.below hv
      have hkb : v.rangeAt (w.heap.size + 1 + 1) 0 (Kc [ed]) := fun j x hx => by
       match j, hx with
       | 0, hx => obtain rfl := Option.some.inj hx; exact Ka hv k0
       | 1, hx => obtain rfl := Option.some.inj hx; exact Ka hv k1
      have hF : Fil w [(w.heap.size, Kc l), (w.heap.size + 1, Kc Kx), (w.heap.size + 1 + 1, Kc [ed])] wr.heap.size (((l.map (·.z)).take 0).map (dmQ · D) ++ (l.map (·.z)).drop 0) v := ⟨hS.bel, by
       intro p hp
       have h2 := hHS.out.z2.lt
       simp only [List.mem_cons, List.not_mem_nil, or_false] at hp
       rcases hp with rfl | rfl | rfl
       ·exact ⟨hS.r0, hS.z0, by dsimp only; omega⟩
       ·exact ⟨hS.r1, hS.z1, by dsimp only; omega⟩
       ·exact ⟨hkb, hS.z2, by dsimp only; omega⟩, qz, by have := hHS.out.z2.lt; omega, l, q0, hS.ok, by simp⟩
      obtain ⟨gm, hgm⟩ : ∃ gm, gm = wr.heap.size := ⟨_, rfl⟩
      rw [← hgm] at hF ⊢
      clear hgm hkb q0 qz hsz hv r0 k0 k1 hHS F1 hS
      have hdi := hd2.i
      have hdv := hd2.m.below hv0.out
      go_wp2
      go_loopw [7] (fun s7 wr => ∃ j : Nat, j ≤ 9 ∧ s7 = .int .i64 j ∧ Fil w [(w.heap.size, Kc l), (w.heap.size + 1, Kc Kx), (w.heap.size + 1 + 1, Kc [ed])] gm (((l.map (·.z)).take j).map (dmQ · D) ++ (l.map (·.z)).drop j) wr ∧ Mg wr ed.A ed.c ed.xs) (fun s7 _ => 9 - (intOf s7).toNat)
      case atStart => exact ⟨0, by omega, rfl, hF, hdv⟩
      case round =>
       obtain ⟨j, hj, rfl, hS, hmd⟩ := hrel
       clear hF hdv
       by_cases h9 : j < 9
       ·have hj2 : j < l.length := by omega
        have h9i : (j : Int) < 9 := by omega
        obtain ⟨x0, y0, n0⟩ := hS.k (w.heap.size, Kc l) (by simp)
        obtain ⟨x2, y2, n2⟩ := hS.k (w.heap.size + 1 + 1, Kc [ed]) (by simp)
        dsimp only at x0 x2 n0 n2
        obtain ⟨t0, t1⟩ := Jn x0 hj2
        have k0 : wr.cell? ⟨w.heap.size + 1 + 1, 0, none⟩ = some (.bool ed.b) := x2 0 _ rfl
        have k1 : wr.cell? ⟨w.heap.size + 1 + 1, 1, none⟩ = some (.slice ed.A ed.n ed.c) := x2 1 _ rfl
        have hx := (hok l[j] (List.getElem_mem hj2)).below hS.b
        have hbx := hb l[j] (List.getElem_mem hj2)
        have hu := upd_take (l.map (·.z)) (dmQ · D) j (by simpa using hj2)
        rw [List.getElem_map] at hu
        have hlen : (((l.map (·.z)).take j).map (dmQ · D) ++ (l.map (·.z)).drop j).length = 9 := by simp; omega
        obtain ⟨td, _, _, c0, c1⟩ := hS.cell (j := j) (by omega)
        generalize l[j] = e at *
        obtain ⟨b', n', L', I'⟩ := iz (dmQ e.z D)
        have HG := hid fun (w1 : World) (h : Below wr.heap.size wr w1) => Q8 (w := w1) hx.i hdi I'.out (hx.m.below h) (hmd.below h) (hbx.ft hk) (by rw [hd1]; exact hbD.ft hk) (by rw [hd1]; exact hD0) (by rw [hd1])
        have HU := hid hu
        have HS := hid hS
        have HMD := hid hmd
        obtain ⟨ez, eb, en, exs, eA, ec⟩ := e
        obtain ⟨zd_, bd_, nd_, xd_, Ad_, cd_⟩ := td
        dsimp only at *
        have lt0 := Kd t0
        have lt2 := Kd k0
        have lt3 := Kd c0
        have HB := Below.refl wr.heap.size wr
        clear hS hx hbx hu x0 x2 y0 y2 hmd hok hb
        generalize ed.b = db at *
        generalize hdA : ed.A = dA at *
        generalize ed.n = dn at *
        generalize hdc : ed.c = dc at *
        have HdA := hid hdA
        have Hdc := hid hdc
        clear hdA hdc
        go_wp2_with fail
        go_region_held3 (fun w' => (w'.cell? ⟨w.heap.size + 1 + 1, 0, none⟩ = some (.bool db) ∧ w'.cell? ⟨w.heap.size + 1 + 1, 1, none⟩ = some (.slice dA dn dc)) ∧ (w'.cell? ⟨w.heap.size, j * 2, none⟩ = some (.bool eb) ∧ w'.cell? ⟨w.heap.size, j * 2 + 1, none⟩ = some (.slice eA en ec))) (first | ((try dsimp only); repeat' (first | with_reducible assumption | apply And.intro | (with_reducible refine Kk ?_) | (with_reducible refine Kn ?_) | (with_reducible refine Kh (by omega) ?_) | (with_reducible refine Kp (by omega) ?_) | (with_reducible refine Ka (W := wr) ?_ ?_) | fail))) ((go_at_call 84; (with_reducible refine (HG.out _ (Kb HB BG)).mono ?_); rintro e v1 ⟨R2, d2, rfl, m2, hq2⟩; have qv1 : Below wr.heap.size wr v1 := Kb BG hq2; have c0 := Ka qv1 c0; have c1 := Ka qv1 c1; have fz := (HS.out.zm.below qv1).fr))
        all_goals
         have hS1 := HS.out.below qv1
         obtain ⟨lm, f2, f3, f4⟩ := hS1.ex
         have hlm : j < lm.length := by rw [← List.length_map (·.z), f4]; omega
         have hF5 := hS1.set (j := j) (by omega) I'.out m2
         rw [HU.out] at hF5
         have hM5 := Yc (u0 := .bool b') (u1 := .slice R2 n' d2) f2 hlm (HMD.out.below qv1)
         have HF5 := hid hF5
         have HM5 := hid hM5
         clear hF5 hM5 hS1 f2 f3 f4 hlm
         go_wp2
         go_roundw
         case rel => exact ⟨j + 1, by omega, by go_num, HF5.out, HM5.out⟩
         case measure => simp [intOf]; omega
       ·obtain rfl : j = 9 := by omega
        rw [List.take_of_length_le (by simp; omega), List.drop_of_length_le (by simp; omega), List.append_nil, ← HR.out] at hS
        obtain ⟨lm, e2, e3, e4⟩ := hS.ex
        obtain ⟨q1, z1, _⟩ := hS.k (w.heap.size + 1, Kc Kx) (by simp)
        dsimp only at q1 z1
        have e1 : lm.length = 9 := by rw [← List.length_map (·.z), e4, Q4]; simpa using hl
        have hi9 := hid (show (Tryz.prog.info? 94).map (·.size) = some (Kc lm).length by rw [Kf, e1]; kernel_rfl)
        have hi9' := hid (show (Tryz.prog.info? 94).map (·.size) = some (Kc lm).toArray.size by rw [List.size_toArray, Kf, e1]; kernel_rfl)
        obtain ⟨G1, G2, G3, G4⟩ := Ju (w := w) (l := lm) (cs := Kx) RT54 rfl hi9.out hS.b (by omega) q1 z1 (by rw [e1]; rfl) e3
        have HF := hid (And.intro e4 (And.intro G3 G4))
        have ht := Kq q1 z1
        rw [show (Kc Kx).length = (Kc lm).toArray.size by rw [List.size_toArray, Kf, Kf, e1]; rfl] at ht
        have ho := all_oneCell_toArray (Km lm)
        clear e1 e3 e4 G1 G3 G4 hS q1 z1 hmd
        go_wp2_with (first | refine wpList_load_mid (by rfl) _ _ (by rfl) gm 0 (by rfl) (Kc lm) _ e2 RT54 (by rfl) hi9.out ?_ | refine wpList_store_mid (by rfl) _ _ _ (by rfl) (w.heap.size + 1) 0 (Kc lm).toArray (by rfl) (by rfl) ht hi9'.out ho ?_ | fail)
        refine bodyPost_ret (v := .agg (Kc lm).toArray) ?_ rfl ?_
        ·simp [results, Tryz.results99, Sem.run_bind, asAddr, Act.put, G2]
        ·exact ⟨lm, rfl, HF.out.1, HF.out.2.2, HF.out.2.1⟩
set_option maxRecDepth 100000 in
set_option maxHeartbeats 8000000 in
theorem Qt (row col p t q u : Nat) (hr : row < 3) (hc : col < 3) (hp : p = 3 * ((row + 1) % 3) + (col + 1) % 3) (ht : t = 3 * ((row + 2) % 3) + (col + 2) % 3) (hq : q = 3 * ((row + 1) % 3) + (col + 2) % 3) (hu : u = 3 * ((row + 2) % 3) + (col + 1) % 3)
  {l : List ZE} (hl : l.length = 9) {w : World} (hok : ∀ e ∈ l, e.ok w) {k : Nat} (hk : 2 * k + 1 ≤ 16384) (hb : ∀ e ∈ l, Bz k e.z) {b : Bool} {n : Nat} {xs : List Nat} (I : Iz ((l[p]'(by omega)).z * (l[t]'(by omega)).z - (l[q]'(by omega)).z * (l[u]'(by omega)).z) b n xs) :
  Calls Tryz.prog 107 #[.agg (Kc l).toArray, .int .i64 row, .int .i64 col] w (GZ w b n xs) := by
 have ho := fun k (h : k < l.length) => And.intro (hok l[k] (List.getElem_mem h)) (hb l[k] (List.getElem_mem h))
 have hp9 : p < 9 := by omega
 have ht9 : t < 9 := by omega
 have hq9 : q < 9 := by omega
 have hu9 : u < 9 := by omega
 obtain ⟨⟨op, bp_⟩, ⟨ot, bt⟩, ⟨oq, bq⟩, ⟨ou, bu⟩⟩ := And.intro (ho p (by omega)) (And.intro (ho t (by omega)) (And.intro (ho q (by omega)) (ho u (by omega))))
 clear ho
 have HC := hid fun (v : World) (r0 : v.rangeAt w.heap.size 0 (Kc l)) => And.intro (Jn r0 (show p < l.length by omega)) (And.intro (Jn r0 (show t < l.length by omega)) (And.intro (Jn r0 (show q < l.length by omega)) (Jn r0 (show u < l.length by omega))))
 generalize (l[p]'(by omega)) = ep at *
 generalize (l[t]'(by omega)) = et at *
 generalize (l[q]'(by omega)) = eq_ at *
 generalize (l[u]'(by omega)) = eu at *
 obtain ⟨y1, k1, L1, I1⟩ := iz (ep.z * et.z)
 obtain ⟨y2, k2, L2, I2⟩ := iz (eq_.z * eu.z)
 have H1 := hid fun (W : World) (h : Below w.heap.size w W) => Jy (w := W) op.i ot.i I1.out (op.m.below h) (ot.m.below h) (bp_.ft (by omega)) (bt.ft (by omega)) ((bp_.mul bt).ft (by omega)) rfl
 have H2 := hid fun (W : World) (h : Below w.heap.size w W) => Jy (w := W) oq.i ou.i I2.out (oq.m.below h) (ou.m.below h) (bq.ft (by omega)) (bu.ft (by omega)) ((bq.mul bu).ft (by omega)) rfl
 have H3 := hid fun (W : World) (R Q : Option Addr) (c d : Nat) (m1 : Mg W R c L1) (m2 : Mg W Q d L2) => HRsub_g (w := W) I1.out I2.out I m1 m2 ((bp_.mul bt).ft (by omega)) ((bq.mul bu).ft (by omega)) ((Bz.minor bp_ bq bu bt).ft (by omega)) rfl
 clear op ot oq ou bp_ bt bq bu I I1 I2 hok hb
 obtain ⟨zp, bp2, np, xp, Ap, cp⟩ := ep
 obtain ⟨zt, bt2, nt, xt, At, ct⟩ := et
 obtain ⟨zq, bq2, nq, xq, Aq, cq⟩ := eq_
 obtain ⟨zu, bu2, nu, xu, Au, cu⟩ := eu
 dsimp only at *
 obtain ⟨a, ha⟩ : ∃ a, a = (row + 1) % 3 := ⟨_, rfl⟩
 obtain ⟨b', hb'⟩ : ∃ a, a = (row + 2) % 3 := ⟨_, rfl⟩
 obtain ⟨c, hc'⟩ : ∃ a, a = (col + 1) % 3 := ⟨_, rfl⟩
 obtain ⟨d, hd'⟩ : ∃ a, a = (col + 2) % 3 := ⟨_, rfl⟩
 rw [← ha, ← hc'] at hp
 rw [← hb', ← hd'] at ht
 rw [← ha, ← hd'] at hq
 rw [← hb', ← hc'] at hu
 have w1 : IntKind.i64.wrap ((row : Int) + 1) = (row : Int) + 1 := by rw [IntKind.wrap_i64]; omega
 have w2 : IntKind.i64.wrap ((row : Int) + 2) = (row : Int) + 2 := by rw [IntKind.wrap_i64]; omega
 have w3 : IntKind.i64.wrap ((col : Int) + 1) = (col : Int) + 1 := by rw [IntKind.wrap_i64]; omega
 have w4 : IntKind.i64.wrap ((col : Int) + 2) = (col : Int) + 2 := by rw [IntKind.wrap_i64]; omega
 have m1 : ((row : Int) + 1) % 3 = (a : Int) := by omega
 have m2 : ((row : Int) + 2) % 3 = (b' : Int) := by omega
 have m3 : ((col : Int) + 1) % 3 = (c : Int) := by omega
 have m4 : ((col : Int) + 2) % 3 = (d : Int) := by omega
 obtain ⟨A3, hA3⟩ : ∃ x : Int, 3 * (a : Int) = x := ⟨_, rfl⟩
 obtain ⟨B3, hB3⟩ : ∃ x : Int, 3 * (b' : Int) = x := ⟨_, rfl⟩
 have x1 : IntKind.i64.wrap (3 * (a : Int)) = A3 := by rw [IntKind.wrap_i64]; omega
 have x2 : IntKind.i64.wrap (3 * (b' : Int)) = B3 := by rw [IntKind.wrap_i64]; omega
 have x3 : IntKind.i64.wrap (A3 + (c : Int)) = (p : Int) := by rw [IntKind.wrap_i64]; omega
 have x4 : IntKind.i64.wrap (B3 + (d : Int)) = (t : Int) := by rw [IntKind.wrap_i64]; omega
 have x5 : IntKind.i64.wrap (A3 + (d : Int)) = (q : Int) := by rw [IntKind.wrap_i64]; omega
 have x6 : IntKind.i64.wrap (B3 + (c : Int)) = (u : Int) := by rw [IntKind.wrap_i64]; omega
 have p1 : (p : Int) < 9 := by omega
 have p2 : (t : Int) < 9 := by omega
 have p3 : (q : Int) < 9 := by omega
 have p4 : (u : Int) < 9 := by omega
 clear hp ht hq hu ha hb' hc' hd' hA3 hB3 hr hc hl
 go_enter Tryz.func107, Tryz.ntmps107
 go_upto_region 1 with fail
 refine Jc (P := fun u => Code.wp _ _ _ _ u) (c1 := [.bool false, .slice none 0 0]) ?_
 intro v HB r0 r1 zn0 zn1 hsz
 obtain ⟨⟨s0, s1⟩, ⟨s2, s3⟩, ⟨s4, s5⟩, ⟨s6, s7⟩⟩ := HC.out v r0
 have q0 : v.cell? ⟨w.heap.size + 1, 0, none⟩ = some (.bool false) := r1 0 _ rfl
 have q1 : v.cell? ⟨w.heap.size + 1, 1, none⟩ = some (.slice none 0 0) := r1 1 _ rfl
 have lt0 := Kd s0
 clear r0 r1 hsz HC
 go_wp2_with fail
 go_region_held3 (fun w' => (w'.cell? ⟨w.heap.size, p * 2, none⟩ = some (.bool bp2) ∧ w'.cell? ⟨w.heap.size, p * 2 + 1, none⟩ = some (.slice Ap np cp)) ∧ (w'.cell? ⟨w.heap.size, t * 2, none⟩ = some (.bool bt2) ∧ w'.cell? ⟨w.heap.size, t * 2 + 1, none⟩ = some (.slice At nt ct)) ∧ (w'.cell? ⟨w.heap.size, q * 2, none⟩ = some (.bool bq2) ∧ w'.cell? ⟨w.heap.size, q * 2 + 1, none⟩ = some (.slice Aq nq cq)) ∧ (w'.cell? ⟨w.heap.size, u * 2, none⟩ = some (.bool bu2) ∧ w'.cell? ⟨w.heap.size, u * 2 + 1, none⟩ = some (.slice Au nu cu))) (first | ((try dsimp only); repeat' (first | with_reducible assumption | apply And.intro | (with_reducible refine Kk ?_) | (with_reducible refine Kn ?_) | (with_reducible refine Kh (by omega) ?_) | (with_reducible refine Kp (by omega) ?_) | (with_reducible refine Ka (W := v) ?_ ?_) | fail))) (first | (go_at_call 79; (with_reducible refine (H1.out _ (Kb HB BG)).mono ?_); rintro e v1 ⟨R1, d1, rfl, m1, hq1⟩; have qv1 : Below v.heap.size v v1 := Kb BG hq1) | (go_at_call 79; (with_reducible refine (H2.out _ (Kb HB BG)).mono ?_); rintro e v2 ⟨R2, d2, rfl, m2, hq2⟩; have qv2 : Below v.heap.size v v2 := Kb BG hq2; have m1 := m1.below (w' := v2) BG) | (go_at_call 83; (with_reducible refine (H3.out _ _ _ _ _ m1 m2).mono ?_); rintro e v3 ⟨R3, d3, rfl, m3, hq3⟩; have qv3 : Below v.heap.size v v3 := Kb qv2 hq3; have q0 := Ka qv3 q0; have q1 := Ka qv3 q1; have fz := (zn1.below qv3).fr))
 all_goals
  replace HB := Kb HB qv3
  go_wp2
  refine bodyPost_ret (v := .agg #[.bool b, .slice R3 n d3]) ?_ rfl ?_
  ·simp [results, Tryz.results107, go_sem, q0, q1]
  ·obtain ⟨j1_, j2_⟩ := Z1 m3 HB (by omega) q0 q1 (.bool b) (.slice R3 n d3)
   exact ⟨R3, d3, rfl, j1_, j2_⟩
end Go.Proofs.YtdkgbkbbbldliaaGreat
