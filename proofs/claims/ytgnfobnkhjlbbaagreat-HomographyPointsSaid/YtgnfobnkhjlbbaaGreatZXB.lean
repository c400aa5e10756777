/- Homographies, the reference: walk of reduce. Conditions: none. -/
import Derived.Test.YtgnfobnkhjlbbaaGreatZYT
import Derived.Test.YtgnfobnkhjlbbaaGreatZYS
import Derived.Test.YtgnfobnkhjlbbaaGreatZYI
set_option linter.unusedVariables false
set_option linter.unusedSimpArgs false
namespace Go.Proofs.YtgnfobnkhjlbbaaGreat
open Go.RowKit Big
theorem RT54 : Tryz.prog.underlying 54 = some (.array 9 24) := Tryz.underlying54
set_option maxRecDepth 100000 in
theorem HRzero_g {b : Bool} {n c : Nat} {A : Option Addr} {w : World} (t : Bool) (h : decide (n = 0) = t) :
  Calls Tryz.prog 51 #[.agg #[.bool b, .slice A n c]] w (RetB w t) := by
 have HT := hid h
 clear h
 go_enter Tryz.func51, Tryz.ntmps51
 go_wp2
 go_ret
 exact ⟨by rw [← HT.out]; simp; rw [Bool.eq_iff_iff]; simp, (Below.refl _ _).alloc (Nat.le_refl _) _⟩
theorem RS.setsg {w wr : World} {l : List ZE} {b b' : Bool} {G : Nat} (h : RS w l (sg b G) wr) (hG : G ≠ 0) : RS w l (sg b' G) (wr.setCell ⟨w.heap.size + 1 + 1, 0, none⟩ (.bool b')) := by
 obtain ⟨e, h1, h2, h3, h4⟩ := h.d
 have hm : ∀ A' c' xs', Mg wr A' c' xs' → Mg (wr.setCell ⟨w.heap.size + 1 + 1, 0, none⟩ (.bool b')) A' c' xs' := fun _ _ _ hh => hh.set_ _ _ _ _ h3 (by simp)
 refine ⟨below_set h.bel (by omega) _ _, rng_set h.r0 (by omega), rng_set h.r1 (by omega), h.z0.set_, h.z1.set_, h.z2.set_, fun x hx => (h.ok x hx).mv hm, ⟨⟨sg b' G, b', e.n, e.xs, e.A, e.c⟩, rfl, ⟨⟨?_, ?_, h2.i.hn⟩, hm _ _ _ h2.m⟩, at_set h3, keep_off (by omega) h4⟩⟩
 ·cases b' <;> simp [sg] <;> omega
 ·have := h2.i.hx
  rw [h1, natAbs_sg] at this
  show e.xs = _
  rw [natAbs_sg]
  exact this
theorem sgL_drop {zs : List Int} {i : Nat} (h : i < zs.length) : sgL (zs.drop i) = if zs[i] = 0 then sgL (zs.drop (i + 1)) else decide (zs[i] < 0) := by
 rw [List.drop_eq_getElem_cons h]
 rfl
set_option maxRecDepth 100000 in
set_option maxHeartbeats 8000000 in
theorem HRreduce_g (l : List ZE) (hl : l.length = 9) {w : World} (hok : ∀ e ∈ l, e.ok w) {k : Nat} (hk : k ≤ 16384) (hb : ∀ e ∈ l, Bz k e.z) :
  Calls Tryz.prog 42 #[.agg (cellsM l).toArray] w (RetM w (redZ (l.map (·.z)))) := by
 have hi := hid (show (Tryz.prog.info? 54).map (·.size) = some (cellsM l).length by rw [cellsM_len, hl]; kernel_rfl)
 go_enter Tryz.func42, Tryz.ntmps42
 go_upto_region 2 with fail
 refine enterR3 (P := fun u => Code.wp _ _ _ _ u) (c2 := [.bool false, .slice none 0 0]) ?_
 intro u HB r0 r1 r2 zn0 zn1 zn2 hsz
 have hRS : RS w l ((gcdL ((l.map (·.z)).take 0) : Nat) : Int) u := ⟨HB, r0, r1, zn0, zn1, zn2, fun e he => (hok e he).below HB, ⟨ZE.zero, by simp [ZE.zero, gcdL], ZE.zero_ok u, r2 0 _ rfl, r2 1 _ rfl⟩⟩
 clear r0 r1 r2 zn0 zn1 zn2 hsz
 go_wp2
 go_loopw [4] (fun s4 wr => ∃ j : Nat, j ≤ 9 ∧ s4 = .int .i64 j ∧ RS w l ((gcdL ((l.map (·.z)).take j) : Nat) : Int) wr) (fun s4 _ => 9 - (intOf s4).toNat)
 case atStart => exact ⟨0, by omega, rfl, hRS⟩
 case round =>
  obtain ⟨j, hj, rfl, hS⟩ := hrel
  by_cases h9 : j < 9
  ·have hj2 : j < l.length := by omega
   have hx := hS.ok l[j] (List.getElem_mem hj2)
   have hgn := gcdL_take hj2
   have hbx := hb l[j] (List.getElem_mem hj2)
   have hbd := gcdL_take_bz hb j
   obtain ⟨t0, t1⟩ := rng_cell hS.r0 hj2
   generalize l[j] = e at *
   generalize hd1e : gcdL ((l.map (·.z)).take (j + 1)) = d1 at *
   have HQ := hid hd1e
   clear hd1e
   generalize gcdL ((l.map (·.z)).take j) = d0 at *
   obtain ⟨ed, hd1, hd2, k0, k1⟩ := hS.d
   obtain ⟨b', n', L', I'⟩ := iz (d1 : Int)
   have HG := hid fun (w1 : World) (h : Below wr.heap.size wr w1) => HRgcd_g (w := w1) hd2.i hx.i I'.out (hd2.m.below h) (hx.m.below h) (by rw [hd1]; exact hbd.ft hk) (hbx.ft hk) (by rw [hd1, Int.natAbs_natCast, hgn])
   obtain ⟨ez, eb, en, exs, eA, ec⟩ := e
   obtain ⟨dz, db, dn, dxs, dA, dc⟩ := ed
   dsimp only at *
   have HS := hid hS
   have lt2 := cell_lt k0
   have lt0 := cell_lt t0
   have h9i : (j : Int) < 9 := by omega
   have HB := Below.refl wr.heap.size wr
   clear hS hx hgn hbx hbd hd1 hd2 hRS hok hb
   go_wp2_with fail
   refine Ords.start (x := 5) (S := fun w' => (w'.cell? ⟨w.heap.size + 1 + 1, 0, none⟩ = some (.bool db) ∧ w'.cell? ⟨w.heap.size + 1 + 1, 1, none⟩ = some (.slice dA dn dc)) ∧ (w'.cell? ⟨w.heap.size, j * 2, none⟩ = some (.bool eb) ∧ w'.cell? ⟨w.heap.size, j * 2 + 1, none⟩ = some (.slice eA en ec))) (by kernel_rfl) ?_ (fun hHeld => ?_)
   ·exact ⟨⟨k0, k1⟩, ⟨t0, t1⟩⟩
   refine' Ords.take (i := 0) ?_ ?_ ?_ ?_ ?_ ?_ ?_ ?_ ?_
   rotate_left 2
   ·(simp only [List.getElem?_toArray, List.getElem?_cons_succ, List.getElem?_cons_zero]; rfl)
   ·kernel_rfl
   ·kernel_rfl
   ·kernel_rfl
   ·kernel_rfl
   ·exact fun _ _ _ h => h
   ·(refine Or.inl ⟨by rfl, ?_⟩; intro w_ hSw_; (try dsimp only at hSw_); go_simp; (try with_reducible rfl))
   ·assumption
   (try simp only [Act.put, Lp0, Lp1, Lp2])
   refine' Ords.take (i := 1) ?_ ?_ ?_ ?_ ?_ ?_ ?_ ?_ ?_
   rotate_left 2
   ·(simp only [List.getElem?_toArray, List.getElem?_cons_succ, List.getElem?_cons_zero]; rfl)
   ·kernel_rfl
   ·kernel_rfl
   ·kernel_rfl
   ·kernel_rfl
   ·exact fun _ _ _ h => h
   ·(refine Or.inl ⟨by rfl, ?_⟩; intro w_ hSw_; (try dsimp only at hSw_); go_simp; (try with_reducible rfl))
   ·assumption
   (try simp only [Act.put, Lp0, Lp1, Lp2])
   refine' Ords.take (i := 2) ?_ ?_ ?_ ?_ ?_ ?_ ?_ ?_ ?_
   rotate_left 2
   ·(simp only [List.getElem?_toArray, List.getElem?_cons_succ, List.getElem?_cons_zero]; rfl)
   ·kernel_rfl
   ·kernel_rfl
   ·kernel_rfl
   ·kernel_rfl
   ·exact fun _ _ _ h => h
   ·(refine Or.inl ⟨by rfl, ?_⟩; intro w_ hSw_; (try dsimp only at hSw_); go_simp; (try with_reducible rfl))
   ·assumption
   (try simp only [Act.put, Lp0, Lp1, Lp2])
   refine' Ords.take (i := 3) ?_ ?_ ?_ ?_ ?_ ?_ ?_ ?_ ?_
   rotate_left 2
   ·(simp only [List.getElem?_toArray, List.getElem?_cons_succ, List.getElem?_cons_zero]; rfl)
   ·kernel_rfl
   ·kernel_rfl
   ·kernel_rfl
   ·kernel_rfl
   ·exact fun _ _ _ h => h
   ·(refine Or.inl ⟨by rfl, ?_⟩; intro w_ hSw_; (try dsimp only at hSw_); go_simp; (try with_reducible rfl))
   ·assumption
   (try simp only [Act.put, Lp0, Lp1, Lp2])
   refine' Ords.step (i := 4) (by kernel_rfl) (by simp only [List.getElem?_toArray, List.getElem?_cons_succ, List.getElem?_cons_zero]; rfl) (fun K hK => ?_)
   go_simp
   (go_at_call 56; (with_reducible refine (HG.out _ (bel_step HB BG)).mono ?_); rintro e v1 ⟨R2, d2, rfl, m2, hq2⟩; have qv1 : Below wr.heap.size wr v1 := bel_step BG hq2; have k0 := keep_cell qv1 k0; have k1 := keep_cell qv1 k1; have fz := (HS.out.z2.below qv1).fr)
   (try go_wp2_with fail)
   refine hK.out _ _ ?_ (fun hHeld => ?_)
   ·(first | ((try dsimp only); repeat' (first | with_reducible assumption | apply And.intro | (with_reducible refine keep_alloc ?_) | (with_reducible refine keep_drew ?_) | (with_reducible refine keep_set (by omega) ?_) | (with_reducible refine keep_sets (by omega) ?_) | (with_reducible refine keep_cell (W := wr) ?_ ?_) | fail)))
   clear hK K
   (try simp only [Act.put, Lp0, Lp1, Lp2])
   refine' Ords.last (by kernel_rfl) (by simp only [List.getElem?_toArray, List.getElem?_cons_succ, List.getElem?_cons_zero]; rfl) (by kernel_rfl) (fun K hK => ?_)
   go_simp
   (try go_wp2_with fail)
   refine hK.out _ _ ?_
   clear hK K
   (try simp only [Act.put, Lp0, Lp1, Lp2])
   go_wp2
   go_roundw
   case rel => exact ⟨j + 1, by omega, by go_num, by rw [HQ.out]; exact (HS.out.below qv1).setd I'.out m2⟩
   case measure => simp [intOf]; omega
  ·obtain rfl : j = 9 := by omega
   have hS2 : RS w l ((gcdL (l.map (·.z)) : Nat) : Int) wr := by rwa [List.take_of_length_le (by simp; omega)] at hS
   clear hS hRS
   obtain ⟨ed, hd1, hd2, k0, k1⟩ := hS2.d
   have hz0 : ed.n = 0 ↔ gcdL (l.map (·.z)) = 0 := by rw [hd2.i.zero, hd1]; omega
   by_cases h0 : gcdL (l.map (·.z)) = 0
   ·have HR : Hid (redZ (l.map (·.z)) = l.map (·.z)) := by unfold Hid redZ; rw [if_pos h0]
    have HZ := hid fun (w1 : World) => HRzero_g (b := ed.b) (n := ed.n) (c := ed.c) (A := ed.A) (w := w1) true (by simp [hz0, h0])
    have HS := hid hS2
    have h18 : (cellsM l).length = 18 := by rw [cellsM_len, hl]
    clear hS2 hz0 h0 hd1 hd2
    obtain ⟨dz, db, dn, dxs, dA, dc⟩ := ed
    dsimp only at *
    go_wp2_with fail
    refine (HZ.out _).mono ?_
    rintro e w1 ⟨rfl, h1⟩
    have HS1 := hid (HS.out.below h1)
    have r0 := HS1.out.r0
    have ht := rng_there HS1.out.r1 HS1.out.z1
    rw [show (cellsM zeros9).length = (cellsM l).toArray.size by rw [List.size_toArray, cellsM_len, cellsM_len, hl]; rfl] at ht
    have hi' := hid (show (Tryz.prog.info? 54).map (·.size) = some (cellsM l).toArray.size by rw [List.size_toArray, cellsM_len, hl]; kernel_rfl)
    have ho := all_oneCell_toArray (cellsM_one l)
    obtain ⟨F1, F2, F3, F4⟩ := fin_N (w := w) (l := l) (cs := zeros9) RT54 rfl hi.out HS1.out.bel (by omega) HS1.out.r1 HS1.out.z1 (by rw [hl]; rfl) HS1.out.ok
    have HF := hid (And.intro F3 F4)
    clear F1 F3 F4 HS1 HS h1
    go_wp2_with (first | refine wpList_load_mid (by rfl) _ _ (by rfl) w.heap.size 0 (by rfl) (cellsM l) _ r0 RT54 (by rfl) hi.out ?_ | refine wpList_store_mid (by rfl) _ _ _ (by rfl) (w.heap.size + 1) 0 (cellsM l).toArray (by rfl) (by rfl) ht hi'.out ho ?_ | fail)
    refine bodyPost_ret (v := .agg (cellsM l).toArray) ?_ rfl ?_
    ·simp [results, Tryz.results42, Sem.run_bind, asAddr, Act.put, F2]
    ·rw [HR.out]
     exact ⟨l, rfl, rfl, HF.out.2, HF.out.1⟩
   ·have HZ := hid fun (w1 : World) => HRzero_g (b := ed.b) (n := ed.n) (c := ed.c) (A := ed.A) (w := w1) false (by simp [hz0, h0])
    have HS := hid hS2
    clear hS2 hz0 hd1 hd2
    obtain ⟨dz, db, dn, dxs, dA, dc⟩ := ed
    dsimp only at *
    go_wp2_with fail
    refine (HZ.out _).mono ?_
    rintro e w1 ⟨rfl, h1⟩
    have HS1 := hid (HS.out.below h1)
    clear HS k0 k1 HZ h1
    go_wp2
    go_loopw [5] (fun s5 wr => ∃ j : Nat, j ≤ 9 ∧ s5 = .int .i64 ((j : Int) - 1) ∧ RS w l (sg (sgL ((l.map (·.z)).drop j)) (gcdL (l.map (·.z)))) wr) (fun s5 _ => (intOf s5 + 1).toNat)
    case atStart => exact ⟨9, by omega, rfl, by rw [List.drop_of_length_le (by simp; omega)]; exact HS1.out⟩
    case round =>
     obtain ⟨j, hj, rfl, hS⟩ := hrel
     by_cases hj0 : 0 < j
     ·obtain ⟨i, rfl⟩ : ∃ i, j = i + 1 := ⟨j - 1, by omega⟩
      have hj2 : i < l.length := by omega
      have hx := hS.ok l[i] (List.getElem_mem hj2)
      obtain ⟨t0, t1⟩ := rng_cell hS.r0 hj2
      have hsd := sgL_drop (zs := l.map (·.z)) (i := i) (by simpa using hj2)
      rw [List.getElem_map] at hsd
      have ei : ((i + 1 : Nat) : Int) - 1 = (i : Int) := by omega
      rw [ei]
      have hi9 : (i : Int) < 9 := by omega
      have hi0 : (0 : Int) ≤ (i : Int) := by omega
      have e2 : IntKind.i64.wrap ((i : Int) - 1) = (i : Int) - 1 := by rw [IntKind.wrap_i64]; omega
      by_cases hx0 : l[i].z = 0
      ·rw [if_pos hx0] at hsd
       rw [← hsd] at hS
       have HZ := hid fun (w1 : World) => HRzero_g (b := l[i].b) (n := l[i].n) (c := l[i].c) (A := l[i].A) (w := w1) true (by simp [hx.i.zero, hx0])
       generalize l[i] = e at *
       obtain ⟨ez, eb, en, exs, eA, ec⟩ := e
       dsimp only at *
       have HS := hid hS
       clear hS hx hx0 hsd hok hb HS1
       go_wp2_with fail
       refine (HZ.out _).mono ?_
       rintro e' w2 ⟨rfl, h2⟩
       go_wp2
       go_roundw
       case rel => exact ⟨i, by omega, rfl, HS.out.below h2⟩
       case measure => simp [intOf]
      ·rw [if_neg hx0] at hsd
       have HZ := hid fun (w1 : World) => HRzero_g (b := l[i].b) (n := l[i].n) (c := l[i].c) (A := l[i].A) (w := w1) false (by simp [hx.i.zero, hx0])
       have hbb := hx.i.hb
       generalize l[i] = e at *
       obtain ⟨ez, eb, en, exs, eA, ec⟩ := e
       dsimp only at *
       rw [← hbb] at hsd
       obtain ⟨ed, hd1, hd2, k0, k1⟩ := hS.d
       obtain ⟨dz, db, dn, dxs, dA, dc⟩ := ed
       dsimp only at *
       have HS := hid hS
       have HSD := hid hsd
       clear hS hx hx0 hsd hok hb HS1 hd1 hd2 hbb
       go_wp2_with fail
       refine (HZ.out _).mono ?_
       rintro e' w2 ⟨rfl, h2⟩
       have k0 := keep_cell h2 k0
       have t0 := keep_cell h2 t0
       have fz := (HS.out.z2.below h2).fr
       go_wp2
       go_roundw
       case rel => exact ⟨i, by omega, rfl, by rw [HSD.out]; exact (HS.out.below h2).setsg h0⟩
       case measure => simp [intOf]
     ·obtain rfl : j = 0 := by omega
      simp only [List.drop_zero] at hS
      have HR : Hid (redZ (l.map (·.z)) = (l.map (·.z)).map fun x => dmQ x (sg (sgL (l.map (·.z))) (gcdL (l.map (·.z))))) := by unfold Hid redZ; rw [if_neg h0]
      have hD0 := sg_ne (b := sgL (l.map (·.z))) h0
      have hbD : Bz k (sg (sgL (l.map (·.z))) (gcdL (l.map (·.z)))) := by
       have := gcdL_bz (l := l.map (·.z)) (k := k) (by intro x hx; obtain ⟨e, he, rfl⟩ := List.mem_map.1 hx; exact hb e he)
       unfold Bz at *
       rw [natAbs_sg]
       simpa using this
      generalize sg (sgL (l.map (·.z))) (gcdL (l.map (·.z))) = D at *
      obtain ⟨ed, hd1, hd2, k0, k1⟩ := hS.d
      have r0 := hS.r0
      have h18 : (cellsM l).length = 18 := by rw [cellsM_len, hl]
      have F1 := store_new (w := wr) hl 54 (by kernel_rfl)
      have hHS := hid hS
      clear HS1
      go_upto_region 13 with fail
      go_upto_region 14 with (first | refine wpList_load_mid (by rfl) _ _ (by rfl) w.heap.size 0 (by rfl) (cellsM l) _ r0 RT54 (by rfl) hi.out ?_ | fail)
      refine enterR (P := fun u => Code.wp _ _ _ _ u) ?_
      intro v hv q0 qz hsz
      have hv0 := hid hv
      have hS := hS.below hv
      have hkb : v.rangeAt (w.heap.size + 1 + 1) 0 (cellsM [ed]) := fun j x hx => by
       match j, hx with
       | 0, hx => obtain rfl := Option.some.inj hx; exact keep_cell hv k0
       | 1, hx => obtain rfl := Option.some.inj hx; exact keep_cell hv k1
      have hF : Fil w [(w.heap.size, cellsM l), (w.heap.size + 1, cellsM zeros9), (w.heap.size + 1 + 1, cellsM [ed])] wr.heap.size (((l.map (·.z)).take 0).map (dmQ · D) ++ (l.map (·.z)).drop 0) v := ⟨hS.bel, by
       intro p hp
       have h2 := hHS.out.z2.lt
       simp only [List.mem_cons, List.not_mem_nil, or_false] at hp
       rcases hp with rfl | rfl | rfl
       ·exact ⟨hS.r0, hS.z0, by dsimp only; omega⟩
       ·exact ⟨hS.r1, hS.z1, by dsimp only; omega⟩
       ·exact ⟨hkb, hS.z2, by dsimp only; omega⟩, qz, by have := hHS.out.z2.lt; omega, l, q0, hS.ok, by simp⟩
      obtain ⟨gm, hgm⟩ : ∃ gm, gm = wr.heap.size := ⟨_, rfl⟩
      rw [← hgm] at hF ⊢
      clear hgm hkb q0 qz hsz hv r0 k0 k1 hHS F1 hS
      have hdi := hd2.i
      have hdv := hd2.m.below hv0.out
      go_wp2
      go_loopw [7] (fun s7 wr => ∃ j : Nat, j ≤ 9 ∧ s7 = .int .i64 j ∧ Fil w [(w.heap.size, cellsM l), (w.heap.size + 1, cellsM zeros9), (w.heap.size + 1 + 1, cellsM [ed])] gm (((l.map (·.z)).take j).map (dmQ · D) ++ (l.map (·.z)).drop j) wr ∧ Mg wr ed.A ed.c ed.xs) (fun s7 _ => 9 - (intOf s7).toNat)
      case atStart => exact ⟨0, by omega, rfl, hF, hdv⟩
      case round =>
       obtain ⟨j, hj, rfl, hS, hmd⟩ := hrel
       clear hF hdv
       by_cases h9 : j < 9
       ·have hj2 : j < l.length := by omega
        have h9i : (j : Int) < 9 := by omega
        obtain ⟨x0, y0, n0⟩ := hS.k (w.heap.size, cellsM l) (by simp)
        obtain ⟨x2, y2, n2⟩ := hS.k (w.heap.size + 1 + 1, cellsM [ed]) (by simp)
        dsimp only at x0 x2 n0 n2
        obtain ⟨t0, t1⟩ := rng_cell x0 hj2
        have k0 : wr.cell? ⟨w.heap.size + 1 + 1, 0, none⟩ = some (.bool ed.b) := x2 0 _ rfl
        have k1 : wr.cell? ⟨w.heap.size + 1 + 1, 1, none⟩ = some (.slice ed.A ed.n ed.c) := x2 1 _ rfl
        have hx := (hok l[j] (List.getElem_mem hj2)).below hS.b
        have hbx := hb l[j] (List.getElem_mem hj2)
        have hu := upd_take (l.map (·.z)) (dmQ · D) j (by simpa using hj2)
        rw [List.getElem_map] at hu
        have hlen : (((l.map (·.z)).take j).map (dmQ · D) ++ (l.map (·.z)).drop j).length = 9 := by simp; omega
        obtain ⟨td, _, _, c0, c1⟩ := hS.cell (j := j) (by omega)
        generalize l[j] = e at *
        obtain ⟨b', n', L', I'⟩ := iz (dmQ e.z D)
        have HG := hid fun (w1 : World) (h : Below wr.heap.size wr w1) => HRquotient_g (w := w1) hx.i hdi I'.out (hx.m.below h) (hmd.below h) (hbx.ft hk) (by rw [hd1]; exact hbD.ft hk) (by rw [hd1]; exact hD0) (by rw [hd1])
        have HU := hid hu
        have HS := hid hS
        have HMD := hid hmd
        obtain ⟨ez, eb, en, exs, eA, ec⟩ := e
        obtain ⟨zd_, bd_, nd_, xd_, Ad_, cd_⟩ := td
        dsimp only at *
        have lt0 := cell_lt t0
        have lt2 := cell_lt k0
        have lt3 := cell_lt c0
        have HB := Below.refl wr.heap.size wr
        clear hS hx hbx hu x0 x2 y0 y2 hmd hok hb
        generalize ed.b = db at *
        generalize hdA : ed.A = dA at *
        generalize ed.n = dn at *
        generalize hdc : ed.c = dc at *
        have HdA := hid hdA
        have Hdc := hid hdc
        clear hdA hdc
        go_wp2_with fail
        go_region_held3 (fun w' => (w'.cell? ⟨w.heap.size + 1 + 1, 0, none⟩ = some (.bool db) ∧ w'.cell? ⟨w.heap.size + 1 + 1, 1, none⟩ = some (.slice dA dn dc)) ∧ (w'.cell? ⟨w.heap.size, j * 2, none⟩ = some (.bool eb) ∧ w'.cell? ⟨w.heap.size, j * 2 + 1, none⟩ = some (.slice eA en ec))) (first | ((try dsimp only); repeat' (first | with_reducible assumption | apply And.intro | (with_reducible refine keep_alloc ?_) | (with_reducible refine keep_drew ?_) | (with_reducible refine keep_set (by omega) ?_) | (with_reducible refine keep_sets (by omega) ?_) | (with_reducible refine keep_cell (W := wr) ?_ ?_) | fail))) ((go_at_call 55; (with_reducible refine (HG.out _ (bel_step HB BG)).mono ?_); rintro e v1 ⟨R2, d2, rfl, m2, hq2⟩; have qv1 : Below wr.heap.size wr v1 := bel_step BG hq2; have c0 := keep_cell qv1 c0; have c1 := keep_cell qv1 c1; have fz := (HS.out.zm.below qv1).fr))
        all_goals
         have hS1 := HS.out.below qv1
         obtain ⟨lm, f2, f3, f4⟩ := hS1.ex
         have hlm : j < lm.length := by rw [← List.length_map (·.z), f4]; omega
         have hF5 := hS1.set (j := j) (by omega) I'.out m2
         rw [HU.out] at hF5
         have hM5 := set_M_mg (u0 := .bool b') (u1 := .slice R2 n' d2) f2 hlm (HMD.out.below qv1)
         have HF5 := hid hF5
         have HM5 := hid hM5
         clear hF5 hM5 hS1 f2 f3 f4 hlm
         go_wp2
         go_roundw
         case rel => exact ⟨j + 1, by omega, by go_num, HF5.out, HM5.out⟩
         case measure => simp [intOf]; omega
       ·obtain rfl : j = 9 := by omega
        rw [List.take_of_length_le (by simp; omega), List.drop_of_length_le (by simp; omega), List.append_nil, ← HR.out] at hS
        obtain ⟨lm, e2, e3, e4⟩ := hS.ex
        obtain ⟨q1, z1, _⟩ := hS.k (w.heap.size + 1, cellsM zeros9) (by simp)
        dsimp only at q1 z1
        have e1 : lm.length = 9 := by rw [← List.length_map (·.z), e4, redZ_len]; simpa using hl
        have hi9 := hid (show (Tryz.prog.info? 54).map (·.size) = some (cellsM lm).length by rw [cellsM_len, e1]; kernel_rfl)
        have hi9' := hid (show (Tryz.prog.info? 54).map (·.size) = some (cellsM lm).toArray.size by rw [List.size_toArray, cellsM_len, e1]; kernel_rfl)
        obtain ⟨G1, G2, G3, G4⟩ := fin_N (w := w) (l := lm) (cs := zeros9) RT54 rfl hi9.out hS.b (by omega) q1 z1 (by rw [e1]; rfl) e3
        have HF := hid (And.intro e4 (And.intro G3 G4))
        have ht := rng_there q1 z1
        rw [show (cellsM zeros9).length = (cellsM lm).toArray.size by rw [List.size_toArray, cellsM_len, cellsM_len, e1]; rfl] at ht
        have ho := all_oneCell_toArray (cellsM_one lm)
        clear e1 e3 e4 G1 G3 G4 hS q1 z1 hmd
        go_wp2_with (first | refine wpList_load_mid (by rfl) _ _ (by rfl) gm 0 (by rfl) (cellsM lm) _ e2 RT54 (by rfl) hi9.out ?_ | refine wpList_store_mid (by rfl) _ _ _ (by rfl) (w.heap.size + 1) 0 (cellsM lm).toArray (by rfl) (by rfl) ht hi9'.out ho ?_ | fail)
        refine bodyPost_ret (v := .agg (cellsM lm).toArray) ?_ rfl ?_
        ·simp [results, Tryz.results42, Sem.run_bind, asAddr, Act.put, G2]
        ·exact ⟨lm, rfl, HF.out.1, HF.out.2.2, HF.out.2.1⟩
end Go.Proofs.YtgnfobnkhjlbbaaGreat
/- Homographies, the reference: walk of minor, at each row and column. Conditions: none. -/
namespace Go.Proofs.YtgnfobnkhjlbbaaGreat
open Go.RowKit Big
theorem wr9 : IntKind.i64.wrap 0 = 0 ∧ IntKind.i64.wrap 1 = 1 ∧ IntKind.i64.wrap 2 = 2 ∧ IntKind.i64.wrap 3 = 3 ∧ IntKind.i64.wrap 4 = 4 ∧ IntKind.i64.wrap 5 = 5 ∧ IntKind.i64.wrap 6 = 6 ∧ IntKind.i64.wrap 7 = 7 ∧ IntKind.i64.wrap 8 = 8 := by simp only [IntKind.wrap_i64]; decide
set_option maxRecDepth 100000 in
set_option maxHeartbeats 8000000 in
theorem HRminor_00 {l : List ZE} (hl : l.length = 9) {w : World} (hok : ∀ e ∈ l, e.ok w) {k : Nat} (hk : 2 * k + 1 ≤ 16384) (hb : ∀ e ∈ l, Bz k e.z) {b : Bool} {n : Nat} {xs : List Nat} (I : Iz ((l[4]'(by omega)).z * (l[8]'(by omega)).z - (l[5]'(by omega)).z * (l[7]'(by omega)).z) b n xs) :
  Calls Tryz.prog 80 #[.agg (cellsM l).toArray, .int .i64 0, .int .i64 0] w (GZ w b n xs) := by
 have ho := fun k (h : k < l.length) => And.intro (hok l[k] (List.getElem_mem h)) (hb l[k] (List.getElem_mem h))
 obtain ⟨⟨op, bp_⟩, ⟨ot, bt⟩, ⟨oq, bq⟩, ⟨ou, bu⟩⟩ := And.intro (ho 4 (by omega)) (And.intro (ho 8 (by omega)) (And.intro (ho 5 (by omega)) (ho 7 (by omega))))
 clear ho
 have HC := hid fun (u : World) (r0 : u.rangeAt w.heap.size 0 (cellsM l)) => And.intro (rng_cell r0 (show 4 < l.length by omega)) (And.intro (rng_cell r0 (show 8 < l.length by omega)) (And.intro (rng_cell r0 (show 5 < l.length by omega)) (rng_cell r0 (show 7 < l.length by omega))))
 simp only [Nat.reduceMul, Nat.reduceAdd] at HC
 generalize (l[4]'(by omega)) = ep at *
 generalize (l[8]'(by omega)) = et at *
 generalize (l[5]'(by omega)) = eq_ at *
 generalize (l[7]'(by omega)) = eu at *
 obtain ⟨y1, k1, L1, I1⟩ := iz (ep.z * et.z)
 obtain ⟨y2, k2, L2, I2⟩ := iz (eq_.z * eu.z)
 have H1 := hid fun (W : World) (h : Below w.heap.size w W) => HRmul_g (w := W) op.i ot.i I1.out (op.m.below h) (ot.m.below h) (bp_.ft (by omega)) (bt.ft (by omega)) ((bp_.mul bt).ft (by omega)) rfl
 have H2 := hid fun (W : World) (h : Below w.heap.size w W) => HRmul_g (w := W) oq.i ou.i I2.out (oq.m.below h) (ou.m.below h) (bq.ft (by omega)) (bu.ft (by omega)) ((bq.mul bu).ft (by omega)) rfl
 have H3 := hid fun (W : World) (R Q : Option Addr) (c d : Nat) (m1 : Mg W R c L1) (m2 : Mg W Q d L2) => HRsub_g (w := W) I1.out I2.out I m1 m2 ((bp_.mul bt).ft (by omega)) ((bq.mul bu).ft (by omega)) ((Bz.minor bp_ bq bu bt).ft (by omega)) rfl
 clear op ot oq ou bp_ bt bq bu I I1 I2 hok hb
 obtain ⟨zp, bp2, np, xp, Ap, cp⟩ := ep
 obtain ⟨zt, bt2, nt, xt, At, ct⟩ := et
 obtain ⟨zq, bq2, nq, xq, Aq, cq⟩ := eq_
 obtain ⟨zu, bu2, nu, xu, Au, cu⟩ := eu
 dsimp only at *
 go_enter Tryz.func80, Tryz.ntmps80
 go_upto_region 1 with fail
 refine enterR2 (P := fun u => Code.wp _ _ _ _ u) (c1 := [.bool false, .slice none 0 0]) ?_
 intro v HB r0 r1 zn0 zn1 hsz
 obtain ⟨⟨s0, s1⟩, ⟨s2, s3⟩, ⟨s4, s5⟩, ⟨s6, s7⟩⟩ := HC.out v r0
 have q0 : v.cell? ⟨w.heap.size + 1, 0, none⟩ = some (.bool false) := r1 0 _ rfl
 have q1 : v.cell? ⟨w.heap.size + 1, 1, none⟩ = some (.slice none 0 0) := r1 1 _ rfl
 have lt0 := cell_lt s0
 clear r0 r1 hsz HC
 obtain ⟨e0, e1, e2, e3, e4, e5, e6, e7, e8⟩ := wr9
 go_wp2_with fail
 go_region_held3 (fun w' => (w'.cell? ⟨w.heap.size, 2 * 4, none⟩ = some (.bool bp2) ∧ w'.cell? ⟨w.heap.size, 2 * 4 + 1, none⟩ = some (.slice Ap np cp)) ∧ (w'.cell? ⟨w.heap.size, 2 * 8, none⟩ = some (.bool bt2) ∧ w'.cell? ⟨w.heap.size, 2 * 8 + 1, none⟩ = some (.slice At nt ct)) ∧ (w'.cell? ⟨w.heap.size, 2 * 5, none⟩ = some (.bool bq2) ∧ w'.cell? ⟨w.heap.size, 2 * 5 + 1, none⟩ = some (.slice Aq nq cq)) ∧ (w'.cell? ⟨w.heap.size, 2 * 7, none⟩ = some (.bool bu2) ∧ w'.cell? ⟨w.heap.size, 2 * 7 + 1, none⟩ = some (.slice Au nu cu))) (first | ((try dsimp only); repeat' (first | with_reducible assumption | apply And.intro | (with_reducible refine keep_alloc ?_) | (with_reducible refine keep_drew ?_) | (with_reducible refine keep_set (by omega) ?_) | (with_reducible refine keep_sets (by omega) ?_) | (with_reducible refine keep_cell (W := v) ?_ ?_) | fail))) (first | (go_at_call 53; (with_reducible refine (H1.out _ (bel_step HB BG)).mono ?_); rintro e v1 ⟨R1, d1, rfl, m1, hq1⟩; have qv1 : Below v.heap.size v v1 := bel_step BG hq1) | (go_at_call 53; (with_reducible refine (H2.out _ (bel_step HB BG)).mono ?_); rintro e v2 ⟨R2, d2, rfl, m2, hq2⟩; have qv2 : Below v.heap.size v v2 := bel_step BG hq2; have m1 := m1.below (w' := v2) BG) | (go_at_call 52; (with_reducible refine (H3.out _ _ _ _ _ m1 m2).mono ?_); rintro e v3 ⟨R3, d3, rfl, m3, hq3⟩; have qv3 : Below v.heap.size v v3 := bel_step qv2 hq3; have q0 := keep_cell qv3 q0; have q1 := keep_cell qv3 q1; have fz := (zn1.below qv3).fr))
 all_goals
  replace HB := bel_step HB qv3
  go_wp2
  refine bodyPost_ret (v := .agg #[.bool b, .slice R3 n d3]) ?_ rfl ?_
  ·simp [results, Tryz.results80, go_sem, q0, q1]
  ·obtain ⟨j1_, j2_⟩ := fin_i m3 HB (by omega) q0 q1 (.bool b) (.slice R3 n d3)
   exact ⟨R3, d3, rfl, j1_, j2_⟩
set_option maxRecDepth 100000 in
set_option maxHeartbeats 8000000 in
theorem HRminor_01 {l : List ZE} (hl : l.length = 9) {w : World} (hok : ∀ e ∈ l, e.ok w) {k : Nat} (hk : 2 * k + 1 ≤ 16384) (hb : ∀ e ∈ l, Bz k e.z) {b : Bool} {n : Nat} {xs : List Nat} (I : Iz ((l[5]'(by omega)).z * (l[6]'(by omega)).z - (l[3]'(by omega)).z * (l[8]'(by omega)).z) b n xs) :
  Calls Tryz.prog 80 #[.agg (cellsM l).toArray, .int .i64 0, .int .i64 1] w (GZ w b n xs) := by
 have ho := fun k (h : k < l.length) => And.intro (hok l[k] (List.getElem_mem h)) (hb l[k] (List.getElem_mem h))
 obtain ⟨⟨op, bp_⟩, ⟨ot, bt⟩, ⟨oq, bq⟩, ⟨ou, bu⟩⟩ := And.intro (ho 5 (by omega)) (And.intro (ho 6 (by omega)) (And.intro (ho 3 (by omega)) (ho 8 (by omega))))
 clear ho
 have HC := hid fun (u : World) (r0 : u.rangeAt w.heap.size 0 (cellsM l)) => And.intro (rng_cell r0 (show 5 < l.length by omega)) (And.intro (rng_cell r0 (show 6 < l.length by omega)) (And.intro (rng_cell r0 (show 3 < l.length by omega)) (rng_cell r0 (show 8 < l.length by omega))))
 simp only [Nat.reduceMul, Nat.reduceAdd] at HC
 generalize (l[5]'(by omega)) = ep at *
 generalize (l[6]'(by omega)) = et at *
 generalize (l[3]'(by omega)) = eq_ at *
 generalize (l[8]'(by omega)) = eu at *
 obtain ⟨y1, k1, L1, I1⟩ := iz (ep.z * et.z)
 obtain ⟨y2, k2, L2, I2⟩ := iz (eq_.z * eu.z)
 have H1 := hid fun (W : World) (h : Below w.heap.size w W) => HRmul_g (w := W) op.i ot.i I1.out (op.m.below h) (ot.m.below h) (bp_.ft (by omega)) (bt.ft (by omega)) ((bp_.mul bt).ft (by omega)) rfl
 have H2 := hid fun (W : World) (h : Below w.heap.size w W) => HRmul_g (w := W) oq.i ou.i I2.out (oq.m.below h) (ou.m.below h) (bq.ft (by omega)) (bu.ft (by omega)) ((bq.mul bu).ft (by omega)) rfl
 have H3 := hid fun (W : World) (R Q : Option Addr) (c d : Nat) (m1 : Mg W R c L1) (m2 : Mg W Q d L2) => HRsub_g (w := W) I1.out I2.out I m1 m2 ((bp_.mul bt).ft (by omega)) ((bq.mul bu).ft (by omega)) ((Bz.minor bp_ bq bu bt).ft (by omega)) rfl
 clear op ot oq ou bp_ bt bq bu I I1 I2 hok hb
 obtain ⟨zp, bp2, np, xp, Ap, cp⟩ := ep
 obtain ⟨zt, bt2, nt, xt, At, ct⟩ := et
 obtain ⟨zq, bq2, nq, xq, Aq, cq⟩ := eq_
 obtain ⟨zu, bu2, nu, xu, Au, cu⟩ := eu
 dsimp only at *
 go_enter Tryz.func80, Tryz.ntmps80
 go_upto_region 1 with fail
 refine enterR2 (P := fun u => Code.wp _ _ _ _ u) (c1 := [.bool false, .slice none 0 0]) ?_
 intro v HB r0 r1 zn0 zn1 hsz
 obtain ⟨⟨s0, s1⟩, ⟨s2, s3⟩, ⟨s4, s5⟩, ⟨s6, s7⟩⟩ := HC.out v r0
 have q0 : v.cell? ⟨w.heap.size + 1, 0, none⟩ = some (.bool false) := r1 0 _ rfl
 have q1 : v.cell? ⟨w.heap.size + 1, 1, none⟩ = some (.slice none 0 0) := r1 1 _ rfl
 have lt0 := cell_lt s0
 clear r0 r1 hsz HC
 obtain ⟨e0, e1, e2, e3, e4, e5, e6, e7, e8⟩ := wr9
 go_wp2_with fail
 go_region_held3 (fun w' => (w'.cell? ⟨w.heap.size, 2 * 5, none⟩ = some (.bool bp2) ∧ w'.cell? ⟨w.heap.size, 2 * 5 + 1, none⟩ = some (.slice Ap np cp)) ∧ (w'.cell? ⟨w.heap.size, 2 * 6, none⟩ = some (.bool bt2) ∧ w'.cell? ⟨w.heap.size, 2 * 6 + 1, none⟩ = some (.slice At nt ct)) ∧ (w'.cell? ⟨w.heap.size, 2 * 3, none⟩ = some (.bool bq2) ∧ w'.cell? ⟨w.heap.size, 2 * 3 + 1, none⟩ = some (.slice Aq nq cq)) ∧ (w'.cell? ⟨w.heap.size, 2 * 8, none⟩ = some (.bool bu2) ∧ w'.cell? ⟨w.heap.size, 2 * 8 + 1, none⟩ = some (.slice Au nu cu))) (first | ((try dsimp only); repeat' (first | with_reducible assumption | apply And.intro | (with_reducible refine keep_alloc ?_) | (with_reducible refine keep_drew ?_) | (with_reducible refine keep_set (by omega) ?_) | (with_reducible refine keep_sets (by omega) ?_) | (with_reducible refine keep_cell (W := v) ?_ ?_) | fail))) (first | (go_at_call 53; (with_reducible refine (H1.out _ (bel_step HB BG)).mono ?_); rintro e v1 ⟨R1, d1, rfl, m1, hq1⟩; have qv1 : Below v.heap.size v v1 := bel_step BG hq1) | (go_at_call 53; (with_reducible refine (H2.out _ (bel_step HB BG)).mono ?_); rintro e v2 ⟨R2, d2, rfl, m2, hq2⟩; have qv2 : Below v.heap.size v v2 := bel_step BG hq2; have m1 := m1.below (w' := v2) BG) | (go_at_call 52; (with_reducible refine (H3.out _ _ _ _ _ m1 m2).mono ?_); rintro e v3 ⟨R3, d3, rfl, m3, hq3⟩; have qv3 : Below v.heap.size v v3 := bel_step qv2 hq3; have q0 := keep_cell qv3 q0; have q1 := keep_cell qv3 q1; have fz := (zn1.below qv3).fr))
 all_goals
  replace HB := bel_step HB qv3
  go_wp2
  refine bodyPost_ret (v := .agg #[.bool b, .slice R3 n d3]) ?_ rfl ?_
  ·simp [results, Tryz.results80, go_sem, q0, q1]
  ·obtain ⟨j1_, j2_⟩ := fin_i m3 HB (by omega) q0 q1 (.bool b) (.slice R3 n d3)
   exact ⟨R3, d3, rfl, j1_, j2_⟩
set_option maxRecDepth 100000 in
set_option maxHeartbeats 8000000 in
theorem HRminor_02 {l : List ZE} (hl : l.length = 9) {w : World} (hok : ∀ e ∈ l, e.ok w) {k : Nat} (hk : 2 * k + 1 ≤ 16384) (hb : ∀ e ∈ l, Bz k e.z) {b : Bool} {n : Nat} {xs : List Nat} (I : Iz ((l[3]'(by omega)).z * (l[7]'(by omega)).z - (l[4]'(by omega)).z * (l[6]'(by omega)).z) b n xs) :
  Calls Tryz.prog 80 #[.agg (cellsM l).toArray, .int .i64 0, .int .i64 2] w (GZ w b n xs) := by
 have ho := fun k (h : k < l.length) => And.intro (hok l[k] (List.getElem_mem h)) (hb l[k] (List.getElem_mem h))
 obtain ⟨⟨op, bp_⟩, ⟨ot, bt⟩, ⟨oq, bq⟩, ⟨ou, bu⟩⟩ := And.intro (ho 3 (by omega)) (And.intro (ho 7 (by omega)) (And.intro (ho 4 (by omega)) (ho 6 (by omega))))
 clear ho
 have HC := hid fun (u : World) (r0 : u.rangeAt w.heap.size 0 (cellsM l)) => And.intro (rng_cell r0 (show 3 < l.length by omega)) (And.intro (rng_cell r0 (show 7 < l.length by omega)) (And.intro (rng_cell r0 (show 4 < l.length by omega)) (rng_cell r0 (show 6 < l.length by omega))))
 simp only [Nat.reduceMul, Nat.reduceAdd] at HC
 generalize (l[3]'(by omega)) = ep at *
 generalize (l[7]'(by omega)) = et at *
 generalize (l[4]'(by omega)) = eq_ at *
 generalize (l[6]'(by omega)) = eu at *
 obtain ⟨y1, k1, L1, I1⟩ := iz (ep.z * et.z)
 obtain ⟨y2, k2, L2, I2⟩ := iz (eq_.z * eu.z)
 have H1 := hid fun (W : World) (h : Below w.heap.size w W) => HRmul_g (w := W) op.i ot.i I1.out (op.m.below h) (ot.m.below h) (bp_.ft (by omega)) (bt.ft (by omega)) ((bp_.mul bt).ft (by omega)) rfl
 have H2 := hid fun (W : World) (h : Below w.heap.size w W) => HRmul_g (w := W) oq.i ou.i I2.out (oq.m.below h) (ou.m.below h) (bq.ft (by omega)) (bu.ft (by omega)) ((bq.mul bu).ft (by omega)) rfl
 have H3 := hid fun (W : World) (R Q : Option Addr) (c d : Nat) (m1 : Mg W R c L1) (m2 : Mg W Q d L2) => HRsub_g (w := W) I1.out I2.out I m1 m2 ((bp_.mul bt).ft (by omega)) ((bq.mul bu).ft (by omega)) ((Bz.minor bp_ bq bu bt).ft (by omega)) rfl
 clear op ot oq ou bp_ bt bq bu I I1 I2 hok hb
 obtain ⟨zp, bp2, np, xp, Ap, cp⟩ := ep
 obtain ⟨zt, bt2, nt, xt, At, ct⟩ := et
 obtain ⟨zq, bq2, nq, xq, Aq, cq⟩ := eq_
 obtain ⟨zu, bu2, nu, xu, Au, cu⟩ := eu
 dsimp only at *
 go_enter Tryz.func80, Tryz.ntmps80
 go_upto_region 1 with fail
 refine enterR2 (P := fun u => Code.wp _ _ _ _ u) (c1 := [.bool false, .slice none 0 0]) ?_
 intro v HB r0 r1 zn0 zn1 hsz
 obtain ⟨⟨s0, s1⟩, ⟨s2, s3⟩, ⟨s4, s5⟩, ⟨s6, s7⟩⟩ := HC.out v r0
 have q0 : v.cell? ⟨w.heap.size + 1, 0, none⟩ = some (.bool false) := r1 0 _ rfl
 have q1 : v.cell? ⟨w.heap.size + 1, 1, none⟩ = some (.slice none 0 0) := r1 1 _ rfl
 have lt0 := cell_lt s0
 clear r0 r1 hsz HC
 obtain ⟨e0, e1, e2, e3, e4, e5, e6, e7, e8⟩ := wr9
 go_wp2_with fail
 go_region_held3 (fun w' => (w'.cell? ⟨w.heap.size, 2 * 3, none⟩ = some (.bool bp2) ∧ w'.cell? ⟨w.heap.size, 2 * 3 + 1, none⟩ = some (.slice Ap np cp)) ∧ (w'.cell? ⟨w.heap.size, 2 * 7, none⟩ = some (.bool bt2) ∧ w'.cell? ⟨w.heap.size, 2 * 7 + 1, none⟩ = some (.slice At nt ct)) ∧ (w'.cell? ⟨w.heap.size, 2 * 4, none⟩ = some (.bool bq2) ∧ w'.cell? ⟨w.heap.size, 2 * 4 + 1, none⟩ = some (.slice Aq nq cq)) ∧ (w'.cell? ⟨w.heap.size, 2 * 6, none⟩ = some (.bool bu2) ∧ w'.cell? ⟨w.heap.size, 2 * 6 + 1, none⟩ = some (.slice Au nu cu))) (first | ((try dsimp only); repeat' (first | with_reducible assumption | apply And.intro | (with_reducible refine keep_alloc ?_) | (with_reducible refine keep_drew ?_) | (with_reducible refine keep_set (by omega) ?_) | (with_reducible refine keep_sets (by omega) ?_) | (with_reducible refine keep_cell (W := v) ?_ ?_) | fail))) (first | (go_at_call 53; (with_reducible refine (H1.out _ (bel_step HB BG)).mono ?_); rintro e v1 ⟨R1, d1, rfl, m1, hq1⟩; have qv1 : Below v.heap.size v v1 := bel_step BG hq1) | (go_at_call 53; (with_reducible refine (H2.out _ (bel_step HB BG)).mono ?_); rintro e v2 ⟨R2, d2, rfl, m2, hq2⟩; have qv2 : Below v.heap.size v v2 := bel_step BG hq2; have m1 := m1.below (w' := v2) BG) | (go_at_call 52; (with_reducible refine (H3.out _ _ _ _ _ m1 m2).mono ?_); rintro e v3 ⟨R3, d3, rfl, m3, hq3⟩; have qv3 : Below v.heap.size v v3 := bel_step qv2 hq3; have q0 := keep_cell qv3 q0; have q1 := keep_cell qv3 q1; have fz := (zn1.below qv3).fr))
 all_goals
  replace HB := bel_step HB qv3
  go_wp2
  refine bodyPost_ret (v := .agg #[.bool b, .slice R3 n d3]) ?_ rfl ?_
  ·simp [results, Tryz.results80, go_sem, q0, q1]
  ·obtain ⟨j1_, j2_⟩ := fin_i m3 HB (by omega) q0 q1 (.bool b) (.slice R3 n d3)
   exact ⟨R3, d3, rfl, j1_, j2_⟩
set_option maxRecDepth 100000 in
set_option maxHeartbeats 8000000 in
theorem HRminor_10 {l : List ZE} (hl : l.length = 9) {w : World} (hok : ∀ e ∈ l, e.ok w) {k : Nat} (hk : 2 * k + 1 ≤ 16384) (hb : ∀ e ∈ l, Bz k e.z) {b : Bool} {n : Nat} {xs : List Nat} (I : Iz ((l[7]'(by omega)).z * (l[2]'(by omega)).z - (l[8]'(by omega)).z * (l[1]'(by omega)).z) b n xs) :
  Calls Tryz.prog 80 #[.agg (cellsM l).toArray, .int .i64 1, .int .i64 0] w (GZ w b n xs) := by
 have ho := fun k (h : k < l.length) => And.intro (hok l[k] (List.getElem_mem h)) (hb l[k] (List.getElem_mem h))
 obtain ⟨⟨op, bp_⟩, ⟨ot, bt⟩, ⟨oq, bq⟩, ⟨ou, bu⟩⟩ := And.intro (ho 7 (by omega)) (And.intro (ho 2 (by omega)) (And.intro (ho 8 (by omega)) (ho 1 (by omega))))
 clear ho
 have HC := hid fun (u : World) (r0 : u.rangeAt w.heap.size 0 (cellsM l)) => And.intro (rng_cell r0 (show 7 < l.length by omega)) (And.intro (rng_cell r0 (show 2 < l.length by omega)) (And.intro (rng_cell r0 (show 8 < l.length by omega)) (rng_cell r0 (show 1 < l.length by omega))))
 simp only [Nat.reduceMul, Nat.reduceAdd] at HC
 generalize (l[7]'(by omega)) = ep at *
 generalize (l[2]'(by omega)) = et at *
 generalize (l[8]'(by omega)) = eq_ at *
 generalize (l[1]'(by omega)) = eu at *
 obtain ⟨y1, k1, L1, I1⟩ := iz (ep.z * et.z)
 obtain ⟨y2, k2, L2, I2⟩ := iz (eq_.z * eu.z)
 have H1 := hid fun (W : World) (h : Below w.heap.size w W) => HRmul_g (w := W) op.i ot.i I1.out (op.m.below h) (ot.m.below h) (bp_.ft (by omega)) (bt.ft (by omega)) ((bp_.mul bt).ft (by omega)) rfl
 have H2 := hid fun (W : World) (h : Below w.heap.size w W) => HRmul_g (w := W) oq.i ou.i I2.out (oq.m.below h) (ou.m.below h) (bq.ft (by omega)) (bu.ft (by omega)) ((bq.mul bu).ft (by omega)) rfl
 have H3 := hid fun (W : World) (R Q : Option Addr) (c d : Nat) (m1 : Mg W R c L1) (m2 : Mg W Q d L2) => HRsub_g (w := W) I1.out I2.out I m1 m2 ((bp_.mul bt).ft (by omega)) ((bq.mul bu).ft (by omega)) ((Bz.minor bp_ bq bu bt).ft (by omega)) rfl
 clear op ot oq ou bp_ bt bq bu I I1 I2 hok hb
 obtain ⟨zp, bp2, np, xp, Ap, cp⟩ := ep
 obtain ⟨zt, bt2, nt, xt, At, ct⟩ := et
 obtain ⟨zq, bq2, nq, xq, Aq, cq⟩ := eq_
 obtain ⟨zu, bu2, nu, xu, Au, cu⟩ := eu
 dsimp only at *
 go_enter Tryz.func80, Tryz.ntmps80
 go_upto_region 1 with fail
 refine enterR2 (P := fun u => Code.wp _ _ _ _ u) (c1 := [.bool false, .slice none 0 0]) ?_
 intro v HB r0 r1 zn0 zn1 hsz
 obtain ⟨⟨s0, s1⟩, ⟨s2, s3⟩, ⟨s4, s5⟩, ⟨s6, s7⟩⟩ := HC.out v r0
 have q0 : v.cell? ⟨w.heap.size + 1, 0, none⟩ = some (.bool false) := r1 0 _ rfl
 have q1 : v.cell? ⟨w.heap.size + 1, 1, none⟩ = some (.slice none 0 0) := r1 1 _ rfl
 have lt0 := cell_lt s0
 clear r0 r1 hsz HC
 obtain ⟨e0, e1, e2, e3, e4, e5, e6, e7, e8⟩ := wr9
 go_wp2_with fail
 go_region_held3 (fun w' => (w'.cell? ⟨w.heap.size, 2 * 7, none⟩ = some (.bool bp2) ∧ w'.cell? ⟨w.heap.size, 2 * 7 + 1, none⟩ = some (.slice Ap np cp)) ∧ (w'.cell? ⟨w.heap.size, 2 * 2, none⟩ = some (.bool bt2) ∧ w'.cell? ⟨w.heap.size, 2 * 2 + 1, none⟩ = some (.slice At nt ct)) ∧ (w'.cell? ⟨w.heap.size, 2 * 8, none⟩ = some (.bool bq2) ∧ w'.cell? ⟨w.heap.size, 2 * 8 + 1, none⟩ = some (.slice Aq nq cq)) ∧ (w'.cell? ⟨w.heap.size, 2 * 1, none⟩ = some (.bool bu2) ∧ w'.cell? ⟨w.heap.size, 2 * 1 + 1, none⟩ = some (.slice Au nu cu))) (first | ((try dsimp only); repeat' (first | with_reducible assumption | apply And.intro | (with_reducible refine keep_alloc ?_) | (with_reducible refine keep_drew ?_) | (with_reducible refine keep_set (by omega) ?_) | (with_reducible refine keep_sets (by omega) ?_) | (with_reducible refine keep_cell (W := v) ?_ ?_) | fail))) (first | (go_at_call 53; (with_reducible refine (H1.out _ (bel_step HB BG)).mono ?_); rintro e v1 ⟨R1, d1, rfl, m1, hq1⟩; have qv1 : Below v.heap.size v v1 := bel_step BG hq1) | (go_at_call 53; (with_reducible refine (H2.out _ (bel_step HB BG)).mono ?_); rintro e v2 ⟨R2, d2, rfl, m2, hq2⟩; have qv2 : Below v.heap.size v v2 := bel_step BG hq2; have m1 := m1.below (w' := v2) BG) | (go_at_call 52; (with_reducible refine (H3.out _ _ _ _ _ m1 m2).mono ?_); rintro e v3 ⟨R3, d3, rfl, m3, hq3⟩; have qv3 : Below v.heap.size v v3 := bel_step qv2 hq3; have q0 := keep_cell qv3 q0; have q1 := keep_cell qv3 q1; have fz := (zn1.below qv3).fr))
 all_goals
  replace HB := bel_step HB qv3
  go_wp2
  refine bodyPost_ret (v := .agg #[.bool b, .slice R3 n d3]) ?_ rfl ?_
  ·simp [results, Tryz.results80, go_sem, q0, q1]
  ·obtain ⟨j1_, j2_⟩ := fin_i m3 HB (by omega) q0 q1 (.bool b) (.slice R3 n d3)
   exact ⟨R3, d3, rfl, j1_, j2_⟩
set_option maxRecDepth 100000 in
set_option maxHeartbeats 8000000 in
theorem HRminor_11 {l : List ZE} (hl : l.length = 9) {w : World} (hok : ∀ e ∈ l, e.ok w) {k : Nat} (hk : 2 * k + 1 ≤ 16384) (hb : ∀ e ∈ l, Bz k e.z) {b : Bool} {n : Nat} {xs : List Nat} (I : Iz ((l[8]'(by omega)).z * (l[0]'(by omega)).z - (l[6]'(by omega)).z * (l[2]'(by omega)).z) b n xs) :
  Calls Tryz.prog 80 #[.agg (cellsM l).toArray, .int .i64 1, .int .i64 1] w (GZ w b n xs) := by
 have ho := fun k (h : k < l.length) => And.intro (hok l[k] (List.getElem_mem h)) (hb l[k] (List.getElem_mem h))
 obtain ⟨⟨op, bp_⟩, ⟨ot, bt⟩, ⟨oq, bq⟩, ⟨ou, bu⟩⟩ := And.intro (ho 8 (by omega)) (And.intro (ho 0 (by omega)) (And.intro (ho 6 (by omega)) (ho 2 (by omega))))
 clear ho
 have HC := hid fun (u : World) (r0 : u.rangeAt w.heap.size 0 (cellsM l)) => And.intro (rng_cell r0 (show 8 < l.length by omega)) (And.intro (rng_cell r0 (show 0 < l.length by omega)) (And.intro (rng_cell r0 (show 6 < l.length by omega)) (rng_cell r0 (show 2 < l.length by omega))))
 simp only [Nat.reduceMul, Nat.reduceAdd] at HC
 generalize (l[8]'(by omega)) = ep at *
 generalize (l[0]'(by omega)) = et at *
 generalize (l[6]'(by omega)) = eq_ at *
 generalize (l[2]'(by omega)) = eu at *
 obtain ⟨y1, k1, L1, I1⟩ := iz (ep.z * et.z)
 obtain ⟨y2, k2, L2, I2⟩ := iz (eq_.z * eu.z)
 have H1 := hid fun (W : World) (h : Below w.heap.size w W) => HRmul_g (w := W) op.i ot.i I1.out (op.m.below h) (ot.m.below h) (bp_.ft (by omega)) (bt.ft (by omega)) ((bp_.mul bt).ft (by omega)) rfl
 have H2 := hid fun (W : World) (h : Below w.heap.size w W) => HRmul_g (w := W) oq.i ou.i I2.out (oq.m.below h) (ou.m.below h) (bq.ft (by omega)) (bu.ft (by omega)) ((bq.mul bu).ft (by omega)) rfl
 have H3 := hid fun (W : World) (R Q : Option Addr) (c d : Nat) (m1 : Mg W R c L1) (m2 : Mg W Q d L2) => HRsub_g (w := W) I1.out I2.out I m1 m2 ((bp_.mul bt).ft (by omega)) ((bq.mul bu).ft (by omega)) ((Bz.minor bp_ bq bu bt).ft (by omega)) rfl
 clear op ot oq ou bp_ bt bq bu I I1 I2 hok hb
 obtain ⟨zp, bp2, np, xp, Ap, cp⟩ := ep
 obtain ⟨zt, bt2, nt, xt, At, ct⟩ := et
 obtain ⟨zq, bq2, nq, xq, Aq, cq⟩ := eq_
 obtain ⟨zu, bu2, nu, xu, Au, cu⟩ := eu
 dsimp only at *
 go_enter Tryz.func80, Tryz.ntmps80
 go_upto_region 1 with fail
 refine enterR2 (P := fun u => Code.wp _ _ _ _ u) (c1 := [.bool false, .slice none 0 0]) ?_
 intro v HB r0 r1 zn0 zn1 hsz
 obtain ⟨⟨s0, s1⟩, ⟨s2, s3⟩, ⟨s4, s5⟩, ⟨s6, s7⟩⟩ := HC.out v r0
 have q0 : v.cell? ⟨w.heap.size + 1, 0, none⟩ = some (.bool false) := r1 0 _ rfl
 have q1 : v.cell? ⟨w.heap.size + 1, 1, none⟩ = some (.slice none 0 0) := r1 1 _ rfl
 have lt0 := cell_lt s0
 clear r0 r1 hsz HC
 obtain ⟨e0, e1, e2, e3, e4, e5, e6, e7, e8⟩ := wr9
 go_wp2_with fail
 go_region_held3 (fun w' => (w'.cell? ⟨w.heap.size, 2 * 8, none⟩ = some (.bool bp2) ∧ w'.cell? ⟨w.heap.size, 2 * 8 + 1, none⟩ = some (.slice Ap np cp)) ∧ (w'.cell? ⟨w.heap.size, 2 * 0, none⟩ = some (.bool bt2) ∧ w'.cell? ⟨w.heap.size, 2 * 0 + 1, none⟩ = some (.slice At nt ct)) ∧ (w'.cell? ⟨w.heap.size, 2 * 6, none⟩ = some (.bool bq2) ∧ w'.cell? ⟨w.heap.size, 2 * 6 + 1, none⟩ = some (.slice Aq nq cq)) ∧ (w'.cell? ⟨w.heap.size, 2 * 2, none⟩ = some (.bool bu2) ∧ w'.cell? ⟨w.heap.size, 2 * 2 + 1, none⟩ = some (.slice Au nu cu))) (first | ((try dsimp only); repeat' (first | with_reducible assumption | apply And.intro | (with_reducible refine keep_alloc ?_) | (with_reducible refine keep_drew ?_) | (with_reducible refine keep_set (by omega) ?_) | (with_reducible refine keep_sets (by omega) ?_) | (with_reducible refine keep_cell (W := v) ?_ ?_) | fail))) (first | (go_at_call 53; (with_reducible refine (H1.out _ (bel_step HB BG)).mono ?_); rintro e v1 ⟨R1, d1, rfl, m1, hq1⟩; have qv1 : Below v.heap.size v v1 := bel_step BG hq1) | (go_at_call 53; (with_reducible refine (H2.out _ (bel_step HB BG)).mono ?_); rintro e v2 ⟨R2, d2, rfl, m2, hq2⟩; have qv2 : Below v.heap.size v v2 := bel_step BG hq2; have m1 := m1.below (w' := v2) BG) | (go_at_call 52; (with_reducible refine (H3.out _ _ _ _ _ m1 m2).mono ?_); rintro e v3 ⟨R3, d3, rfl, m3, hq3⟩; have qv3 : Below v.heap.size v v3 := bel_step qv2 hq3; have q0 := keep_cell qv3 q0; have q1 := keep_cell qv3 q1; have fz := (zn1.below qv3).fr))
 all_goals
  replace HB := bel_step HB qv3
  go_wp2
  refine bodyPost_ret (v := .agg #[.bool b, .slice R3 n d3]) ?_ rfl ?_
  ·simp [results, Tryz.results80, go_sem, q0, q1]
  ·obtain ⟨j1_, j2_⟩ := fin_i m3 HB (by omega) q0 q1 (.bool b) (.slice R3 n d3)
   exact ⟨R3, d3, rfl, j1_, j2_⟩
set_option maxRecDepth 100000 in
set_option maxHeartbeats 8000000 in
theorem HRminor_12 {l : List ZE} (hl : l.length = 9) {w : World} (hok : ∀ e ∈ l, e.ok w) {k : Nat} (hk : 2 * k + 1 ≤ 16384) (hb : ∀ e ∈ l, Bz k e.z) {b : Bool} {n : Nat} {xs : List Nat} (I : Iz ((l[6]'(by omega)).z * (l[1]'(by omega)).z - (l[7]'(by omega)).z * (l[0]'(by omega)).z) b n xs) :
  Calls Tryz.prog 80 #[.agg (cellsM l).toArray, .int .i64 1, .int .i64 2] w (GZ w b n xs) := by
 have ho := fun k (h : k < l.length) => And.intro (hok l[k] (List.getElem_mem h)) (hb l[k] (List.getElem_mem h))
 obtain ⟨⟨op, bp_⟩, ⟨ot, bt⟩, ⟨oq, bq⟩, ⟨ou, bu⟩⟩ := And.intro (ho 6 (by omega)) (And.intro (ho 1 (by omega)) (And.intro (ho 7 (by omega)) (ho 0 (by omega))))
 clear ho
 have HC := hid fun (u : World) (r0 : u.rangeAt w.heap.size 0 (cellsM l)) => And.intro (rng_cell r0 (show 6 < l.length by omega)) (And.intro (rng_cell r0 (show 1 < l.length by omega)) (And.intro (rng_cell r0 (show 7 < l.length by omega)) (rng_cell r0 (show 0 < l.length by omega))))
 simp only [Nat.reduceMul, Nat.reduceAdd] at HC
 generalize (l[6]'(by omega)) = ep at *
 generalize (l[1]'(by omega)) = et at *
 generalize (l[7]'(by omega)) = eq_ at *
 generalize (l[0]'(by omega)) = eu at *
 obtain ⟨y1, k1, L1, I1⟩ := iz (ep.z * et.z)
 obtain ⟨y2, k2, L2, I2⟩ := iz (eq_.z * eu.z)
 have H1 := hid fun (W : World) (h : Below w.heap.size w W) => HRmul_g (w := W) op.i ot.i I1.out (op.m.below h) (ot.m.below h) (bp_.ft (by omega)) (bt.ft (by omega)) ((bp_.mul bt).ft (by omega)) rfl
 have H2 := hid fun (W : World) (h : Below w.heap.size w W) => HRmul_g (w := W) oq.i ou.i I2.out (oq.m.below h) (ou.m.below h) (bq.ft (by omega)) (bu.ft (by omega)) ((bq.mul bu).ft (by omega)) rfl
 have H3 := hid fun (W : World) (R Q : Option Addr) (c d : Nat) (m1 : Mg W R c L1) (m2 : Mg W Q d L2) => HRsub_g (w := W) I1.out I2.out I m1 m2 ((bp_.mul bt).ft (by omega)) ((bq.mul bu).ft (by omega)) ((Bz.minor bp_ bq bu bt).ft (by omega)) rfl
 clear op ot oq ou bp_ bt bq bu I I1 I2 hok hb
 obtain ⟨zp, bp2, np, xp, Ap, cp⟩ := ep
 obtain ⟨zt, bt2, nt, xt, At, ct⟩ := et
 obtain ⟨zq, bq2, nq, xq, Aq, cq⟩ := eq_
 obtain ⟨zu, bu2, nu, xu, Au, cu⟩ := eu
 dsimp only at *
 go_enter Tryz.func80, Tryz.ntmps80
 go_upto_region 1 with fail
 refine enterR2 (P := fun u => Code.wp _ _ _ _ u) (c1 := [.bool false, .slice none 0 0]) ?_
 intro v HB r0 r1 zn0 zn1 hsz
 obtain ⟨⟨s0, s1⟩, ⟨s2, s3⟩, ⟨s4, s5⟩, ⟨s6, s7⟩⟩ := HC.out v r0
 have q0 : v.cell? ⟨w.heap.size + 1, 0, none⟩ = some (.bool false) := r1 0 _ rfl
 have q1 : v.cell? ⟨w.heap.size + 1, 1, none⟩ = some (.slice none 0 0) := r1 1 _ rfl
 have lt0 := cell_lt s0
 clear r0 r1 hsz HC
 obtain ⟨e0, e1, e2, e3, e4, e5, e6, e7, e8⟩ := wr9
 go_wp2_with fail
 go_region_held3 (fun w' => (w'.cell? ⟨w.heap.size, 2 * 6, none⟩ = some (.bool bp2) ∧ w'.cell? ⟨w.heap.size, 2 * 6 + 1, none⟩ = some (.slice Ap np cp)) ∧ (w'.cell? ⟨w.heap.size, 2 * 1, none⟩ = some (.bool bt2) ∧ w'.cell? ⟨w.heap.size, 2 * 1 + 1, none⟩ = some (.slice At nt ct)) ∧ (w'.cell? ⟨w.heap.size, 2 * 7, none⟩ = some (.bool bq2) ∧ w'.cell? ⟨w.heap.size, 2 * 7 + 1, none⟩ = some (.slice Aq nq cq)) ∧ (w'.cell? ⟨w.heap.size, 2 * 0, none⟩ = some (.bool bu2) ∧ w'.cell? ⟨w.heap.size, 2 * 0 + 1, none⟩ = some (.slice Au nu cu))) (first | ((try dsimp only); repeat' (first | with_reducible assumption | apply And.intro | (with_reducible refine keep_alloc ?_) | (with_reducible refine keep_drew ?_) | (with_reducible refine keep_set (by omega) ?_) | (with_reducible refine keep_sets (by omega) ?_) | (with_reducible refine keep_cell (W := v) ?_ ?_) | fail))) (first | (go_at_call 53; (with_reducible refine (H1.out _ (bel_step HB BG)).mono ?_); rintro e v1 ⟨R1, d1, rfl, m1, hq1⟩; have qv1 : Below v.heap.size v v1 := bel_step BG hq1) | (go_at_call 53; (with_reducible refine (H2.out _ (bel_step HB BG)).mono ?_); rintro e v2 ⟨R2, d2, rfl, m2, hq2⟩; have qv2 : Below v.heap.size v v2 := bel_step BG hq2; have m1 := m1.below (w' := v2) BG) | (go_at_call 52; (with_reducible refine (H3.out _ _ _ _ _ m1 m2).mono ?_); rintro e v3 ⟨R3, d3, rfl, m3, hq3⟩; have qv3 : Below v.heap.size v v3 := bel_step qv2 hq3; have q0 := keep_cell qv3 q0; have q1 := keep_cell qv3 q1; have fz := (zn1.below qv3).fr))
 all_goals
  replace HB := bel_step HB qv3
  go_wp2
  refine bodyPost_ret (v := .agg #[.bool b, .slice R3 n d3]) ?_ rfl ?_
  ·simp [results, Tryz.results80, go_sem, q0, q1]
  ·obtain ⟨j1_, j2_⟩ := fin_i m3 HB (by omega) q0 q1 (.bool b) (.slice R3 n d3)
   exact ⟨R3, d3, rfl, j1_, j2_⟩
set_option maxRecDepth 100000 in
set_option maxHeartbeats 8000000 in
theorem HRminor_20 {l : List ZE} (hl : l.length = 9) {w : World} (hok : ∀ e ∈ l, e.ok w) {k : Nat} (hk : 2 * k + 1 ≤ 16384) (hb : ∀ e ∈ l, Bz k e.z) {b : Bool} {n : Nat} {xs : List Nat} (I : Iz ((l[1]'(by omega)).z * (l[5]'(by omega)).z - (l[2]'(by omega)).z * (l[4]'(by omega)).z) b n xs) :
  Calls Tryz.prog 80 #[.agg (cellsM l).toArray, .int .i64 2, .int .i64 0] w (GZ w b n xs) := by
 have ho := fun k (h : k < l.length) => And.intro (hok l[k] (List.getElem_mem h)) (hb l[k] (List.getElem_mem h))
 obtain ⟨⟨op, bp_⟩, ⟨ot, bt⟩, ⟨oq, bq⟩, ⟨ou, bu⟩⟩ := And.intro (ho 1 (by omega)) (And.intro (ho 5 (by omega)) (And.intro (ho 2 (by omega)) (ho 4 (by omega))))
 clear ho
 have HC := hid fun (u : World) (r0 : u.rangeAt w.heap.size 0 (cellsM l)) => And.intro (rng_cell r0 (show 1 < l.length by omega)) (And.intro (rng_cell r0 (show 5 < l.length by omega)) (And.intro (rng_cell r0 (show 2 < l.length by omega)) (rng_cell r0 (show 4 < l.length by omega))))
 simp only [Nat.reduceMul, Nat.reduceAdd] at HC
 generalize (l[1]'(by omega)) = ep at *
 generalize (l[5]'(by omega)) = et at *
 generalize (l[2]'(by omega)) = eq_ at *
 generalize (l[4]'(by omega)) = eu at *
 obtain ⟨y1, k1, L1, I1⟩ := iz (ep.z * et.z)
 obtain ⟨y2, k2, L2, I2⟩ := iz (eq_.z * eu.z)
 have H1 := hid fun (W : World) (h : Below w.heap.size w W) => HRmul_g (w := W) op.i ot.i I1.out (op.m.below h) (ot.m.below h) (bp_.ft (by omega)) (bt.ft (by omega)) ((bp_.mul bt).ft (by omega)) rfl
 have H2 := hid fun (W : World) (h : Below w.heap.size w W) => HRmul_g (w := W) oq.i ou.i I2.out (oq.m.below h) (ou.m.below h) (bq.ft (by omega)) (bu.ft (by omega)) ((bq.mul bu).ft (by omega)) rfl
 have H3 := hid fun (W : World) (R Q : Option Addr) (c d : Nat) (m1 : Mg W R c L1) (m2 : Mg W Q d L2) => HRsub_g (w := W) I1.out I2.out I m1 m2 ((bp_.mul bt).ft (by omega)) ((bq.mul bu).ft (by omega)) ((Bz.minor bp_ bq bu bt).ft (by omega)) rfl
 clear op ot oq ou bp_ bt bq bu I I1 I2 hok hb
 obtain ⟨zp, bp2, np, xp, Ap, cp⟩ := ep
 obtain ⟨zt, bt2, nt, xt, At, ct⟩ := et
 obtain ⟨zq, bq2, nq, xq, Aq, cq⟩ := eq_
 obtain ⟨zu, bu2, nu, xu, Au, cu⟩ := eu
 dsimp only at *
 go_enter Tryz.func80, Tryz.ntmps80
 go_upto_region 1 with fail
 refine enterR2 (P := fun u => Code.wp _ _ _ _ u) (c1 := [.bool false, .slice none 0 0]) ?_
 intro v HB r0 r1 zn0 zn1 hsz
 obtain ⟨⟨s0, s1⟩, ⟨s2, s3⟩, ⟨s4, s5⟩, ⟨s6, s7⟩⟩ := HC.out v r0
 have q0 : v.cell? ⟨w.heap.size + 1, 0, none⟩ = some (.bool false) := r1 0 _ rfl
 have q1 : v.cell? ⟨w.heap.size + 1, 1, none⟩ = some (.slice none 0 0) := r1 1 _ rfl
 have lt0 := cell_lt s0
 clear r0 r1 hsz HC
 obtain ⟨e0, e1, e2, e3, e4, e5, e6, e7, e8⟩ := wr9
 go_wp2_with fail
 go_region_held3 (fun w' => (w'.cell? ⟨w.heap.size, 2 * 1, none⟩ = some (.bool bp2) ∧ w'.cell? ⟨w.heap.size, 2 * 1 + 1, none⟩ = some (.slice Ap np cp)) ∧ (w'.cell? ⟨w.heap.size, 2 * 5, none⟩ = some (.bool bt2) ∧ w'.cell? ⟨w.heap.size, 2 * 5 + 1, none⟩ = some (.slice At nt ct)) ∧ (w'.cell? ⟨w.heap.size, 2 * 2, none⟩ = some (.bool bq2) ∧ w'.cell? ⟨w.heap.size, 2 * 2 + 1, none⟩ = some (.slice Aq nq cq)) ∧ (w'.cell? ⟨w.heap.size, 2 * 4, none⟩ = some (.bool bu2) ∧ w'.cell? ⟨w.heap.size, 2 * 4 + 1, none⟩ = some (.slice Au nu cu))) (first | ((try dsimp only); repeat' (first | with_reducible assumption | apply And.intro | (with_reducible refine keep_alloc ?_) | (with_reducible refine keep_drew ?_) | (with_reducible refine keep_set (by omega) ?_) | (with_reducible refine keep_sets (by omega) ?_) | (with_reducible refine keep_cell (W := v) ?_ ?_) | fail))) (first | (go_at_call 53; (with_reducible refine (H1.out _ (bel_step HB BG)).mono ?_); rintro e v1 ⟨R1, d1, rfl, m1, hq1⟩; have qv1 : Below v.heap.size v v1 := bel_step BG hq1) | (go_at_call 53; (with_reducible refine (H2.out _ (bel_step HB BG)).mono ?_); rintro e v2 ⟨R2, d2, rfl, m2, hq2⟩; have qv2 : Below v.heap.size v v2 := bel_step BG hq2; have m1 := m1.below (w' := v2) BG) | (go_at_call 52; (with_reducible refine (H3.out _ _ _ _ _ m1 m2).mono ?_); rintro e v3 ⟨R3, d3, rfl, m3, hq3⟩; have qv3 : Below v.heap.size v v3 := bel_step qv2 hq3; have q0 := keep_cell qv3 q0; have q1 := keep_cell qv3 q1; have fz := (zn1.below qv3).fr))
 all_goals
  replace HB := bel_step HB qv3
  go_wp2
  refine bodyPost_ret (v := .agg #[.bool b, .slice R3 n d3]) ?_ rfl ?_
  ·simp [results, Tryz.results80, go_sem, q0, q1]
  ·obtain ⟨j1_, j2_⟩ := fin_i m3 HB (by omega) q0 q1 (.bool b) (.slice R3 n d3)
   exact ⟨R3, d3, rfl, j1_, j2_⟩
set_option maxRecDepth 100000 in
set_option maxHeartbeats 8000000 in
theorem HRminor_21 {l : List ZE} (hl : l.length = 9) {w : World} (hok : ∀ e ∈ l, e.ok w) {k : Nat} (hk : 2 * k + 1 ≤ 16384) (hb : ∀ e ∈ l, Bz k e.z) {b : Bool} {n : Nat} {xs : List Nat} (I : Iz ((l[2]'(by omega)).z * (l[3]'(by omega)).z - (l[0]'(by omega)).z * (l[5]'(by omega)).z) b n xs) :
  Calls Tryz.prog 80 #[.agg (cellsM l).toArray, .int .i64 2, .int .i64 1] w (GZ w b n xs) := by
 have ho := fun k (h : k < l.length) => And.intro (hok l[k] (List.getElem_mem h)) (hb l[k] (List.getElem_mem h))
 obtain ⟨⟨op, bp_⟩, ⟨ot, bt⟩, ⟨oq, bq⟩, ⟨ou, bu⟩⟩ := And.intro (ho 2 (by omega)) (And.intro (ho 3 (by omega)) (And.intro (ho 0 (by omega)) (ho 5 (by omega))))
 clear ho
 have HC := hid fun (u : World) (r0 : u.rangeAt w.heap.size 0 (cellsM l)) => And.intro (rng_cell r0 (show 2 < l.length by omega)) (And.intro (rng_cell r0 (show 3 < l.length by omega)) (And.intro (rng_cell r0 (show 0 < l.length by omega)) (rng_cell r0 (show 5 < l.length by omega))))
 simp only [Nat.reduceMul, Nat.reduceAdd] at HC
 generalize (l[2]'(by omega)) = ep at *
 generalize (l[3]'(by omega)) = et at *
 generalize (l[0]'(by omega)) = eq_ at *
 generalize (l[5]'(by omega)) = eu at *
 obtain ⟨y1, k1, L1, I1⟩ := iz (ep.z * et.z)
 obtain ⟨y2, k2, L2, I2⟩ := iz (eq_.z * eu.z)
 have H1 := hid fun (W : World) (h : Below w.heap.size w W) => HRmul_g (w := W) op.i ot.i I1.out (op.m.below h) (ot.m.below h) (bp_.ft (by omega)) (bt.ft (by omega)) ((bp_.mul bt).ft (by omega)) rfl
 have H2 := hid fun (W : World) (h : Below w.heap.size w W) => HRmul_g (w := W) oq.i ou.i I2.out (oq.m.below h) (ou.m.below h) (bq.ft (by omega)) (bu.ft (by omega)) ((bq.mul bu).ft (by omega)) rfl
 have H3 := hid fun (W : World) (R Q : Option Addr) (c d : Nat) (m1 : Mg W R c L1) (m2 : Mg W Q d L2) => HRsub_g (w := W) I1.out I2.out I m1 m2 ((bp_.mul bt).ft (by omega)) ((bq.mul bu).ft (by omega)) ((Bz.minor bp_ bq bu bt).ft (by omega)) rfl
 clear op ot oq ou bp_ bt bq bu I I1 I2 hok hb
 obtain ⟨zp, bp2, np, xp, Ap, cp⟩ := ep
 obtain ⟨zt, bt2, nt, xt, At, ct⟩ := et
 obtain ⟨zq, bq2, nq, xq, Aq, cq⟩ := eq_
 obtain ⟨zu, bu2, nu, xu, Au, cu⟩ := eu
 dsimp only at *
 go_enter Tryz.func80, Tryz.ntmps80
 go_upto_region 1 with fail
 refine enterR2 (P := fun u => Code.wp _ _ _ _ u) (c1 := [.bool false, .slice none 0 0]) ?_
 intro v HB r0 r1 zn0 zn1 hsz
 obtain ⟨⟨s0, s1⟩, ⟨s2, s3⟩, ⟨s4, s5⟩, ⟨s6, s7⟩⟩ := HC.out v r0
 have q0 : v.cell? ⟨w.heap.size + 1, 0, none⟩ = some (.bool false) := r1 0 _ rfl
 have q1 : v.cell? ⟨w.heap.size + 1, 1, none⟩ = some (.slice none 0 0) := r1 1 _ rfl
 have lt0 := cell_lt s0
 clear r0 r1 hsz HC
 obtain ⟨e0, e1, e2, e3, e4, e5, e6, e7, e8⟩ := wr9
 go_wp2_with fail
 go_region_held3 (fun w' => (w'.cell? ⟨w.heap.size, 2 * 2, none⟩ = some (.bool bp2) ∧ w'.cell? ⟨w.heap.size, 2 * 2 + 1, none⟩ = some (.slice Ap np cp)) ∧ (w'.cell? ⟨w.heap.size, 2 * 3, none⟩ = some (.bool bt2) ∧ w'.cell? ⟨w.heap.size, 2 * 3 + 1, none⟩ = some (.slice At nt ct)) ∧ (w'.cell? ⟨w.heap.size, 2 * 0, none⟩ = some (.bool bq2) ∧ w'.cell? ⟨w.heap.size, 2 * 0 + 1, none⟩ = some (.slice Aq nq cq)) ∧ (w'.cell? ⟨w.heap.size, 2 * 5, none⟩ = some (.bool bu2) ∧ w'.cell? ⟨w.heap.size, 2 * 5 + 1, none⟩ = some (.slice Au nu cu))) (first | ((try dsimp only); repeat' (first | with_reducible assumption | apply And.intro | (with_reducible refine keep_alloc ?_) | (with_reducible refine keep_drew ?_) | (with_reducible refine keep_set (by omega) ?_) | (with_reducible refine keep_sets (by omega) ?_) | (with_reducible refine keep_cell (W := v) ?_ ?_) | fail))) (first | (go_at_call 53; (with_reducible refine (H1.out _ (bel_step HB BG)).mono ?_); rintro e v1 ⟨R1, d1, rfl, m1, hq1⟩; have qv1 : Below v.heap.size v v1 := bel_step BG hq1) | (go_at_call 53; (with_reducible refine (H2.out _ (bel_step HB BG)).mono ?_); rintro e v2 ⟨R2, d2, rfl, m2, hq2⟩; have qv2 : Below v.heap.size v v2 := bel_step BG hq2; have m1 := m1.below (w' := v2) BG) | (go_at_call 52; (with_reducible refine (H3.out _ _ _ _ _ m1 m2).mono ?_); rintro e v3 ⟨R3, d3, rfl, m3, hq3⟩; have qv3 : Below v.heap.size v v3 := bel_step qv2 hq3; have q0 := keep_cell qv3 q0; have q1 := keep_cell qv3 q1; have fz := (zn1.below qv3).fr))
 all_goals
  replace HB := bel_step HB qv3
  go_wp2
  refine bodyPost_ret (v := .agg #[.bool b, .slice R3 n d3]) ?_ rfl ?_
  ·simp [results, Tryz.results80, go_sem, q0, q1]
  ·obtain ⟨j1_, j2_⟩ := fin_i m3 HB (by omega) q0 q1 (.bool b) (.slice R3 n d3)
   exact ⟨R3, d3, rfl, j1_, j2_⟩
set_option maxRecDepth 100000 in
set_option maxHeartbeats 8000000 in
theorem HRminor_22 {l : List ZE} (hl : l.length = 9) {w : World} (hok : ∀ e ∈ l, e.ok w) {k : Nat} (hk : 2 * k + 1 ≤ 16384) (hb : ∀ e ∈ l, Bz k e.z) {b : Bool} {n : Nat} {xs : List Nat} (I : Iz ((l[0]'(by omega)).z * (l[4]'(by omega)).z - (l[1]'(by omega)).z * (l[3]'(by omega)).z) b n xs) :
  Calls Tryz.prog 80 #[.agg (cellsM l).toArray, .int .i64 2, .int .i64 2] w (GZ w b n xs) := by
 have ho := fun k (h : k < l.length) => And.intro (hok l[k] (List.getElem_mem h)) (hb l[k] (List.getElem_mem h))
 obtain ⟨⟨op, bp_⟩, ⟨ot, bt⟩, ⟨oq, bq⟩, ⟨ou, bu⟩⟩ := And.intro (ho 0 (by omega)) (And.intro (ho 4 (by omega)) (And.intro (ho 1 (by omega)) (ho 3 (by omega))))
 clear ho
 have HC := hid fun (u : World) (r0 : u.rangeAt w.heap.size 0 (cellsM l)) => And.intro (rng_cell r0 (show 0 < l.length by omega)) (And.intro (rng_cell r0 (show 4 < l.length by omega)) (And.intro (rng_cell r0 (show 1 < l.length by omega)) (rng_cell r0 (show 3 < l.length by omega))))
 simp only [Nat.reduceMul, Nat.reduceAdd] at HC
 generalize (l[0]'(by omega)) = ep at *
 generalize (l[4]'(by omega)) = et at *
 generalize (l[1]'(by omega)) = eq_ at *
 generalize (l[3]'(by omega)) = eu at *
 obtain ⟨y1, k1, L1, I1⟩ := iz (ep.z * et.z)
 obtain ⟨y2, k2, L2, I2⟩ := iz (eq_.z * eu.z)
 have H1 := hid fun (W : World) (h : Below w.heap.size w W) => HRmul_g (w := W) op.i ot.i I1.out (op.m.below h) (ot.m.below h) (bp_.ft (by omega)) (bt.ft (by omega)) ((bp_.mul bt).ft (by omega)) rfl
 have H2 := hid fun (W : World) (h : Below w.heap.size w W) => HRmul_g (w := W) oq.i ou.i I2.out (oq.m.below h) (ou.m.below h) (bq.ft (by omega)) (bu.ft (by omega)) ((bq.mul bu).ft (by omega)) rfl
 have H3 := hid fun (W : World) (R Q : Option Addr) (c d : Nat) (m1 : Mg W R c L1) (m2 : Mg W Q d L2) => HRsub_g (w := W) I1.out I2.out I m1 m2 ((bp_.mul bt).ft (by omega)) ((bq.mul bu).ft (by omega)) ((Bz.minor bp_ bq bu bt).ft (by omega)) rfl
 clear op ot oq ou bp_ bt bq bu I I1 I2 hok hb
 obtain ⟨zp, bp2, np, xp, Ap, cp⟩ := ep
 obtain ⟨zt, bt2, nt, xt, At, ct⟩ := et
 obtain ⟨zq, bq2, nq, xq, Aq, cq⟩ := eq_
 obtain ⟨zu, bu2, nu, xu, Au, cu⟩ := eu
 dsimp only at *
 go_enter Tryz.func80, Tryz.ntmps80
 go_upto_region 1 with fail
 refine enterR2 (P := fun u => Code.wp _ _ _ _ u) (c1 := [.bool false, .slice none 0 0]) ?_
 intro v HB r0 r1 zn0 zn1 hsz
 obtain ⟨⟨s0, s1⟩, ⟨s2, s3⟩, ⟨s4, s5⟩, ⟨s6, s7⟩⟩ := HC.out v r0
 have q0 : v.cell? ⟨w.heap.size + 1, 0, none⟩ = some (.bool false) := r1 0 _ rfl
 have q1 : v.cell? ⟨w.heap.size + 1, 1, none⟩ = some (.slice none 0 0) := r1 1 _ rfl
 have lt0 := cell_lt s0
 clear r0 r1 hsz HC
 obtain ⟨e0, e1, e2, e3, e4, e5, e6, e7, e8⟩ := wr9
 go_wp2_with fail
 go_region_held3 (fun w' => (w'.cell? ⟨w.heap.size, 2 * 0, none⟩ = some (.bool bp2) ∧ w'.cell? ⟨w.heap.size, 2 * 0 + 1, none⟩ = some (.slice Ap np cp)) ∧ (w'.cell? ⟨w.heap.size, 2 * 4, none⟩ = some (.bool bt2) ∧ w'.cell? ⟨w.heap.size, 2 * 4 + 1, none⟩ = some (.slice At nt ct)) ∧ (w'.cell? ⟨w.heap.size, 2 * 1, none⟩ = some (.bool bq2) ∧ w'.cell? ⟨w.heap.size, 2 * 1 + 1, none⟩ = some (.slice Aq nq cq)) ∧ (w'.cell? ⟨w.heap.size, 2 * 3, none⟩ = some (.bool bu2) ∧ w'.cell? ⟨w.heap.size, 2 * 3 + 1, none⟩ = some (.slice Au nu cu))) (first | ((try dsimp only); repeat' (first | with_reducible assumption | apply And.intro | (with_reducible refine keep_alloc ?_) | (with_reducible refine keep_drew ?_) | (with_reducible refine keep_set (by omega) ?_) | (with_reducible refine keep_sets (by omega) ?_) | (with_reducible refine keep_cell (W := v) ?_ ?_) | fail))) (first | (go_at_call 53; (with_reducible refine (H1.out _ (bel_step HB BG)).mono ?_); rintro e v1 ⟨R1, d1, rfl, m1, hq1⟩; have qv1 : Below v.heap.size v v1 := bel_step BG hq1) | (go_at_call 53; (with_reducible refine (H2.out _ (bel_step HB BG)).mono ?_); rintro e v2 ⟨R2, d2, rfl, m2, hq2⟩; have qv2 : Below v.heap.size v v2 := bel_step BG hq2; have m1 := m1.below (w' := v2) BG) | (go_at_call 52; (with_reducible refine (H3.out _ _ _ _ _ m1 m2).mono ?_); rintro e v3 ⟨R3, d3, rfl, m3, hq3⟩; have qv3 : Below v.heap.size v v3 := bel_step qv2 hq3; have q0 := keep_cell qv3 q0; have q1 := keep_cell qv3 q1; have fz := (zn1.below qv3).fr))
 all_goals
  replace HB := bel_step HB qv3
  go_wp2
  refine bodyPost_ret (v := .agg #[.bool b, .slice R3 n d3]) ?_ rfl ?_
  ·simp [results, Tryz.results80, go_sem, q0, q1]
  ·obtain ⟨j1_, j2_⟩ := fin_i m3 HB (by omega) q0 q1 (.bool b) (.slice R3 n d3)
   exact ⟨R3, d3, rfl, j1_, j2_⟩
end Go.Proofs.YtgnfobnkhjlbbaaGreat
/- Homographies, the reference: walk of adjugate. Conditions: none. -/
namespace Go.Proofs.YtgnfobnkhjlbbaaGreat
open Go.RowKit Big
/-- minor at the number of an entry -/
theorem HRminor_i {l : List ZE} (hl : l.length = 9) {w : World} (hok : ∀ e ∈ l, e.ok w) {k : Nat} (hk : 2 * k + 1 ≤ 16384) (hb : ∀ e ∈ l, Bz k e.z) {i : Nat} (hi : i < 9) {z : Int} (hz : (adjZ (l.map (·.z)))[i]? = some z) {b : Bool} {n : Nat} {xs : List Nat} (I : Iz z b n xs) :
  Calls Tryz.prog 80 #[.agg (cellsM l).toArray, .int .i64 ((i % 3 : Nat) : Int), .int .i64 ((i / 3 : Nat) : Int)] w (GZ w b n xs) := by
 obtain ⟨e0, e1, e2, e3, e4, e5, e6, e7, e8, rfl⟩ := nine l hl
 match i, hi with
 | 0, _ => obtain rfl := Option.some.inj hz; exact HRminor_00 hl hok hk hb I
 | 1, _ => obtain rfl := Option.some.inj hz; exact HRminor_10 hl hok hk hb (by simpa [Int.mul_comm] using I)
 | 2, _ => obtain rfl := Option.some.inj hz; exact HRminor_20 hl hok hk hb (by simpa [Int.mul_comm] using I)
 | 3, _ => obtain rfl := Option.some.inj hz; exact HRminor_01 hl hok hk hb (by simpa [Int.mul_comm] using I)
 | 4, _ => obtain rfl := Option.some.inj hz; exact HRminor_11 hl hok hk hb (by simpa [Int.mul_comm] using I)
 | 5, _ => obtain rfl := Option.some.inj hz; exact HRminor_21 hl hok hk hb (by simpa [Int.mul_comm] using I)
 | 6, _ => obtain rfl := Option.some.inj hz; exact HRminor_02 hl hok hk hb (by simpa [Int.mul_comm] using I)
 | 7, _ => obtain rfl := Option.some.inj hz; exact HRminor_12 hl hok hk hb (by simpa [Int.mul_comm] using I)
 | 8, _ => obtain rfl := Option.some.inj hz; exact HRminor_22 hl hok hk hb (by simpa [Int.mul_comm] using I)
set_option maxRecDepth 100000 in
set_option maxHeartbeats 8000000 in
theorem HRadjugate_g (l : List ZE) (hl : l.length = 9) {w : World} (hok : ∀ e ∈ l, e.ok w) {k : Nat} (hk : 2 * k + 1 ≤ 16384) (hb : ∀ e ∈ l, Bz k e.z) :
  Calls Tryz.prog 41 #[.agg (cellsM l).toArray] w (RetM w (adjZ (l.map (·.z)))) := by
 have hi := hid (show (Tryz.prog.info? 54).map (·.size) = some (cellsM l).length by rw [cellsM_len, hl]; kernel_rfl)
 have hal : (adjZ (l.map (·.z))).length = 9 := adjZ_len (by simpa using hl)
 have HMi := hid fun (W : World) (h : Below w.heap.size w W) (i : Nat) (hi : i < 9) (z : Int) (hz : (adjZ (l.map (·.z)))[i]? = some z) (b : Bool) (n : Nat) (xs : List Nat) (I : Iz z b n xs) => HRminor_i hl (w := W) (fun e he => (hok e he).below h) hk hb hi hz I
 clear hok hb
 generalize adjZ (l.map (·.z)) = ZS at *
 go_enter Tryz.func41, Tryz.ntmps41
 go_upto_region 2 with fail
 refine enterR3 (P := fun u => Code.wp _ _ _ _ u) ?_
 intro u HB r0 r1 r2 zn0 zn1 zn2 hsz
 have hF : Fil w [(w.heap.size, cellsM l), (w.heap.size + 1, cellsM zeros9)] (w.heap.size + 1 + 1) (sofar ZS 0) u := ⟨HB, by
  intro p hp
  simp only [List.mem_cons, List.not_mem_nil, or_false] at hp
  rcases hp with rfl | rfl
  ·exact ⟨r0, zn0, by dsimp only; omega⟩
  ·exact ⟨r1, zn1, by dsimp only; omega⟩, zn2, by omega, zeros9, r2, fun e he => by rw [List.eq_of_mem_replicate he]; exact ZE.zero_ok _, by rw [sofar_none, hal]; rfl⟩
 clear r0 r1 r2 zn0 zn1 zn2 hsz HB
 go_wp2
 go_loopw [4] (fun s4 wr => ∃ j : Nat, j ≤ 9 ∧ s4 = .int .i64 j ∧ Fil w [(w.heap.size, cellsM l), (w.heap.size + 1, cellsM zeros9)] (w.heap.size + 1 + 1) (sofar ZS j) wr) (fun s4 _ => 9 - (intOf s4).toNat)
 case atStart => exact ⟨0, by omega, rfl, hF⟩
 case round =>
  obtain ⟨j, hj, rfl, hS⟩ := hrel
  clear hF
  by_cases h9 : j < 9
  ·have h9i : (j : Int) < 9 := by omega
   have hjz : ZS[j]? = some (ZS[j]'(by omega)) := List.getElem?_eq_getElem (by omega)
   have hn := sofar_set' hjz
   have HM := HMi.out wr hS.b j h9 _ hjz
   generalize ZS[j]'(by omega) = z at *
   obtain ⟨b, n, xs, I⟩ := iz z
   obtain ⟨r, hr⟩ : ∃ r, j % 3 = r := ⟨_, rfl⟩
   obtain ⟨q, hq⟩ : ∃ q, j / 3 = q := ⟨_, rfl⟩
   rw [hr, hq] at HM
   have e1 : (j : Int) % 3 = (r : Int) := by omega
   have e2 : (j : Int) / 3 = (q : Int) := by omega
   have e3 : (j : Int).tmod 3 = (r : Int) := by rw [Int.tmod_eq_emod_of_nonneg (by omega)]; omega
   have e4 : (j : Int).tdiv 3 = (q : Int) := by rw [Int.tdiv_eq_ediv_of_nonneg (by omega)]; omega
   have e5 : IntKind.i64.wrap (r : Int) = (r : Int) := by rw [IntKind.wrap_i64]; omega
   have e6 : IntKind.i64.wrap (q : Int) = (q : Int) := by rw [IntKind.wrap_i64]; omega
   clear hr hq
   have HM := hid (HM b n xs I.out)
   have hlen : (sofar ZS j).length = 9 := by rw [sofar_len _ _ (by omega), hal]
   obtain ⟨x0, _, _⟩ := hS.k (w.heap.size, cellsM l) (by simp)
   dsimp only at x0
   obtain ⟨td, _, _, c0, c1⟩ := hS.cell (j := j) (by omega)
   obtain ⟨zd_, bd_, nd_, xd_, Ad_, cd_⟩ := td
   dsimp only at c0 c1
   have HN := hid hn
   have HS := hid hS
   clear hS hn hjz
   go_wp2_with (first | refine wpList_load_mid (by rfl) _ _ (by rfl) w.heap.size 0 (by rfl) (cellsM l) _ x0 RT54 (by rfl) hi.out ?_ | fail)
   refine HM.out.mono ?_
   rintro e v1 ⟨R, d, rfl, m, h1⟩
   have c0 := keep_cell h1 c0
   have c1 := keep_cell h1 c1
   have f0 := (HS.out.zm.below h1).fr
   have hF5 := (HS.out.below h1).set (j := j) (by omega) I.out m
   rw [HN.out] at hF5
   have HF5 := hid hF5
   clear hF5 x0
   go_wp2
   go_roundw
   case rel => exact ⟨j + 1, by omega, by go_num, HF5.out⟩
   case measure => simp [intOf]; omega
  ·obtain rfl : j = 9 := by omega
   have hS' : Fil w [(w.heap.size, cellsM l), (w.heap.size + 1, cellsM zeros9)] (w.heap.size + 1 + 1) ZS wr := by
    have := hS
    rwa [show 9 = ZS.length from hal.symm, sofar_all] at this
   obtain ⟨lm, e2, e3, e4⟩ := hS'.ex
   obtain ⟨q1, z1, _⟩ := hS'.k (w.heap.size + 1, cellsM zeros9) (by simp)
   dsimp only at q1 z1
   have e1 : lm.length = 9 := by rw [← List.length_map (·.z), e4, hal]
   have hi9 := hid (show (Tryz.prog.info? 54).map (·.size) = some (cellsM lm).length by rw [cellsM_len, e1]; kernel_rfl)
   have hi9' := hid (show (Tryz.prog.info? 54).map (·.size) = some (cellsM lm).toArray.size by rw [List.size_toArray, cellsM_len, e1]; kernel_rfl)
   obtain ⟨G1, G2, G3, G4⟩ := fin_N (w := w) (l := lm) (cs := zeros9) RT54 rfl hi9.out hS'.b (by omega) q1 z1 (by rw [e1]; rfl) e3
   have HF := hid (And.intro e4 (And.intro G3 G4))
   have ht := rng_there q1 z1
   rw [show (cellsM zeros9).length = (cellsM lm).toArray.size by rw [List.size_toArray, cellsM_len, cellsM_len, e1]; rfl] at ht
   have ho := all_oneCell_toArray (cellsM_one lm)
   clear e1 e3 e4 G1 G3 G4 hS hS' q1 z1 hal
   go_wp2_with (first | refine wpList_load_mid (by rfl) _ _ (by rfl) (w.heap.size + 1 + 1) 0 (by rfl) (cellsM lm) _ e2 RT54 (by rfl) hi9.out ?_ | refine wpList_store_mid (by rfl) _ _ _ (by rfl) (w.heap.size + 1) 0 (cellsM lm).toArray (by rfl) (by rfl) ht hi9'.out ho ?_ | fail)
   refine bodyPost_ret (v := .agg (cellsM lm).toArray) ?_ rfl ?_
   ·simp [results, Tryz.results41, Sem.run_bind, asAddr, Act.put, G2]
   ·exact ⟨lm, rfl, HF.out.1, HF.out.2.2, HF.out.2.1⟩
end Go.Proofs.YtgnfobnkhjlbbaaGreat
