/- Tables: Draw of the package. Conditions: at most 1000 widths and heights. -/
import Derived.Test.YtjfgklhifhaaoaaZTw4
set_option linter.unusedVariables false
set_option linter.unusedSimpArgs false
namespace Go.Proofs.Ytjfgklhifhaaoaa
open Go.RowKit
theorem drwE_0 {ws hs : List Int} {t : Int} (h : ws.length = 0 ∨ hs.length = 0) : drwE ws hs t = (noB, 5) := by unfold drwE; rw [if_pos h]
theorem drwE_1 {ws hs : List Int} {t : Int} (h0 : ¬ (ws.length = 0 ∨ hs.length = 0)) (h : (ws.any badI || hs.any badI || badI t) = true) : drwE ws hs t = (noB, 3) := by unfold drwE; rw [if_neg h0, if_pos h]
theorem drwE_2 {ws hs : List Int} {t : Int} (h0 : ¬ (ws.length = 0 ∨ hs.length = 0)) (h1 : ¬ (ws.any badI || hs.any badI || badI t) = true) (h : 4096 < extE ws t ∨ 4096 < extE hs t ∨ 4194304 < extE ws t * extE hs t) : drwE ws hs t = (noB, 4) := by unfold drwE; rw [if_neg h0, if_neg h1, if_pos h]
theorem drwE_3 {ws hs : List Int} {t : Int} (h0 : ¬ (ws.length = 0 ∨ hs.length = 0)) (h1 : ¬ (ws.any badI || hs.any badI || badI t) = true) (h : ¬ (4096 < extE ws t ∨ 4096 < extE hs t ∨ 4194304 < extE ws t * extE hs t)) : drwE ws hs t = (⟨extE ws t, extE hs t, drwL ws hs t (extE ws t) (extE hs t)⟩, 0) := by unfold drwE; rw [if_neg h0, if_neg h1, if_neg h]
/-- the columns' lines, the first i -/
def colK (ws : List Int) (W H t : Int) (d : List Bool) (i : Nat) : Int × List Bool := (ws.take i).foldl (colS W H t) (t, d)
def rowK (hs : List Int) (W H t : Int) (d : List Bool) (i : Nat) : Int × List Bool := (hs.take i).foldl (rowS W H t) (t, d)
theorem colK_at (W H t : Int) : ∀ (l : List Int) (s : Int × List Bool), (l.foldl (colS W H t) s).1 = l.foldl (fun s n => s + (n + t)) s.1
 | [], s => rfl
 | n :: l, s => colK_at W H t l _
theorem rowK_at (W H t : Int) : ∀ (l : List Int) (s : Int × List Bool), (l.foldl (rowS W H t) s).1 = l.foldl (fun s n => s + (n + t)) s.1
 | [], s => rfl
 | n :: l, s => rowK_at W H t l _
theorem colK_len (W H t : Int) : ∀ (l : List Int) (s : Int × List Bool), (l.foldl (colS W H t) s).2.length = s.2.length
 | [], s => rfl
 | n :: l, s => (colK_len W H t l _).trans (pntB_len ..)
theorem rowK_len (W H t : Int) : ∀ (l : List Int) (s : Int × List Bool), (l.foldl (rowS W H t) s).2.length = s.2.length
 | [], s => rfl
 | n :: l, s => (rowK_len W H t l _).trans (pntB_len ..)
theorem colK_succ {ws : List Int} {W H t : Int} {d : List Bool} {i : Nat} (h : i < ws.length) : colK ws W H t d (i + 1) = colS W H t (colK ws W H t d i) ws[i] := by
 unfold colK
 rw [List.take_succ_eq_append_getElem h, List.foldl_append]; rfl
theorem rowK_succ {hs : List Int} {W H t : Int} {d : List Bool} {i : Nat} (h : i < hs.length) : rowK hs W H t d (i + 1) = rowS W H t (rowK hs W H t d i) hs[i] := by
 unfold rowK
 rw [List.take_succ_eq_append_getElem h, List.foldl_append]; rfl
theorem colK_1 (ws : List Int) (W H t : Int) (d : List Bool) (i : Nat) : (colK ws W H t d i).1 = extK ws t i := colK_at W H t _ _
theorem rowK_1 (hs : List Int) (W H t : Int) (d : List Bool) (i : Nat) : (rowK hs W H t d i).1 = extK hs t i := rowK_at W H t _ _
theorem colK_2 (ws : List Int) (W H t : Int) (d : List Bool) (i : Nat) : (colK ws W H t d i).2.length = d.length := colK_len W H t _ _
theorem rowK_2 (hs : List Int) (W H t : Int) (d : List Bool) (i : Nat) : (rowK hs W H t d i).2.length = d.length := rowK_len W H t _ _
theorem extK_top {l : List Int} {t : Int} (h : ∀ n ∈ l, 1 ≤ n ∧ n ≤ 4096) (h1 : 1 ≤ t) (h2 : t ≤ 4096) (i : Nat) : extK l t i ≤ extE l t := by
 have := (extE_go t (l.drop i) (extK l t i) (fun n hn => h n (List.mem_of_mem_drop hn)) h1 h2).1
 unfold extK at this ⊢
 rw [← List.foldl_append, List.take_append_drop] at this
 exact this
theorem PxR.zn {w w' : World} {g k : Nat} {d : List Bool} (h : PxR w g d w') (hk : k ≠ g) (z : Zn w k) : Zn w' k :=
 ⟨Nat.lt_of_lt_of_le z.lt h.gb.size, fun i => (World.frozen?_of_block (a := ⟨k, i, none⟩) (h.gb.block k z.lt (fun e => hk (by injection e)))).trans (z.fr i)⟩
theorem anyI {l : List Int} (h : l.any badI = false) : ∀ n ∈ l, 1 ≤ n ∧ n ≤ 4096 := fun n hn => by
 rw [List.any_eq_false] at h
 have := h n hn
 rw [badI_iff] at this
 omega
set_option maxRecDepth 100000 in
set_option maxHeartbeats 8000000 in
theorem TDraw_g (ws hs : List Int) (A B : Option Addr) (ca cb : Nat) (t : Int) {w : World} (hws : InK.Rd w A ca ws) (hhs : InK.Rd w B cb hs) (h1000 : ws.length ≤ 1000 ∧ hs.length ≤ 1000) :
  Calls Try.prog 6 #[.slice A ws.length ca, .slice B hs.length cb, .int .i64 t] w (RetBE w (drwE ws hs t)) := by
 obtain ⟨n, hn⟩ : ∃ n, ws.length = n := ⟨_, rfl⟩
 obtain ⟨m, hm⟩ : ∃ n, hs.length = n := ⟨_, rfl⟩
 obtain ⟨E, hE⟩ : ∃ q, drwE ws hs t = q := ⟨_, rfl⟩
 have e0 := hid fun (h : n = 0 ∨ m = 0) => hE.symm.trans (drwE_0 (t := t) (by omega))
 have e1 := hid fun (h : ¬ (n = 0 ∨ m = 0)) (h' : (ws.any badI || hs.any badI || badI t) = true) => hE.symm.trans (drwE_1 (by omega) h')
 have e2 := hid fun (h : ¬ (n = 0 ∨ m = 0)) (h' : ¬ (ws.any badI || hs.any badI || badI t) = true) (h2 : 4096 < extE ws t ∨ 4096 < extE hs t ∨ 4194304 < extE ws t * extE hs t) => hE.symm.trans (drwE_2 (by omega) h' h2)
 have e3 := hid fun (h : ¬ (n = 0 ∨ m = 0)) (h' : ¬ (ws.any badI || hs.any badI || badI t) = true) (h2 : ¬ (4096 < extE ws t ∨ 4096 < extE hs t ∨ 4194304 < extE ws t * extE hs t)) => hE.symm.trans (drwE_3 (by omega) h' h2)
 have hM := hid fun (j : Nat) (hj : j < n) (W : World) (hb : Below w.heap.size w W) => (hws.below hb).at_ (j := j) (by omega)
 have hL := hid fun (j : Nat) (hj : j < m) (W : World) (hb : Below w.heap.size w W) => (hhs.below hb).at_ (j := j) (by omega)
 have cc := Nat.le_trans hws.cap hws.max
 have cd := Nat.le_trans hhs.cap hhs.max
 have HC1 := hid fun (W : World) (hb : Below w.heap.size w W) => (show Calls Try.prog 16 #[.slice A n ca, .func (.func 15) #[] #[]] W (RetB W (ws.any badI)) from by rw [← hn]; exact CtDr ws A ca (hws.below hb))
 have HC2 := hid fun (W : World) (hb : Below w.heap.size w W) => (show Calls Try.prog 16 #[.slice B m cb, .func (.func 15) #[] #[]] W (RetB W (hs.any badI)) from by rw [← hm]; exact CtDr hs B cb (hhs.below hb))
 have HC3 := hid fun (W : World) => Dr1_g t W
 have HX1 := hid fun (h : ws.any badI = false) (ht : badI t = false) (W : World) (hb : Below w.heap.size w W) => (show Calls Try.prog 17 #[.slice A n ca, .int .i64 t] W (RetI W (extE ws t)) from by rw [← hn]; exact Text_g ws A ca t (hws.below hb) (anyI h) (by rw [← Bool.not_eq_true, badI_iff] at ht; omega) (by rw [← Bool.not_eq_true, badI_iff] at ht; omega) h1000.1)
 have HX2 := hid fun (h : hs.any badI = false) (ht : badI t = false) (W : World) (hb : Below w.heap.size w W) => (show Calls Try.prog 17 #[.slice B m cb, .int .i64 t] W (RetI W (extE hs t)) from by rw [← hm]; exact Text_g hs B cb t (hhs.below hb) (anyI h) (by rw [← Bool.not_eq_true, badI_iff] at ht; omega) (by rw [← Bool.not_eq_true, badI_iff] at ht; omega) h1000.2)
 have hbt := hid fun (ht : badI t = false) => (show 1 ≤ t ∧ t ≤ 4096 from by rw [← Bool.not_eq_true, badI_iff] at ht; omega)
 have hIw := hid fun (h : ws.any badI = false) => anyI h
 have hIh := hid fun (h : hs.any badI = false) => anyI h
 rw [hE]
 rw [hn] at cc ⊢
 rw [hm] at cd ⊢
 rw [hn, hm] at h1000
 replace hn := hid hn
 replace hm := hid hm
 clear hws hhs hE
 go_enter Try.func6, Try.ntmps6
 go_upto_region 1 with fail
 refine enterR (P := fun u => Code.wp _ _ _ _ u) (c := [.int .i64 0, .int .i64 0, .slice none 0 0]) ?_
 intro u HB rg zg hsz
 by_cases hn0 : n = 0
 ·obtain rfl := e0.out (Or.inl hn0)
  subst hn0
  clear e0 e1 e2 e3 hM hL HC1 HC2 HC3 HX1 HX2 hbt hIw hIh hsz
  have k0 : (u).cell? ⟨w.heap.size, 0, none⟩ = some (.int .i64 0) := rg 0 _ rfl
  have k1 : (u).cell? ⟨w.heap.size, 1, none⟩ = some (.int .i64 0) := rg 1 _ rfl
  have k2 : (u).cell? ⟨w.heap.size, 2, none⟩ = some (.slice none 0 0) := rg 2 _ rfl
  have ltk := cell_lt k0
  have fk := zg.fr
  have HBf := hid (below_set (below_set (below_set HB (Nat.le_refl _) 0 (.int .i64 0)) (Nat.le_refl _) 1 (.int .i64 0)) (Nat.le_refl _) 2 (.slice none 0 0))
  clear rg zg HB
  go_wp2
  refine bodyPost_ret (v := .tuple #[.agg #[.int .i64 0, .int .i64 0, .slice none 0 0], .int .i64 (5)]) ?_ rfl ?_
  ·simp [results, Try.results6, go_sem, k0, k1, k2]
  ·exact ⟨none, 0, rfl, Knd.Rd.nil _, HBf.out⟩
 ·have hn1 : ((n : Int) == 0) = false := beq_eq_false_iff_ne.2 (by omega)
  by_cases hm0 : m = 0
  ·obtain rfl := e0.out (Or.inr hm0)
   subst hm0
   clear e0 e1 e2 e3 hM hL HC1 HC2 HC3 HX1 HX2 hbt hIw hIh hsz
   have k0 : (u).cell? ⟨w.heap.size, 0, none⟩ = some (.int .i64 0) := rg 0 _ rfl
   have k1 : (u).cell? ⟨w.heap.size, 1, none⟩ = some (.int .i64 0) := rg 1 _ rfl
   have k2 : (u).cell? ⟨w.heap.size, 2, none⟩ = some (.slice none 0 0) := rg 2 _ rfl
   have ltk := cell_lt k0
   have fk := zg.fr
   have HBf := hid (below_set (below_set (below_set HB (Nat.le_refl _) 0 (.int .i64 0)) (Nat.le_refl _) 1 (.int .i64 0)) (Nat.le_refl _) 2 (.slice none 0 0))
   clear rg zg HB
   go_wp2
   refine bodyPost_ret (v := .tuple #[.agg #[.int .i64 0, .int .i64 0, .slice none 0 0], .int .i64 (5)]) ?_ rfl ?_
   ·simp [results, Try.results6, go_sem, k0, k1, k2]
   ·exact ⟨none, 0, rfl, Knd.Rd.nil _, HBf.out⟩
  ·have hm1 : ((m : Int) == 0) = false := beq_eq_false_iff_ne.2 (by omega)
   replace e1 := hid (e1.out (by omega))
   replace e2 := hid (e2.out (by omega))
   replace e3 := hid (e3.out (by omega))
   clear e0
   generalize ws.any badI = R1 at *
   generalize hs.any badI = R2 at *
   generalize badI t = R3 at *
   have HC1' := hid (HC1.out u HB)
   clear HC1
   go_wp2_with fail
   refine HC1'.out.mono ?_
   rintro e v ⟨rfl, hv⟩
   clear HC1'
   replace rg := rng_below rg hv
   replace zg := zg.below hv
   replace HB := bel_step HB hv
   cases R1
   ·go_wp2_with fail
    refine (HC2.out v HB).mono ?_
    rintro e v2 ⟨rfl, hv2⟩
    clear HC2
    replace rg := rng_below rg hv2
    replace zg := zg.below hv2
    replace HB := bel_step HB hv2
    cases R2
    ·go_wp2_with fail
     refine (HC3.out v2).mono ?_
     rintro e v3 ⟨rfl, hv3⟩
     clear HC3
     replace rg := rng_below rg hv3
     replace zg := zg.below hv3
     replace HB := bel_step HB hv3
     cases R3
     ·clear e1
      replace e2 := hid (e2.out (by simp))
      replace e3 := hid (e3.out (by simp))
      replace HX1 := hid (HX1.out (by first | rfl | trivial) (by first | rfl | trivial))
      replace HX2 := hid (HX2.out (by first | rfl | trivial) (by first | rfl | trivial))
      obtain ⟨t1, t2⟩ := hbt.out (by first | rfl | trivial)
      replace hIw := hid (hIw.out (by first | rfl | trivial))
      replace hIh := hid (hIh.out (by first | rfl | trivial))
      clear hbt
      go_wp2_with fail
      refine (HX1.out v3 HB).mono ?_
      rintro e v4 ⟨rfl, hv4⟩
      clear HX1
      replace rg := rng_below rg hv4
      replace zg := zg.below hv4
      replace HB := bel_step HB hv4
      go_wp2_with fail
      refine (HX2.out v4 HB).mono ?_
      rintro e v5 ⟨rfl, hv5⟩
      clear HX2
      replace rg := rng_below rg hv5
      replace zg := zg.below hv5
      replace HB := bel_step HB hv5
      clear hv hv2 hv3 hv4 hv5
      have x1 := hid (extE_le hIw.out t1 t2)
      have x2 := hid (extE_le hIh.out t1 t2)
      obtain ⟨P1, hP1⟩ : ∃ z, extE ws t = z := ⟨_, rfl⟩
      obtain ⟨P2, hP2⟩ : ∃ z, extE hs t = z := ⟨_, rfl⟩
      rw [hP1] at x1 e2 e3 ⊢
      rw [hP2] at x2 e2 e3 ⊢
      replace x1 := x1.out
      replace x2 := x2.out
      have x3 : P1 ≤ 9000000 := by have := hn.out; omega
      have x4 : P2 ≤ 9000000 := by have := hm.out; omega
      replace x1 := x1.1
      replace x2 := x2.1
      by_cases g1 : 4096 < P1
      ·obtain rfl := e2.out (Or.inl g1)
       clear e2 e3 hM hL hIw hIh hsz x1 x2 x3 x4
       have k0 : (v5).cell? ⟨w.heap.size, 0, none⟩ = some (.int .i64 0) := rg 0 _ rfl
       have k1 : (v5).cell? ⟨w.heap.size, 1, none⟩ = some (.int .i64 0) := rg 1 _ rfl
       have k2 : (v5).cell? ⟨w.heap.size, 2, none⟩ = some (.slice none 0 0) := rg 2 _ rfl
       have ltk := cell_lt k0
       have fk := zg.fr
       have HBf := hid (below_set (below_set (below_set HB (Nat.le_refl _) 0 (.int .i64 0)) (Nat.le_refl _) 1 (.int .i64 0)) (Nat.le_refl _) 2 (.slice none 0 0))
       clear rg zg HB
       go_wp2
       refine bodyPost_ret (v := .tuple #[.agg #[.int .i64 0, .int .i64 0, .slice none 0 0], .int .i64 (4)]) ?_ rfl ?_
       ·simp [results, Try.results6, go_sem, k0, k1, k2]
       ·exact ⟨none, 0, rfl, Knd.Rd.nil _, HBf.out⟩
      ·by_cases g2 : 4096 < P2
       ·obtain rfl := e2.out (Or.inr (Or.inl g2))
        clear e2 e3 hM hL hIw hIh hsz x1 x2 x3 x4
        have k0 : (v5).cell? ⟨w.heap.size, 0, none⟩ = some (.int .i64 0) := rg 0 _ rfl
        have k1 : (v5).cell? ⟨w.heap.size, 1, none⟩ = some (.int .i64 0) := rg 1 _ rfl
        have k2 : (v5).cell? ⟨w.heap.size, 2, none⟩ = some (.slice none 0 0) := rg 2 _ rfl
        have ltk := cell_lt k0
        have fk := zg.fr
        have HBf := hid (below_set (below_set (below_set HB (Nat.le_refl _) 0 (.int .i64 0)) (Nat.le_refl _) 1 (.int .i64 0)) (Nat.le_refl _) 2 (.slice none 0 0))
        clear rg zg HB
        go_wp2
        refine bodyPost_ret (v := .tuple #[.agg #[.int .i64 0, .int .i64 0, .slice none 0 0], .int .i64 (4)]) ?_ rfl ?_
        ·simp [results, Try.results6, go_sem, k0, k1, k2]
        ·exact ⟨none, 0, rfl, Knd.Rd.nil _, HBf.out⟩
       ·have hp : 0 ≤ P1 * P2 ∧ P1 * P2 ≤ 4096 * 4096 := ⟨Int.mul_nonneg (by omega) (by omega), Int.mul_le_mul (by omega) (by omega) (by omega) (by omega)⟩
        have hwp : IntKind.i64.wrap (P1 * P2) = P1 * P2 := by rw [IntKind.wrap_i64]; omega
        by_cases g3 : 4194304 < P1 * P2
        ·obtain rfl := e2.out (Or.inr (Or.inr g3))
         clear e2 e3 hM hL hIw hIh hsz x1 x2 x3 x4 hp
         have k0 : (v5).cell? ⟨w.heap.size, 0, none⟩ = some (.int .i64 0) := rg 0 _ rfl
         have k1 : (v5).cell? ⟨w.heap.size, 1, none⟩ = some (.int .i64 0) := rg 1 _ rfl
         have k2 : (v5).cell? ⟨w.heap.size, 2, none⟩ = some (.slice none 0 0) := rg 2 _ rfl
         have ltk := cell_lt k0
         have fk := zg.fr
         have HBf := hid (below_set (below_set (below_set HB (Nat.le_refl _) 0 (.int .i64 0)) (Nat.le_refl _) 1 (.int .i64 0)) (Nat.le_refl _) 2 (.slice none 0 0))
         clear rg zg HB
         go_wp2
         refine bodyPost_ret (v := .tuple #[.agg #[.int .i64 0, .int .i64 0, .slice none 0 0], .int .i64 (4)]) ?_ rfl ?_
         ·simp [results, Try.results6, go_sem, k0, k1, k2]
         ·exact ⟨none, 0, rfl, Knd.Rd.nil _, HBf.out⟩
        ·obtain rfl := e3.out (by omega)
         clear e2 e3
         have hS : sizeB P1 P2 = true := sizeB_iff.2 ⟨by omega, by omega, by omega, by omega, by omega⟩
         obtain ⟨N, hN⟩ : ∃ N, (P1 * P2).toNat = N := ⟨_, rfl⟩
         have hN2 : P1 * P2 = (N : Int) := by omega
         have hmk := fun (W : World) => makeB W N (by omega) (N : Int) rfl
         go_upto_region 10 with fail
         clear hmk
         rw [show Array.replicate N (bv false) = ((List.replicate N false).map bv).toArray from by simp]
         refine enterR2 (P := fun u => Code.wp _ _ _ _ u) (c0 := (List.replicate N false).map bv) (c1 := [.int .i64 P1, .int .i64 P2, .slice (some ⟨v5.heap.size, 0, none⟩) N N]) ?_
         intro y hby q0 q1 z0 z1 hsy
         have hgw := HB.size
         have hgl := zg.lt
         obtain ⟨g, hg⟩ : ∃ g, v5.heap.size = g := ⟨_, rfl⟩
         rw [hg] at q0 q1 z0 z1 hsy hgl hgw ⊢
         replace rg := rng_below rg hby
         replace zg := zg.below hby
         replace HB := bel_step HB hby
         have hP0 : PxR y g (List.replicate N false) y := PxR.refl ⟨q0, z0⟩
         have hKp := hid fun (W' : World) (D' : List Bool) (h : PxR y g D' W') => (show ((W'.cell? ⟨g + 1, 0, none⟩ = some (.int .i64 P1) ∧ W'.cell? ⟨g + 1, 1, none⟩ = some (.int .i64 P2)) ∧ W'.cell? ⟨g + 1, 2, none⟩ = some (.slice (some ⟨g, 0, none⟩) N N)) ∧ Below w.heap.size w W' from
          ⟨⟨⟨h.keep (by omega) (q1 0 _ rfl), h.keep (by omega) (q1 1 _ rfl)⟩, h.keep (by omega) (q1 2 _ rfl)⟩, HB.trans (h.below hgw HB.size)⟩)
         have hRs := hid fun (W' : World) (D' : List Bool) (h : PxR y g D' W') => (show ((W'.cell? ⟨w.heap.size, 0, none⟩ = some (.int .i64 0) ∧ W'.cell? ⟨w.heap.size, 1, none⟩ = some (.int .i64 0)) ∧ W'.cell? ⟨w.heap.size, 2, none⟩ = some (.slice none 0 0)) ∧ Zn W' w.heap.size from
          ⟨⟨⟨h.keep (by omega) (rg 0 _ rfl), h.keep (by omega) (rg 1 _ rfl)⟩, h.keep (by omega) (rg 2 _ rfl)⟩, h.zn (by omega) zg⟩)
         have hPt := hid fun (W' : World) (D' : List Bool) (b : Bx) (hx : 0 ≤ b.x ∧ b.x ≤ 1000000) (hy : 0 ≤ b.y ∧ b.y ≤ 1000000) (hbw : -1000000 ≤ b.w ∧ b.w ≤ 1000000) (hbh : -1000000 ≤ b.h ∧ b.h ≤ 1000000) (hD : D'.length = N) (h : PxR y g D' W') =>
          paint_g P1 P2 b D' g N N true (w := W') hS (by rw [hD, hN2]) hD hx hy hbw hbh h.a
         have hl0 : (List.replicate N false).length = N := List.length_replicate
         obtain ⟨D0, hD0⟩ : ∃ D, List.replicate N false = D := ⟨_, rfl⟩
         rw [hD0] at hP0 hl0
         obtain ⟨D1, hD1⟩ : ∃ D, pntB P1 P2 D0 ⟨0, 0, t, P2⟩ true = D := ⟨_, rfl⟩
         obtain ⟨D2, hD2⟩ : ∃ D, pntB P1 P2 D1 ⟨0, 0, P1, t⟩ true = D := ⟨_, rfl⟩
         have hl1 : D1.length = N := by rw [← hD1, pntB_len, hl0]
         have hl2 : D2.length = N := by rw [← hD2, pntB_len, hl1]
         have hp1 := hid (by have := hPt.out y D0 ⟨0, 0, t, P2⟩ (by dsimp only; omega) (by dsimp only; omega) (by dsimp only; omega) (by dsimp only; omega) hl0 hP0; rw [hD1] at this; exact this)
         have hp2 := hid fun (W : World) (h : PxR y g D1 W) => (by have := hPt.out W D1 ⟨0, 0, P1, t⟩ (by dsimp only; omega) (by dsimp only; omega) (by dsimp only; omega) (by dsimp only; omega) hl1 h; rw [hD2] at this; exact this)
         have hDr := hid (show drwL ws hs t P1 P2 = (rowK hs P1 P2 t (colK ws P1 P2 t D2 ws.length).2 hs.length).2 from by
          unfold rowK colK drwL
          rw [List.take_length, List.take_length, hN, hD0, hD1, hD2])
         have hc1 := hid fun (i : Nat) (h : i < ws.length) => colK_succ (W := P1) (H := P2) (t := t) (d := D2) h
         have hcx := hid fun (i : Nat) => colK_1 ws P1 P2 t D2 i
         have hcl := hid fun (i : Nat) => (colK_2 ws P1 P2 t D2 i).trans hl2
         have hxk := hid fun (i : Nat) (h : i < ws.length) => (show (0 ≤ extK ws t i ∧ 0 ≤ ws[i]) ∧ extK ws t i + (ws[i] + t) ≤ P1 from by
          have a1 := extK_top hIw.out t1 t2 (i + 1)
          rw [extK_succ h, hP1] at a1
          have a2 := (extK_le hIw.out t1 t2 i).1
          have a3 := hIw.out _ (List.getElem_mem h)
          omega)
         have hyk := hid fun (i : Nat) (h : i < hs.length) => (show (0 ≤ extK hs t i ∧ 0 ≤ hs[i]) ∧ extK hs t i + (hs[i] + t) ≤ P2 from by
          have a1 := extK_top hIh.out t1 t2 (i + 1)
          rw [extK_succ h, hP2] at a1
          have a2 := (extK_le hIh.out t1 t2 i).1
          have a3 := hIh.out _ (List.getElem_mem h)
          omega)
         have hc0 : (colK ws P1 P2 t D2 0).1 = t := rfl
         have hP20 := fun (W : World) (h : PxR y g D2 W) => (show PxR y g (colK ws P1 P2 t D2 0).2 W from h)
         clear hsy q0 q1 z0 z1 hby hD0 hD1 hD2 rg zg
         obtain ⟨⟨⟨c0, c1⟩, c2⟩, _⟩ := hKp.out y _ hP0
         go_wp2_with fail
         refine hp1.out.mono ?_
         rintro e v6 ⟨rfl, hv6⟩
         clear hp1 c0 c1 c2 HB
         obtain ⟨⟨⟨c0, c1⟩, c2⟩, _⟩ := hKp.out v6 _ hv6
         go_wp2_with fail
         refine (hp2.out v6 hv6).mono ?_
         rintro e v7 ⟨rfl, hv7⟩
         replace hv7 := PxR.trans hv6 hv7
         clear hp2 c0 c1 c2 hv6 hP0
         replace hv7 := hP20 v7 hv7
         clear hP20 hl0 hl1 hl2
         obtain ⟨C1, hC1⟩ : ∃ C, colK ws P1 P2 t D2 = C := ⟨_, rfl⟩
         rw [hC1] at hv7 hDr hc0
         replace hc1 : Hid (∀ (i : Nat) (h : i < ws.length), C1 (i + 1) = colS P1 P2 t (C1 i) ws[i]) := by rw [← hC1]; exact hc1
         replace hcx : Hid (∀ i, (C1 i).1 = extK ws t i) := by rw [← hC1]; exact hcx
         replace hcl : Hid (∀ i, (C1 i).2.length = N) := by rw [← hC1]; exact hcl
         replace hC1 := hid hC1
         have hc0 := hid hc0
         obtain ⟨⟨⟨c0, c1⟩, c2⟩, _⟩ := hKp.out v7 _ hv7
         go_wp2
         clear c0 c1 c2
         go_loopw [79, 12] (fun s79 s12 wr => ∃ i : Nat, s79 = .int .i64 i ∧ s12 = .int .i64 (C1 i).1 ∧ i ≤ n ∧ PxR y g (C1 i).2 wr) (fun s79 _ _ => n - (intOf s79).toNat)
         case atStart => exact ⟨0, rfl, by rw [hc0.out], by omega, hv7⟩
         case round =>
          clear hv7
          obtain ⟨i, rfl, rfl, hi, hR⟩ := hrel
          obtain ⟨⟨⟨c0, c1⟩, c2⟩, HBr⟩ := hKp.out wr _ hR
          by_cases hin : i < n
          ·have hii : (i : Int) < (n : Int) := by omega
           have hil : i < ws.length := by have := hn.out; omega
           obtain ⟨b, o, hA3, hc⟩ := hM.out i hin wr HBr
           have e0 : wr.cell? ⟨b, o + i * 1, none⟩ = some (.int .i64 ws[i]) := hc 0 _ rfl
           rw [Nat.mul_one] at e0
           subst hA3
           have hq := hid (hc1.out i hil)
           have hx := hcx.out i
           have hl := hcl.out i
           obtain ⟨⟨k1, k2⟩, k3⟩ := hxk.out i hil
           rw [← hx] at k1 k3
           clear hc hx
           generalize ws[i] = q at *
           obtain ⟨at_, Dn, hCi⟩ : ∃ a b, C1 i = (a, b) := ⟨_, _, rfl⟩
           rw [hCi] at hq hl k1 k3 hR ⊢
           dsimp only at hl k1 k3 hR ⊢
           have hp := hid (hPt.out wr Dn ⟨at_ + q, 0, t, P2⟩ (by dsimp only; omega) (by dsimp only; omega) (by dsimp only; omega) (by dsimp only; omega) hl hR)
           have hs2 := hid (show C1 (i + 1) = (at_ + (q + t), pntB P1 P2 Dn ⟨at_ + q, 0, t, P2⟩ true) from hq.out)
           have w0 : IntKind.i64.wrap (at_ + q) = at_ + q := by rw [IntKind.wrap_i64]; omega
           have w1 : IntKind.i64.wrap (q + t) = q + t := by rw [IntKind.wrap_i64]; omega
           have w2 : IntKind.i64.wrap (at_ + (q + t)) = at_ + (q + t) := by rw [IntKind.wrap_i64]; omega
           replace hCi := hid hCi
           clear k1 k2 k3 hq hl
           go_wp2_with fail
           refine hp.out.mono ?_
           rintro e v8 ⟨rfl, hv8⟩
           replace hv8 := hid (PxR.trans hR hv8)
           clear hp c0 c1 c2 e0 hR
           go_wp2
           go_roundw
           case rel => exact ⟨i + 1, by go_num, by rw [hs2.out], by omega, by rw [hs2.out]; exact hv8.out⟩
           case measure => simp [intOf]; omega
          ·obtain rfl : i = n := by omega
           have hii : ¬ (i : Int) < (i : Int) := by omega
           clear hM c0 c1 c2
           have hl3 := hcl.out i
           obtain ⟨D3, hD3⟩ : ∃ D, (C1 i).2 = D := ⟨_, rfl⟩
           rw [hD3] at hR hl3
           have hDr2 := hid (show drwL ws hs t P1 P2 = (rowK hs P1 P2 t D3 hs.length).2 from by have := hDr.out; rw [hn.out, hD3] at this; exact this)
           have hc1 := hid fun (i : Nat) (h : i < hs.length) => rowK_succ (W := P1) (H := P2) (t := t) (d := D3) h
           have hcx := hid fun (i : Nat) => rowK_1 hs P1 P2 t D3 i
           have hcl := hid fun (i : Nat) => (rowK_2 hs P1 P2 t D3 i).trans hl3
           have hc0 : (rowK hs P1 P2 t D3 0).1 = t := rfl
           replace hR : PxR y g (rowK hs P1 P2 t D3 0).2 wr := hR
           clear hDr hl3 hD3
           obtain ⟨R1, hR1⟩ : ∃ C, rowK hs P1 P2 t D3 = C := ⟨_, rfl⟩
           rw [hR1] at hR hDr2 hc0
           replace hc1 : Hid (∀ (i : Nat) (h : i < hs.length), R1 (i + 1) = rowS P1 P2 t (R1 i) hs[i]) := by rw [← hR1]; exact hc1
           replace hcx : Hid (∀ i, (R1 i).1 = extK hs t i) := by rw [← hR1]; exact hcx
           replace hcl : Hid (∀ i, (R1 i).2.length = N) := by rw [← hR1]; exact hcl
           clear hR1
           have hc0 := hid hc0
           clear hxk hC1
           have hxk := hyk
           obtain ⟨w0, hw0⟩ : ∃ w0, w0 = wr := ⟨_, rfl⟩
           subst hw0
           go_wp2
           go_loopw [100, 12] (fun s79 s12 wr => ∃ i : Nat, s79 = .int .i64 i ∧ s12 = .int .i64 (R1 i).1 ∧ i ≤ m ∧ PxR y g (R1 i).2 wr) (fun s79 _ _ => m - (intOf s79).toNat)
           case atStart => exact ⟨0, rfl, by rw [hc0.out], by omega, hR⟩
           case round =>
            clear hR
            obtain ⟨i, rfl, rfl, hi, hR⟩ := hrel
            obtain ⟨⟨⟨c0, c1⟩, c2⟩, HBr⟩ := hKp.out wr _ hR
            by_cases hin : i < m
            ·have hii : (i : Int) < (m : Int) := by omega
             have hil : i < hs.length := by have := hm.out; omega
             obtain ⟨b, o, hA3, hc⟩ := hL.out i hin wr HBr
             have e0 : wr.cell? ⟨b, o + i * 1, none⟩ = some (.int .i64 hs[i]) := hc 0 _ rfl
             rw [Nat.mul_one] at e0
             subst hA3
             have hq := hid (hc1.out i hil)
             have hx := hcx.out i
             have hl := hcl.out i
             obtain ⟨⟨k1, k2⟩, k3⟩ := hxk.out i hil
             rw [← hx] at k1 k3
             clear hc hx
             generalize hs[i] = q at *
             obtain ⟨at_, Dn, hCi⟩ : ∃ a b, R1 i = (a, b) := ⟨_, _, rfl⟩
             rw [hCi] at hq hl k1 k3 hR ⊢
             dsimp only at hl k1 k3 hR ⊢
             have hp := hid (hPt.out wr Dn ⟨0, at_ + q, P1, t⟩ (by dsimp only; omega) (by dsimp only; omega) (by dsimp only; omega) (by dsimp only; omega) hl hR)
             have hs2 := hid (show R1 (i + 1) = (at_ + (q + t), pntB P1 P2 Dn ⟨0, at_ + q, P1, t⟩ true) from hq.out)
             have w0 : IntKind.i64.wrap (at_ + q) = at_ + q := by rw [IntKind.wrap_i64]; omega
             have w1 : IntKind.i64.wrap (q + t) = q + t := by rw [IntKind.wrap_i64]; omega
             have w2 : IntKind.i64.wrap (at_ + (q + t)) = at_ + (q + t) := by rw [IntKind.wrap_i64]; omega
             replace hCi := hid hCi
             clear k1 k2 k3 hq hl
             go_wp2_with fail
             refine hp.out.mono ?_
             rintro e v8 ⟨rfl, hv8⟩
             replace hv8 := hid (PxR.trans hR hv8)
             clear hp c0 c1 c2 e0 hR
             go_wp2
             go_roundw
             case rel => exact ⟨i + 1, by go_num, by rw [hs2.out], by omega, by rw [hs2.out]; exact hv8.out⟩
             case measure => simp [intOf]; omega
            ·obtain rfl : i = m := by omega
             have hii : ¬ (i : Int) < (i : Int) := by omega
             clear hL c0 c1 c2
             obtain ⟨⟨⟨c0, c1⟩, c2⟩, HB⟩ := hKp.out wr _ hR
             obtain ⟨⟨⟨k0, k1⟩, k2⟩, zg⟩ := hRs.out wr _ hR
             have ltk := cell_lt k0
             have fk := zg.fr
             have HBf := hid (below_set (below_set (below_set HB (Nat.le_refl _) 0 (.int .i64 P1)) (Nat.le_refl _) 1 (.int .i64 P2)) (Nat.le_refl _) 2 (.slice (some ⟨g, 0, none⟩) N N))
             have hne : w.heap.size ≠ g := by omega
             have hRd := hid (show PxA (((wr.setCell ⟨w.heap.size, 0, none⟩ (.int .i64 P1)).setCell ⟨w.heap.size, 1, none⟩ (.int .i64 P2)).setCell ⟨w.heap.size, 2, none⟩ (.slice (some ⟨g, 0, none⟩) N N)) g (drwL ws hs t P1 P2) from by
              rw [hDr2.out, hm.out]
              exact ⟨fun j v hv => keep_set hne (keep_set hne (keep_set hne (hR.a.r j v hv))), hR.a.z.set_.set_.set_⟩)
             have hlf := hid (show (drwL ws hs t P1 P2).length = N from by rw [hDr2.out]; exact hcl.out _)
             have hNm := hid (show N ≤ 9223372036854775807 from by omega)
             clear hR zg HB
             go_wp2
             refine bodyPost_ret (v := .tuple #[.agg #[.int .i64 P1, .int .i64 P2, .slice (some ⟨g, 0, none⟩) N N], .int .i64 0]) ?_ rfl ?_
             ·simp [results, Try.results6, go_sem, k0, k1, k2]
             ·exact ⟨some ⟨g, 0, none⟩, N, by rw [hlf.out], hRd.out.rd (by rw [hlf.out]; exact Nat.le_refl _) hNm.out, HBf.out⟩
     ·obtain rfl := e1.out (by simp)
      clear e1 e2 e3 hM hL HX1 HX2 hbt hIw hIh hsz hv3 hv2 hv
      have k0 : (v3).cell? ⟨w.heap.size, 0, none⟩ = some (.int .i64 0) := rg 0 _ rfl
      have k1 : (v3).cell? ⟨w.heap.size, 1, none⟩ = some (.int .i64 0) := rg 1 _ rfl
      have k2 : (v3).cell? ⟨w.heap.size, 2, none⟩ = some (.slice none 0 0) := rg 2 _ rfl
      have ltk := cell_lt k0
      have fk := zg.fr
      have HBf := hid (below_set (below_set (below_set HB (Nat.le_refl _) 0 (.int .i64 0)) (Nat.le_refl _) 1 (.int .i64 0)) (Nat.le_refl _) 2 (.slice none 0 0))
      clear rg zg HB
      go_wp2
      refine bodyPost_ret (v := .tuple #[.agg #[.int .i64 0, .int .i64 0, .slice none 0 0], .int .i64 (3)]) ?_ rfl ?_
      ·simp [results, Try.results6, go_sem, k0, k1, k2]
      ·exact ⟨none, 0, rfl, Knd.Rd.nil _, HBf.out⟩
    ·obtain rfl := e1.out (by simp)
     clear e1 e2 e3 hM hL HC3 HX1 HX2 hbt hIw hIh hsz hv2 hv
     have k0 : (v2).cell? ⟨w.heap.size, 0, none⟩ = some (.int .i64 0) := rg 0 _ rfl
     have k1 : (v2).cell? ⟨w.heap.size, 1, none⟩ = some (.int .i64 0) := rg 1 _ rfl
     have k2 : (v2).cell? ⟨w.heap.size, 2, none⟩ = some (.slice none 0 0) := rg 2 _ rfl
     have ltk := cell_lt k0
     have fk := zg.fr
     have HBf := hid (below_set (below_set (below_set HB (Nat.le_refl _) 0 (.int .i64 0)) (Nat.le_refl _) 1 (.int .i64 0)) (Nat.le_refl _) 2 (.slice none 0 0))
     clear rg zg HB
     go_wp2
     refine bodyPost_ret (v := .tuple #[.agg #[.int .i64 0, .int .i64 0, .slice none 0 0], .int .i64 (3)]) ?_ rfl ?_
     ·simp [results, Try.results6, go_sem, k0, k1, k2]
     ·exact ⟨none, 0, rfl, Knd.Rd.nil _, HBf.out⟩
   ·obtain rfl := e1.out (by simp)
    clear e1 e2 e3 hM hL HC2 HC3 HX1 HX2 hbt hIw hIh hsz hv
    have k0 : (v).cell? ⟨w.heap.size, 0, none⟩ = some (.int .i64 0) := rg 0 _ rfl
    have k1 : (v).cell? ⟨w.heap.size, 1, none⟩ = some (.int .i64 0) := rg 1 _ rfl
    have k2 : (v).cell? ⟨w.heap.size, 2, none⟩ = some (.slice none 0 0) := rg 2 _ rfl
    have ltk := cell_lt k0
    have fk := zg.fr
    have HBf := hid (below_set (below_set (below_set HB (Nat.le_refl _) 0 (.int .i64 0)) (Nat.le_refl _) 1 (.int .i64 0)) (Nat.le_refl _) 2 (.slice none 0 0))
    clear rg zg HB
    go_wp2
    refine bodyPost_ret (v := .tuple #[.agg #[.int .i64 0, .int .i64 0, .slice none 0 0], .int .i64 (3)]) ?_ rfl ?_
    ·simp [results, Try.results6, go_sem, k0, k1, k2]
    ·exact ⟨none, 0, rfl, Knd.Rd.nil _, HBf.out⟩
end Go.Proofs.Ytjfgklhifhaaoaa
