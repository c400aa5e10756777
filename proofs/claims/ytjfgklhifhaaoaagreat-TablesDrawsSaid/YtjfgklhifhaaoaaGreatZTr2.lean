/- Tables: Draw of the reference. Conditions: at most 1000 widths and heights. -/
import Derived.Test.YtjfgklhifhaaoaaGreatZTr1
import Derived.Test.YtjfgklhifhaaoaaGreatZTe1
import Derived.Test.YtjfgklhifhaaoaaGreatZLsr
set_option linter.unusedVariables false
set_option linter.unusedSimpArgs false
namespace Go.Proofs.YtjfgklhifhaaoaaGreat
open Go.RowKit
theorem drwR_0 {ws hs : List Int} {t : Int} (h : ws.length = 0 ∨ hs.length = 0) : drwR ws hs t = (noB, 5) := by unfold drwR; rw [if_pos h]
theorem drwR_1 {ws hs : List Int} {t : Int} (h0 : ¬ (ws.length = 0 ∨ hs.length = 0)) (h : (badI t || decide (extR ws t < 0) || decide (extR hs t < 0)) = true) : drwR ws hs t = (noB, 3) := by unfold drwR; rw [if_neg h0, if_pos h]
theorem drwR_2 {ws hs : List Int} {t : Int} (h0 : ¬ (ws.length = 0 ∨ hs.length = 0)) (h1 : ¬ (badI t || decide (extR ws t < 0) || decide (extR hs t < 0)) = true) (h : 4096 < extR ws t ∨ 4096 < extR hs t ∨ 4194304 < extR ws t * extR hs t) : drwR ws hs t = (noB, 4) := by unfold drwR; rw [if_neg h0, if_neg h1, if_pos h]
theorem drwR_3 {ws hs : List Int} {t : Int} (h0 : ¬ (ws.length = 0 ∨ hs.length = 0)) (h1 : ¬ (badI t || decide (extR ws t < 0) || decide (extR hs t < 0)) = true) (h : ¬ (4096 < extR ws t ∨ 4096 < extR hs t ∨ 4194304 < extR ws t * extR hs t)) : drwR ws hs t = (⟨extR ws t, extR hs t, drwQ ws hs t (extR ws t) (extR hs t)⟩, 0) := by unfold drwR; rw [if_neg h0, if_neg h1, if_neg h]
theorem exr_ok {l : List Int} {t : Int} (h1 : 1 ≤ t) (h2 : t ≤ 4096) (h : ¬ extR l t < 0) : (∀ n ∈ l, 1 ≤ n ∧ n ≤ 4096) ∧ (extR l t ≤ 4096 → extE l t = extR l t) ∧ 1 ≤ extR l t ∧ extR l t ≤ 12288 := by
 obtain ⟨a, b⟩ := extR_neg (l := l) h1 h2
 have hb : l.any badI = false := by
  cases e : l.any badI
  ·rfl
  ·exact absurd (a.2 e) h
 have hn := anyI hb
 have := (extE_le hn h1 h2).1
 rw [b hb]
 exact ⟨hn, fun h => by omega, by omega, by omega⟩
theorem rng_third {w : World} {g : Nat} {a b c d : Value} (h : w.rangeAt g 0 [a, b, c]) : (w.setCell ⟨g, 2, none⟩ d).rangeAt g 0 [a, b, d] := fun j v hv => by
 have h0 : w.cell? ⟨g, 0, none⟩ = some a := h 0 _ rfl
 have h1 : w.cell? ⟨g, 1, none⟩ = some b := h 1 _ rfl
 have h2 : w.cell? ⟨g, 2, none⟩ = some c := h 2 _ rfl
 match j, hv with
 | 0, hv => obtain rfl := Option.some.inj hv; exact (cell_set_ne (by omega)).trans h0
 | 1, hv => obtain rfl := Option.some.inj hv; exact (cell_set_ne (by omega)).trans h1
 | 2, hv => obtain rfl := Option.some.inj hv; exact at_set h2
/-- a bitmap whose pixels are being appended: its box, its row -/
structure Mk (w0 : World) (g : Nat) (a b v : Value) (d : List Bool) (w : World) : Prop where
 r : w.rangeAt g 0 [a, b, v]
 z : Zn w g
 o : BoK.Own w (g + 1) v d
 lt : w0.heap.size ≤ g
 b : Below w0.heap.size w0 w
theorem Mk.below {w0 w w' : World} {g : Nat} {a b v : Value} {d : List Bool} (h : Mk w0 g a b v d w) (hb : Below w.heap.size w w') : Mk w0 g a b v d w' :=
 ⟨rng_below h.r hb, h.z.below hb, h.o.below hb, h.lt, bel_step h.b hb⟩
theorem Mk.app {w0 w w' : World} {g : Nat} {a b v v' : Value} {d d' : List Bool} (h : Mk w0 g a b v d w) (ho : BoK.Own w' (g + 1) v' d') (hg : w.grownBy w' v.ownBlock) : w'.rangeAt g 0 [a, b, v] ∧ Mk w0 g a b v' d' (w'.setCell ⟨g, 2, none⟩ v') := by
 have hne : ∀ k, v.ownBlock = some k → g + 1 ≤ k := fun k e => (h.o.lt e).1
 have hr : w'.rangeAt g 0 [a, b, v] := fun j x hx => hg.cell (h.r j x hx) (fun e => by have := hne g e.symm; omega)
 have hb : Below w0.heap.size w0 w' := Below.grown h.b hg (Nat.le_trans h.lt (Nat.le_of_lt h.z.lt)) (fun k e => by have := hne k e; have := h.lt; omega)
 have hz : Zn w' g := ⟨Nat.lt_of_lt_of_le h.z.lt hg.size, fun i => (World.frozen?_of_block (a := ⟨g, i, none⟩) (hg.block g h.z.lt (fun e => by have := hne g e.symm; omega))).trans (h.z.fr i)⟩
 refine ⟨hr, rng_third hr, hz.set_, ?_, h.lt, below_set hb h.lt 2 v'⟩
 exact ho.kept fun k hk => Below.heap_setCell w' ⟨g, 2, none⟩ v' k (by have := (ho.lt hk).1; simp; omega)
theorem Knd.Own.set1 {α : Type} {X : Knd α} {w : World} {base g i : Nat} {v u : Value} {l : List α} (h : X.Own w base v l) (hg : g < base) : X.Own (w.setCell ⟨g, i, none⟩ u) base v l :=
 h.kept fun k hk => Below.heap_setCell w ⟨g, i, none⟩ u k (by have := (h.lt hk).1; simp; omega)
set_option maxRecDepth 100000 in
set_option maxHeartbeats 8000000 in
theorem RDraw_g (ws hs : List Int) (A B : Option Addr) (ca cb : Nat) (t : Int) {w : World} (hws : InK.Rd w A ca ws) (hhs : InK.Rd w B cb hs) (h1000 : ws.length ≤ 1000 ∧ hs.length ≤ 1000) :
  Calls Tryz.prog 18 #[.slice A ws.length ca, .slice B hs.length cb, .int .i64 t] w (RetBE w (drwR ws hs t)) := by
 obtain ⟨n, hn⟩ : ∃ n, ws.length = n := ⟨_, rfl⟩
 obtain ⟨m, hm⟩ : ∃ n, hs.length = n := ⟨_, rfl⟩
 obtain ⟨E, hE⟩ : ∃ q, drwR ws hs t = q := ⟨_, rfl⟩
 have e0 := hid fun (h : n = 0 ∨ m = 0) => hE.symm.trans (drwR_0 (t := t) (by omega))
 have e1 := hid fun (h : ¬ (n = 0 ∨ m = 0)) (h' : (badI t || decide (extR ws t < 0) || decide (extR hs t < 0)) = true) => hE.symm.trans (drwR_1 (by omega) h')
 have e2 := hid fun (h : ¬ (n = 0 ∨ m = 0)) (h' : ¬ (badI t || decide (extR ws t < 0) || decide (extR hs t < 0)) = true) (h2 : 4096 < extR ws t ∨ 4096 < extR hs t ∨ 4194304 < extR ws t * extR hs t) => hE.symm.trans (drwR_2 (by omega) h' h2)
 have e3 := hid fun (h : ¬ (n = 0 ∨ m = 0)) (h' : ¬ (badI t || decide (extR ws t < 0) || decide (extR hs t < 0)) = true) (h2 : ¬ (4096 < extR ws t ∨ 4096 < extR hs t ∨ 4194304 < extR ws t * extR hs t)) => hE.symm.trans (drwR_3 (by omega) h' h2)
 have HX1 := hid fun (h1 : 1 ≤ t) (h2 : t ≤ 4096) (W : World) (hb : Below w.heap.size w W) => (show Calls Tryz.prog 46 #[.slice A n ca, .int .i64 t] W (RetI W (extR ws t)) from by rw [← hn]; exact RExt_g ws A ca t (hws.below hb) h1 h2)
 have HX2 := hid fun (h1 : 1 ≤ t) (h2 : t ≤ 4096) (W : World) (hb : Below w.heap.size w W) => (show Calls Tryz.prog 46 #[.slice B m cb, .int .i64 t] W (RetI W (extR hs t)) from by rw [← hm]; exact RExt_g hs B cb t (hhs.below hb) h1 h2)
 have HL1 := hid fun (h1 : 1 ≤ t) (h2 : t ≤ 4096) (h3 : ¬ extR ws t < 0) (h4 : extR ws t ≤ 4096) (W : World) (hb : Below w.heap.size w W) => (show Calls Tryz.prog 47 #[.slice A n ca, .int .i64 t] W (RetPx W (lndL (toN ws) t.toNat (extR ws t).toNat)) from by
  obtain ⟨k1, k2, _⟩ := exr_ok h1 h2 h3
  rw [← hn, ← k2 h4]; exact RLin_g ws A ca t (hws.below hb) h1 h2 k1 (by rw [k2 h4]; exact h4) h1000.1)
 have HL2 := hid fun (h1 : 1 ≤ t) (h2 : t ≤ 4096) (h3 : ¬ extR hs t < 0) (h4 : extR hs t ≤ 4096) (W : World) (hb : Below w.heap.size w W) => (show Calls Tryz.prog 47 #[.slice B m cb, .int .i64 t] W (RetPx W (lndL (toN hs) t.toNat (extR hs t).toNat)) from by
  obtain ⟨k1, k2, _⟩ := exr_ok h1 h2 h3
  rw [← hm, ← k2 h4]; exact RLin_g hs B cb t (hhs.below hb) h1 h2 k1 (by rw [k2 h4]; exact h4) h1000.2)
 have hk1 := hid fun (h1 : 1 ≤ t) (h2 : t ≤ 4096) (h3 : ¬ extR ws t < 0) => (exr_ok (l := ws) h1 h2 h3).2.2
 have hk2 := hid fun (h1 : 1 ≤ t) (h2 : t ≤ 4096) (h3 : ¬ extR hs t < 0) => (exr_ok (l := hs) h1 h2 h3).2.2
 have cc := Nat.le_trans hws.cap hws.max
 have cd := Nat.le_trans hhs.cap hhs.max
 have hQ := hid fun P1 P2 => (show drwQ ws hs t P1 P2 = (List.range (P1 * P2).toNat).map fun i => (lndL (toN ws) t.toNat P1.toNat).getD (i % P1.toNat) false || (lndL (toN hs) t.toNat P2.toNat).getD (i / P1.toNat) false from rfl)
 have hD1 := hid fun (P : Nat) => lndL_len (toN ws) t.toNat P
 have hD2 := hid fun (P : Nat) => lndL_len (toN hs) t.toNat P
 have hbt := hid (badI_iff (x := t))
 rw [hE]
 rw [hn] at cc ⊢
 rw [hm] at cd ⊢
 clear hws hhs hE hn hm h1000
 generalize lndL (toN ws) t.toNat = X at *
 generalize lndL (toN hs) t.toNat = Y at *
 generalize drwQ ws hs t = QQ at *
 generalize extR ws t = P1 at *
 generalize extR hs t = P2 at *
 generalize badI t = tb at *
 go_enter Tryz.func18, Tryz.ntmps18
 go_upto_region 1 with fail
 refine enterR (P := fun u => Code.wp _ _ _ _ u) (c := [.int .i64 0, .int .i64 0, .slice none 0 0]) ?_
 intro u HB rg zg hsz
 clear hsz
 by_cases hn0 : n = 0
 ·obtain rfl := e0.out (Or.inl hn0)
  subst hn0
  clear e0 e1 e2 e3 HL1 HL2 hk1 hk2 hQ hD1 hD2 hbt
  clear HX1 HX2
  have k0 : (u).cell? ⟨w.heap.size, 0, none⟩ = some (.int .i64 0) := rg 0 _ rfl
  have k1 : (u).cell? ⟨w.heap.size, 1, none⟩ = some (.int .i64 0) := rg 1 _ rfl
  have k2 : (u).cell? ⟨w.heap.size, 2, none⟩ = some (.slice none 0 0) := rg 2 _ rfl
  have ltk := cell_lt k0
  have fk := zg.fr
  have HBf := hid (below_set (below_set (below_set HB (Nat.le_refl _) 0 (.int .i64 0)) (Nat.le_refl _) 1 (.int .i64 0)) (Nat.le_refl _) 2 (.slice none 0 0))
  clear rg zg HB
  go_wp2
  refine bodyPost_ret (v := .tuple #[.agg #[.int .i64 0, .int .i64 0, .slice none 0 0], .int .i64 (5)]) ?_ rfl ?_
  ·simp [results, Tryz.results18, go_sem, k0, k1, k2]
  ·exact ⟨none, 0, rfl, Knd.Rd.nil _, HBf.out⟩
 ·have hn1 : ((n : Int) == 0) = false := beq_eq_false_iff_ne.2 (by omega)
  by_cases hm0 : m = 0
  ·obtain rfl := e0.out (Or.inr hm0)
   subst hm0
   clear e0 e1 e2 e3 HL1 HL2 hk1 hk2 hQ hD1 hD2 hbt
   clear HX1 HX2
   have k0 : (u).cell? ⟨w.heap.size, 0, none⟩ = some (.int .i64 0) := rg 0 _ rfl
   have k1 : (u).cell? ⟨w.heap.size, 1, none⟩ = some (.int .i64 0) := rg 1 _ rfl
   have k2 : (u).cell? ⟨w.heap.size, 2, none⟩ = some (.slice none 0 0) := rg 2 _ rfl
   have ltk := cell_lt k0
   have fk := zg.fr
   have HBf := hid (below_set (below_set (below_set HB (Nat.le_refl _) 0 (.int .i64 0)) (Nat.le_refl _) 1 (.int .i64 0)) (Nat.le_refl _) 2 (.slice none 0 0))
   clear rg zg HB
   go_wp2
   refine bodyPost_ret (v := .tuple #[.agg #[.int .i64 0, .int .i64 0, .slice none 0 0], .int .i64 (5)]) ?_ rfl ?_
   ·simp [results, Tryz.results18, go_sem, k0, k1, k2]
   ·exact ⟨none, 0, rfl, Knd.Rd.nil _, HBf.out⟩
  ·have hm1 : ((m : Int) == 0) = false := beq_eq_false_iff_ne.2 (by omega)
   replace e1 := hid (e1.out (by omega))
   replace e2 := hid (e2.out (by omega))
   replace e3 := hid (e3.out (by omega))
   clear e0
   by_cases t1 : t < 1
   ·obtain rfl := e1.out (by rw [hbt.out.2 (by omega)]; rfl)
    clear e1 e2 e3 HL1 HL2 hk1 hk2 hQ hD1 hD2 hbt
    clear HX1 HX2
    have k0 : (u).cell? ⟨w.heap.size, 0, none⟩ = some (.int .i64 0) := rg 0 _ rfl
    have k1 : (u).cell? ⟨w.heap.size, 1, none⟩ = some (.int .i64 0) := rg 1 _ rfl
    have k2 : (u).cell? ⟨w.heap.size, 2, none⟩ = some (.slice none 0 0) := rg 2 _ rfl
    have ltk := cell_lt k0
    have fk := zg.fr
    have HBf := hid (below_set (below_set (below_set HB (Nat.le_refl _) 0 (.int .i64 0)) (Nat.le_refl _) 1 (.int .i64 0)) (Nat.le_refl _) 2 (.slice none 0 0))
    clear rg zg HB
    go_wp2
    refine bodyPost_ret (v := .tuple #[.agg #[.int .i64 0, .int .i64 0, .slice none 0 0], .int .i64 (3)]) ?_ rfl ?_
    ·simp [results, Tryz.results18, go_sem, k0, k1, k2]
    ·exact ⟨none, 0, rfl, Knd.Rd.nil _, HBf.out⟩
   ·by_cases t2 : 4096 < t
    ·obtain rfl := e1.out (by rw [hbt.out.2 (by omega)]; rfl)
     clear e1 e2 e3 HL1 HL2 hk1 hk2 hQ hD1 hD2 hbt
     clear HX1 HX2
     have k0 : (u).cell? ⟨w.heap.size, 0, none⟩ = some (.int .i64 0) := rg 0 _ rfl
     have k1 : (u).cell? ⟨w.heap.size, 1, none⟩ = some (.int .i64 0) := rg 1 _ rfl
     have k2 : (u).cell? ⟨w.heap.size, 2, none⟩ = some (.slice none 0 0) := rg 2 _ rfl
     have ltk := cell_lt k0
     have fk := zg.fr
     have HBf := hid (below_set (below_set (below_set HB (Nat.le_refl _) 0 (.int .i64 0)) (Nat.le_refl _) 1 (.int .i64 0)) (Nat.le_refl _) 2 (.slice none 0 0))
     clear rg zg HB
     go_wp2
     refine bodyPost_ret (v := .tuple #[.agg #[.int .i64 0, .int .i64 0, .slice none 0 0], .int .i64 (3)]) ?_ rfl ?_
     ·simp [results, Tryz.results18, go_sem, k0, k1, k2]
     ·exact ⟨none, 0, rfl, Knd.Rd.nil _, HBf.out⟩
    ·have htb : tb = false := Bool.eq_false_iff.2 fun e => by have := hbt.out.1 e; omega
     subst htb
     clear hbt
     replace HX1 := hid (HX1.out (by omega) (by omega))
     replace HX2 := hid (HX2.out (by omega) (by omega))
     replace HL1 := hid (HL1.out (by omega) (by omega))
     replace HL2 := hid (HL2.out (by omega) (by omega))
     replace hk1 := hid (hk1.out (by omega) (by omega))
     replace hk2 := hid (hk2.out (by omega) (by omega))
     replace e1 := hid fun (h : P1 < 0 ∨ P2 < 0) => e1.out (by simpa using h)
     replace e2 := hid fun (h : ¬ (P1 < 0 ∨ P2 < 0)) => e2.out (by simpa using h)
     replace e3 := hid fun (h : ¬ (P1 < 0 ∨ P2 < 0)) => e3.out (by simpa using h)
     go_wp2_with fail
     refine (HX1.out u HB).mono ?_
     rintro e v ⟨rfl, hv⟩
     replace rg := rng_below rg hv
     replace zg := zg.below hv
     replace HB := bel_step HB hv
     clear hv
     by_cases p1 : P1 < 0
     ·obtain rfl := e1.out (Or.inl p1)
      clear e1 e2 e3 HL1 HL2 hk1 hk2 hQ hD1 hD2
      clear HX1 HX2
      have k0 : (v).cell? ⟨w.heap.size, 0, none⟩ = some (.int .i64 0) := rg 0 _ rfl
      have k1 : (v).cell? ⟨w.heap.size, 1, none⟩ = some (.int .i64 0) := rg 1 _ rfl
      have k2 : (v).cell? ⟨w.heap.size, 2, none⟩ = some (.slice none 0 0) := rg 2 _ rfl
      have ltk := cell_lt k0
      have fk := zg.fr
      have HBf := hid (below_set (below_set (below_set HB (Nat.le_refl _) 0 (.int .i64 0)) (Nat.le_refl _) 1 (.int .i64 0)) (Nat.le_refl _) 2 (.slice none 0 0))
      clear rg zg HB
      go_wp2
      refine bodyPost_ret (v := .tuple #[.agg #[.int .i64 0, .int .i64 0, .slice none 0 0], .int .i64 (3)]) ?_ rfl ?_
      ·simp [results, Tryz.results18, go_sem, k0, k1, k2]
      ·exact ⟨none, 0, rfl, Knd.Rd.nil _, HBf.out⟩
     ·go_wp2_with fail
      refine (HX2.out v HB).mono ?_
      rintro e v2 ⟨rfl, hv⟩
      replace rg := rng_below rg hv
      replace zg := zg.below hv
      replace HB := bel_step HB hv
      clear hv
      by_cases p2 : P2 < 0
      ·obtain rfl := e1.out (Or.inr p2)
       clear e1 e2 e3 HL1 HL2 hk1 hk2 hQ hD1 hD2
       clear HX1 HX2
       have k0 : (v2).cell? ⟨w.heap.size, 0, none⟩ = some (.int .i64 0) := rg 0 _ rfl
       have k1 : (v2).cell? ⟨w.heap.size, 1, none⟩ = some (.int .i64 0) := rg 1 _ rfl
       have k2 : (v2).cell? ⟨w.heap.size, 2, none⟩ = some (.slice none 0 0) := rg 2 _ rfl
       have ltk := cell_lt k0
       have fk := zg.fr
       have HBf := hid (below_set (below_set (below_set HB (Nat.le_refl _) 0 (.int .i64 0)) (Nat.le_refl _) 1 (.int .i64 0)) (Nat.le_refl _) 2 (.slice none 0 0))
       clear rg zg HB
       go_wp2
       refine bodyPost_ret (v := .tuple #[.agg #[.int .i64 0, .int .i64 0, .slice none 0 0], .int .i64 (3)]) ?_ rfl ?_
       ·simp [results, Tryz.results18, go_sem, k0, k1, k2]
       ·exact ⟨none, 0, rfl, Knd.Rd.nil _, HBf.out⟩
      ·clear e1
       replace e2 := hid (e2.out (by omega))
       replace e3 := hid (e3.out (by omega))
       replace HL1 := hid (HL1.out (by omega))
       replace HL2 := hid (HL2.out (by omega))
       obtain ⟨x1, x2⟩ := hk1.out (by omega)
       obtain ⟨y1, y2⟩ := hk2.out (by omega)
       clear hk1 hk2
       go_wp2_with fail
       refine (HX1.out v2 HB).mono ?_
       rintro e v3 ⟨rfl, hv⟩
       replace rg := rng_below rg hv
       replace zg := zg.below hv
       replace HB := bel_step HB hv
       clear hv
       go_wp2_with fail
       refine (HX2.out v3 HB).mono ?_
       rintro e v4 ⟨rfl, hv⟩
       replace rg := rng_below rg hv
       replace zg := zg.below hv
       replace HB := bel_step HB hv
       clear hv HX1 HX2
       by_cases g1 : 4096 < P1
       ·obtain rfl := e2.out (Or.inl g1)
        clear e2 e3 HL1 HL2 hQ hD1 hD2
        have k0 : (v4).cell? ⟨w.heap.size, 0, none⟩ = some (.int .i64 0) := rg 0 _ rfl
        have k1 : (v4).cell? ⟨w.heap.size, 1, none⟩ = some (.int .i64 0) := rg 1 _ rfl
        have k2 : (v4).cell? ⟨w.heap.size, 2, none⟩ = some (.slice none 0 0) := rg 2 _ rfl
        have ltk := cell_lt k0
        have fk := zg.fr
        have HBf := hid (below_set (below_set (below_set HB (Nat.le_refl _) 0 (.int .i64 0)) (Nat.le_refl _) 1 (.int .i64 0)) (Nat.le_refl _) 2 (.slice none 0 0))
        clear rg zg HB
        go_wp2
        refine bodyPost_ret (v := .tuple #[.agg #[.int .i64 0, .int .i64 0, .slice none 0 0], .int .i64 (4)]) ?_ rfl ?_
        ·simp [results, Tryz.results18, go_sem, k0, k1, k2]
        ·exact ⟨none, 0, rfl, Knd.Rd.nil _, HBf.out⟩
       ·by_cases g2 : 4096 < P2
        ·obtain rfl := e2.out (Or.inr (Or.inl g2))
         clear e2 e3 HL1 HL2 hQ hD1 hD2
         have k0 : (v4).cell? ⟨w.heap.size, 0, none⟩ = some (.int .i64 0) := rg 0 _ rfl
         have k1 : (v4).cell? ⟨w.heap.size, 1, none⟩ = some (.int .i64 0) := rg 1 _ rfl
         have k2 : (v4).cell? ⟨w.heap.size, 2, none⟩ = some (.slice none 0 0) := rg 2 _ rfl
         have ltk := cell_lt k0
         have fk := zg.fr
         have HBf := hid (below_set (below_set (below_set HB (Nat.le_refl _) 0 (.int .i64 0)) (Nat.le_refl _) 1 (.int .i64 0)) (Nat.le_refl _) 2 (.slice none 0 0))
         clear rg zg HB
         go_wp2
         refine bodyPost_ret (v := .tuple #[.agg #[.int .i64 0, .int .i64 0, .slice none 0 0], .int .i64 (4)]) ?_ rfl ?_
         ·simp [results, Tryz.results18, go_sem, k0, k1, k2]
         ·exact ⟨none, 0, rfl, Knd.Rd.nil _, HBf.out⟩
        ·have hp : 0 ≤ P1 * P2 ∧ P1 * P2 ≤ 4096 * 4096 := ⟨Int.mul_nonneg (by omega) (by omega), Int.mul_le_mul (by omega) (by omega) (by omega) (by omega)⟩
         have hwp : IntKind.i64.wrap (P1 * P2) = P1 * P2 := by rw [IntKind.wrap_i64]; omega
         by_cases g3 : 4194304 < P1 * P2
         ·obtain rfl := e2.out (Or.inr (Or.inr g3))
          clear e2 e3 HL1 HL2 hQ hD1 hD2
          have k0 : (v4).cell? ⟨w.heap.size, 0, none⟩ = some (.int .i64 0) := rg 0 _ rfl
          have k1 : (v4).cell? ⟨w.heap.size, 1, none⟩ = some (.int .i64 0) := rg 1 _ rfl
          have k2 : (v4).cell? ⟨w.heap.size, 2, none⟩ = some (.slice none 0 0) := rg 2 _ rfl
          have ltk := cell_lt k0
          have fk := zg.fr
          have HBf := hid (below_set (below_set (below_set HB (Nat.le_refl _) 0 (.int .i64 0)) (Nat.le_refl _) 1 (.int .i64 0)) (Nat.le_refl _) 2 (.slice none 0 0))
          clear rg zg HB
          go_wp2
          refine bodyPost_ret (v := .tuple #[.agg #[.int .i64 0, .int .i64 0, .slice none 0 0], .int .i64 (4)]) ?_ rfl ?_
          ·simp [results, Tryz.results18, go_sem, k0, k1, k2]
          ·exact ⟨none, 0, rfl, Knd.Rd.nil _, HBf.out⟩
         ·obtain rfl := e3.out (by omega)
          clear e2 e3
          replace HL1 := hid (HL1.out (by omega))
          replace HL2 := hid (HL2.out (by omega))
          have hQ2 := hid (hQ.out P1 P2)
          have d1 := hD1.out P1.toNat
          have d2 := hD2.out P2.toNat
          obtain ⟨W, rfl⟩ := Int.eq_ofNat_of_zero_le (show 0 ≤ P1 by omega)
          obtain ⟨H, rfl⟩ := Int.eq_ofNat_of_zero_le (show 0 ≤ P2 by omega)
          rw [← Int.natCast_mul] at hp hwp g3 hQ2
          simp only [Int.toNat_natCast] at HL1 HL2 hQ2 d1 d2
          obtain ⟨N, hN⟩ : ∃ N, W * H = N := ⟨_, rfl⟩
          have hNd := hid fun (i : Nat) (h : i < N) => (show i % W < W ∧ i / W < H from ⟨Nat.mod_lt _ (by omega), Nat.div_lt_of_lt_mul (by rw [hN]; exact h)⟩)
          have hmul : IntKind.i64.wrap ((W : Int) * (H : Int)) = (N : Int) := by rw [← Int.natCast_mul, hN, IntKind.wrap_i64]; rw [hN] at g3; omega
          have hN4 : N ≤ 4194304 := by rw [hN] at g3; omega
          rw [hN] at hQ2
          generalize QQ (W : Int) (H : Int) = Q at *
          have hQl := hid (show Q.length = N from by rw [hQ2.out]; simp)
          generalize X W = xs at *
          generalize Y H = ys at *
          have hQs := hid fun (i : Nat) (h : i < N) (h1 : i % W < xs.length) (h2 : i / W < ys.length) => (show Q.take (i + 1) = Q.take i ++ [xs[i % W] || ys[i / W]] from by
           rw [List.take_succ_eq_append_getElem (by rw [hQl.out]; exact h)]
           congr 2
           simp only [hQ2.out, List.getElem_map, List.getElem_range]
           simp [List.getD, h1, h2])
          have hQn := hid (show Q.take N = Q from by rw [← hQl.out]; exact List.take_length)
          have g3' : ¬ (4194304 : Int) < (N : Int) := by omega
          clear hp hwp g3 hQ2 hQ hD1 hD2 hN p1 p2
          go_wp2_with fail
          refine (HL1.out v4 HB).mono ?_
          rintro e v5 ⟨A1, c1, rfl, hr1, hv⟩
          replace rg := rng_below rg hv
          replace zg := zg.below hv
          replace HB := bel_step HB hv
          clear hv
          go_wp2_with fail
          refine (HL2.out v5 HB).mono ?_
          rintro e v6 ⟨A2, c2, rfl, hr2, hv⟩
          replace rg := rng_below rg hv
          replace zg := zg.below hv
          replace HB := bel_step HB hv
          replace hr1 := hr1.below hv
          clear hv HL1 HL2 g1 g2 g3'
          (try rw [d1])
          (try rw [d2])
          go_upto_region 10 with fail
          refine enterR (P := fun u => Code.wp _ _ _ _ u) (c := [.int .i64 (W : Int), .int .i64 (H : Int), .slice none 0 0]) ?_
          intro y hby q0 z0 hsy
          obtain ⟨g, hg⟩ : ∃ g, v6.heap.size = g := ⟨_, rfl⟩
          have hgw := HB.size
          have hM0 : Mk v6 g (.int .i64 (W : Int)) (.int .i64 (H : Int)) (.slice none 0 0) (Q.take 0) y := ⟨by rw [← hg]; exact q0, by rw [← hg]; exact z0, Knd.Own.nil _ _, by omega, hby⟩
          rw [hg]
          have hgl := zg.lt
          have hKp := hid fun (W' : World) (hb : Below v6.heap.size v6 W') => (show Below w.heap.size w W' ∧ (W'.rangeAt w.heap.size 0 [.int .i64 0, .int .i64 0, .slice none 0 0] ∧ Zn W' w.heap.size) ∧ BoK.Rd W' A1 c1 xs ∧ BoK.Rd W' A2 c2 ys from ⟨bel_step HB hb, ⟨rng_below rg hb, zg.below hb⟩, hr1.below hb, hr2.below hb⟩)
          have hb1 := hid fun (b o : Nat) (e : A1 = some ⟨b, o, none⟩) (h : 0 < xs.length) => (show b < g from by
           obtain ⟨b', o', e', h', _⟩ := hr1.rd h
           rw [e] at e'; injection e' with e'; injection e' with e'; omega)
          have hb2 := hid fun (b o : Nat) (e : A2 = some ⟨b, o, none⟩) (h : 0 < ys.length) => (show b < g from by
           obtain ⟨b', o', e', h', _⟩ := hr2.rd h
           rw [e] at e'; injection e' with e'; injection e' with e'; omega)
          have cx := Nat.le_trans hr1.cap hr1.max
          have cy := Nat.le_trans hr2.cap hr2.max
          rw [hg] at hgl
          clear q0 z0 hsy hby rg zg HB hr1 hr2
          go_wp2
          go_loopw [13] (fun s13 wr => ∃ i : Nat, s13 = .int .i64 i ∧ i ≤ N ∧ ∃ vD, Mk v6 g (.int .i64 (W : Int)) (.int .i64 (H : Int)) vD (Q.take i) wr) (fun s13 _ => N - (intOf s13).toNat)
          case atStart => exact ⟨0, rfl, by omega, _, hM0⟩
          case round =>
           clear hM0
           obtain ⟨i, rfl, hi, vD, hM⟩ := hrel
           obtain ⟨HB, ⟨rg, zg⟩, hr1, hr2⟩ := hKp.out wr hM.b
           have hTl : (Q.take i).length = i := by rw [List.length_take, hQl.out]; omega
           obtain ⟨A3, c3, rfl⟩ := hM.o.form BoKo
           rw [hTl] at hM
           by_cases hin : i < N
           ·have hii : (i : Int) < (N : Int) := by omega
            obtain ⟨k1, k2⟩ := hNd.out i hin
            have hq := hid (hQs.out i hin (by omega) (by omega))
            obtain ⟨b1, o1, hA1, f1⟩ := hr1.at_ (j := i % W) (by omega)
            obtain ⟨b2, o2, hA2, f2⟩ := hr2.at_ (j := i / W) (by omega)
            have e1 : wr.cell? ⟨b1, o1 + i % W * 1, none⟩ = some (.bool xs[i % W]) := f1 0 _ rfl
            have e2 : wr.cell? ⟨b2, o2 + i / W * 1, none⟩ = some (.bool ys[i / W]) := f2 0 _ rfl
            rw [Nat.mul_one] at e1 e2
            have hl1 := hb1.out b1 o1 hA1 (by omega)
            have hl2 := hb2.out b2 o2 hA2 (by omega)
            subst hA1 hA2
            generalize xs[i % W] = px at *
            generalize ys[i / W] = py at *
            have hmd : Int.tmod (i : Int) (W : Int) = ((i % W : Nat) : Int) := (Int.ofNat_tmod i W).symm
            have hdv : Int.tdiv (i : Int) (W : Int) = ((i / W : Nat) : Int) := (Int.ofNat_tdiv i W).symm
            generalize i % W = mx at *
            generalize i / W = my at *
            have hmw : IntKind.i64.wrap (mx : Int) = (mx : Int) := by rw [IntKind.wrap_i64]; omega
            have hdw : IntKind.i64.wrap (my : Int) = (my : Int) := by rw [IntKind.wrap_i64]; omega
            have hW0 : ((W : Int) == 0) = false := by rw [beq_eq_false_iff_ne]; omega
            have hW1 : ¬ W = 0 := by omega
            have hmi : (mx : Int) < (W : Int) := by omega
            have hmi2 : (my : Int) < (H : Int) := by omega
            have c0 : wr.cell? ⟨g, 2, none⟩ = some (.slice A3 i c3) := hM.r 2 _ rfl
            clear hr1 hr2 f1 f2 rg zg HB
            go_upto_region 13 with fail
            refine Ords.start (x := 19) (S := fun w' => w'.cell? ⟨g, 2, none⟩ = some (.slice A3 i c3) ∧ w'.cell? ⟨b1, o1 + mx, none⟩ = some (.bool px) ∧ w'.cell? ⟨b2, o2 + my, none⟩ = some (.bool py)) (by kernel_rfl) ⟨c0, e1, e2⟩ (fun hHeld => ?_)
            have hdb : Below wr.heap.size wr wr.drew := (Below.refl _ _).drew
            replace hM := hM.below hdb
            generalize wr.drew = xd at hM hHeld ⊢
            clear hdb c0 e1 e2
            cases px
            ·rw [Bool.false_or] at hq
             refine' Ords.take (i := 0) ?_ ?_ ?_ ?_ ?_ ?_ ?_ ?_ ?_
             rotate_left 2
             ·(simp only [List.getElem?_toArray, List.getElem?_cons_succ, List.getElem?_cons_zero]; rfl)
             ·kernel_rfl
             ·kernel_rfl
             ·kernel_rfl
             ·kernel_rfl
             ·exact fun _ _ _ h => h
             ·(refine Or.inl ⟨by rfl, ?_⟩; intro w_ hSw_; (try dsimp only at hSw_); go_simp; (try with_reducible rfl))
             ·assumption
             (try simp only [Act.put, Lp0, Lp1, Lp2])
             refine' Ords.take (i := 1) ?_ ?_ ?_ ?_ ?_ ?_ ?_ ?_ ?_
             rotate_left 2
             ·(simp only [List.getElem?_toArray, List.getElem?_cons_succ, List.getElem?_cons_zero]; rfl)
             ·kernel_rfl
             ·kernel_rfl
             ·kernel_rfl
             ·kernel_rfl
             ·exact fun _ _ _ h => h
             ·(refine Or.inl ⟨by rfl, ?_⟩; intro w_ hSw_; (try dsimp only at hSw_); go_simp; (try with_reducible rfl))
             ·assumption
             (try simp only [Act.put, Lp0, Lp1, Lp2])
             refine' Ords.take (i := 2) ?_ ?_ ?_ ?_ ?_ ?_ ?_ ?_ ?_
             rotate_left 2
             ·(simp only [List.getElem?_toArray, List.getElem?_cons_succ, List.getElem?_cons_zero]; rfl)
             ·kernel_rfl
             ·kernel_rfl
             ·kernel_rfl
             ·kernel_rfl
             ·exact fun _ _ _ h => h
             ·(refine Or.inl ⟨by rfl, ?_⟩; intro w_ hSw_; (try dsimp only at hSw_); go_simp; (try with_reducible rfl))
             ·assumption
             (try simp only [Act.put, Lp0, Lp1, Lp2])
             refine' Ords.take (i := 3) ?_ ?_ ?_ ?_ ?_ ?_ ?_ ?_ ?_
             rotate_left 2
             ·(simp only [List.getElem?_toArray, List.getElem?_cons_succ, List.getElem?_cons_zero]; rfl)
             ·kernel_rfl
             ·kernel_rfl
             ·kernel_rfl
             ·kernel_rfl
             ·exact fun _ _ _ h => h
             ·(refine Or.inl ⟨by rfl, ?_⟩; intro w_ hSw_; (try dsimp only at hSw_); go_simp; (try with_reducible rfl))
             ·assumption
             (try simp only [Act.put, Lp0, Lp1, Lp2])
             refine' Ords.take (i := 4) ?_ ?_ ?_ ?_ ?_ ?_ ?_ ?_ ?_
             rotate_left 2
             ·(simp only [List.getElem?_toArray, List.getElem?_cons_succ, List.getElem?_cons_zero]; rfl)
             ·kernel_rfl
             ·kernel_rfl
             ·kernel_rfl
             ·kernel_rfl
             ·exact fun _ _ _ h => h
             ·(refine Or.inl ⟨by rfl, ?_⟩; intro w_ hSw_; (try dsimp only at hSw_); go_simp; (try with_reducible rfl))
             ·assumption
             (try simp only [Act.put, Lp0, Lp1, Lp2])
             refine' Ords.take (i := 5) ?_ ?_ ?_ ?_ ?_ ?_ ?_ ?_ ?_
             rotate_left 2
             ·(simp only [List.getElem?_toArray, List.getElem?_cons_succ, List.getElem?_cons_zero]; rfl)
             ·kernel_rfl
             ·kernel_rfl
             ·kernel_rfl
             ·kernel_rfl
             ·exact fun _ _ _ h => h
             ·(refine Or.inl ⟨by rfl, ?_⟩; intro w_ hSw_; (try dsimp only at hSw_); go_simp; (try with_reducible rfl))
             ·assumption
             (try simp only [Act.put, Lp0, Lp1, Lp2])
             refine' Ords.take (i := 6) ?_ ?_ ?_ ?_ ?_ ?_ ?_ ?_ ?_
             rotate_left 2
             ·(simp only [List.getElem?_toArray, List.getElem?_cons_succ, List.getElem?_cons_zero]; rfl)
             ·kernel_rfl
             ·kernel_rfl
             ·kernel_rfl
             ·kernel_rfl
             ·exact fun _ _ _ h => h
             ·(refine Or.inl ⟨by rfl, ?_⟩; intro w_ hSw_; (try dsimp only at hSw_); go_simp; (try with_reducible rfl))
             ·assumption
             (try simp only [Act.put, Lp0, Lp1, Lp2])
             refine' Ords.take (i := 7) ?_ ?_ ?_ ?_ ?_ ?_ ?_ ?_ ?_
             rotate_left 2
             ·(simp only [List.getElem?_toArray, List.getElem?_cons_succ, List.getElem?_cons_zero]; rfl)
             ·kernel_rfl
             ·kernel_rfl
             ·kernel_rfl
             ·kernel_rfl
             ·exact fun _ _ _ h => h
             ·(refine Or.inl ⟨by rfl, ?_⟩; intro w_ hSw_; (try dsimp only at hSw_); go_simp; (try with_reducible rfl))
             ·assumption
             (try simp only [Act.put, Lp0, Lp1, Lp2])
             refine' Ords.take (i := 8) ?_ ?_ ?_ ?_ ?_ ?_ ?_ ?_ ?_
             rotate_left 2
             ·(simp only [List.getElem?_toArray, List.getElem?_cons_succ, List.getElem?_cons_zero]; rfl)
             ·kernel_rfl
             ·kernel_rfl
             ·kernel_rfl
             ·kernel_rfl
             ·exact fun _ _ _ h => h
             ·(refine Or.inl ⟨by rfl, ?_⟩; intro w_ hSw_; (try dsimp only at hSw_); go_simp; (try with_reducible rfl))
             ·assumption
             (try simp only [Act.put, Lp0, Lp1, Lp2])
             refine' Ords.take (i := 9) ?_ ?_ ?_ ?_ ?_ ?_ ?_ ?_ ?_
             rotate_left 2
             ·(simp only [List.getElem?_toArray, List.getElem?_cons_succ, List.getElem?_cons_zero]; rfl)
             ·kernel_rfl
             ·kernel_rfl
             ·kernel_rfl
             ·kernel_rfl
             ·exact fun _ _ _ h => h
             ·(refine Or.inl ⟨by rfl, ?_⟩; intro w_ hSw_; (try dsimp only at hSw_); go_simp; (try with_reducible rfl))
             ·assumption
             (try simp only [Act.put, Lp0, Lp1, Lp2])
             refine' Ords.take (i := 10) ?_ ?_ ?_ ?_ ?_ ?_ ?_ ?_ ?_
             rotate_left 2
             ·(simp only [List.getElem?_toArray, List.getElem?_cons_succ, List.getElem?_cons_zero]; rfl)
             ·kernel_rfl
             ·kernel_rfl
             ·kernel_rfl
             ·kernel_rfl
             ·exact fun _ _ _ h => h
             ·(refine Or.inl ⟨by rfl, ?_⟩; intro w_ hSw_; (try dsimp only at hSw_); go_simp; (try with_reducible rfl))
             ·assumption
             (try simp only [Act.put, Lp0, Lp1, Lp2])
             refine' Ords.take (i := 11) ?_ ?_ ?_ ?_ ?_ ?_ ?_ ?_ ?_
             rotate_left 2
             ·(simp only [List.getElem?_toArray, List.getElem?_cons_succ, List.getElem?_cons_zero]; rfl)
             ·kernel_rfl
             ·kernel_rfl
             ·kernel_rfl
             ·kernel_rfl
             ·exact fun _ _ _ h => h
             ·(refine Or.inl ⟨by rfl, ?_⟩; intro w_ hSw_; (try dsimp only at hSw_); go_simp; (try with_reducible rfl))
             ·assumption
             (try simp only [Act.put, Lp0, Lp1, Lp2])
             refine' Ords.take (i := 12) ?_ ?_ ?_ ?_ ?_ ?_ ?_ ?_ ?_
             rotate_left 2
             ·(simp only [List.getElem?_toArray, List.getElem?_cons_succ, List.getElem?_cons_zero]; rfl)
             ·kernel_rfl
             ·kernel_rfl
             ·kernel_rfl
             ·kernel_rfl
             ·exact fun _ _ _ h => h
             ·(refine Or.inl ⟨by rfl, ?_⟩; intro w_ hSw_; (try dsimp only at hSw_); go_simp; (try with_reducible rfl))
             ·assumption
             (try simp only [Act.put, Lp0, Lp1, Lp2])
             refine' Ords.take (i := 13) ?_ ?_ ?_ ?_ ?_ ?_ ?_ ?_ ?_
             rotate_left 2
             ·(simp only [List.getElem?_toArray, List.getElem?_cons_succ, List.getElem?_cons_zero]; rfl)
             ·kernel_rfl
             ·kernel_rfl
             ·kernel_rfl
             ·kernel_rfl
             ·exact fun _ _ _ h => h
             ·(refine Or.inl ⟨by rfl, ?_⟩; intro w_ hSw_; (try dsimp only at hSw_); go_simp; (try with_reducible rfl))
             ·assumption
             (try simp only [Act.put, Lp0, Lp1, Lp2])
             refine' Ords.take (i := 14) ?_ ?_ ?_ ?_ ?_ ?_ ?_ ?_ ?_
             rotate_left 2
             ·(simp only [List.getElem?_toArray, List.getElem?_cons_succ, List.getElem?_cons_zero]; rfl)
             ·kernel_rfl
             ·kernel_rfl
             ·kernel_rfl
             ·kernel_rfl
             ·exact fun _ _ _ h => h
             ·(refine Or.inl ⟨by rfl, ?_⟩; intro w_ hSw_; (try dsimp only at hSw_); go_simp; (try with_reducible rfl))
             ·assumption
             (try simp only [Act.put, Lp0, Lp1, Lp2])
             refine' Ords.take (i := 15) ?_ ?_ ?_ ?_ ?_ ?_ ?_ ?_ ?_
             rotate_left 2
             ·(simp only [List.getElem?_toArray, List.getElem?_cons_succ, List.getElem?_cons_zero]; rfl)
             ·kernel_rfl
             ·kernel_rfl
             ·kernel_rfl
             ·kernel_rfl
             ·exact fun _ _ _ h => h
             ·(refine Or.inl ⟨by rfl, ?_⟩; intro w_ hSw_; (try dsimp only at hSw_); go_simp; (try with_reducible rfl))
             ·assumption
             (try simp only [Act.put, Lp0, Lp1, Lp2])
             have hab : Below xd.heap.size xd (xd.alloc (.cells #[.bool py] 4)) := (Below.refl _ _).alloc (Nat.le_refl _) _
             have hra := rng_alloc (w := xd) (cs := [.bool py]) (t := 4)
             refine' Ords.step (i := 16) (by kernel_rfl) (by simp only [List.getElem?_toArray, List.getElem?_cons_succ, List.getElem?_cons_zero]; rfl) (fun K hK => ?_)
             go_simp
             skip
             (try go_wp2_with fail)
             refine hK.out _ _ ?_ (fun hHeld => ?_)
             ·exact ⟨keep_alloc hHeld.1, keep_alloc hHeld.2.1, keep_alloc hHeld.2.2⟩
             clear hK K
             (try simp only [Act.put, Lp0, Lp1, Lp2])
             have hMa := hM.below hab
             obtain ⟨xa, hxa⟩ : ∃ x, xd.alloc (.cells #[.bool py] 4) = x := ⟨_, rfl⟩
             have hra2 : xa.rangeAt xd.heap.size 0 (BoK.enc py) := by rw [← hxa]; exact hra
             rw [hxa] at hMa hHeld ⊢
             clear hra hab hxa hM
             obtain ⟨k0, k1, k2⟩ := hHeld
             have hHeld := And.intro k0 (And.intro k1 k2)
             have hgx := hMa.z.lt
             refine' Ords.step (i := 17) (by kernel_rfl) (by simp only [List.getElem?_toArray, List.getElem?_cons_succ, List.getElem?_cons_zero]; rfl) (fun K hK => ?_)
             (refine Knd.step_app1 BoKo rfl (.tmp 78) (.tmp 93) rfl (g + 1) (.slice A3 i c3) (Q.take i) py xd.heap.size rfl hMa.o rfl hra2 (by omega) (by omega) ?_; intro v7 w7 hO7 hg7 hat7; obtain ⟨A7, c7, rfl⟩ := hO7.form BoKo; have hL7 : (List.take i Q ++ [py]).length = i + 1 := (by rw [List.length_append, hTl]; rfl); rw [hL7] at hO7; have hA7 := hMa.app hO7 hg7; have hn1 : some b1 ≠ (Value.slice A3 i c3).ownBlock := fun e => (by have := (hMa.o.lt e.symm).1; omega); have hn2 : some b2 ≠ (Value.slice A3 i c3).ownBlock := fun e => (by have := (hMa.o.lt e.symm).1; omega))
             refine hK.out _ _ ?_ (fun hHeld => ?_)
             ·exact ⟨hA7.1 2 _ rfl, hg7.cell k1 hn1, hg7.cell k2 hn2⟩
             clear hK K
             (try simp only [Act.put, Lp0, Lp1, Lp2])
             obtain ⟨q7, hM7⟩ := hA7
             have l2 : w7.cell? ⟨g, 2, none⟩ = some (.slice A3 i c3) := q7 2 _ rfl
             have hzf := hid hM7.z
             have fz7 : ∀ j, w7.frozen? ⟨g, j, none⟩ = false := fun j => by have := hzf.out.fr j; simpa using this
             replace hM7 := hid hM7
             clear hMa hra2 hO7 hg7 hat7 k0 k1 k2 q7 hn1 hn2
             refine' Ords.take (i := 18) ?_ ?_ ?_ ?_ ?_ ?_ ?_ ?_ ?_
             rotate_left 2
             ·(simp only [List.getElem?_toArray, List.getElem?_cons_succ, List.getElem?_cons_zero]; rfl)
             ·kernel_rfl
             ·kernel_rfl
             ·kernel_rfl
             ·kernel_rfl
             ·exact fun _ _ _ h => h
             ·(refine Or.inl ⟨by rfl, ?_⟩; intro w_ hSw_; (try dsimp only at hSw_); go_simp; (try with_reducible rfl))
             ·assumption
             (try simp only [Act.put, Lp0, Lp1, Lp2])
             refine' Ords.last (by kernel_rfl) (by simp only [List.getElem?_toArray, List.getElem?_cons_succ, List.getElem?_cons_zero]; rfl) (by kernel_rfl) (fun K hK => ?_)
             go_simp
             (try go_wp2_with fail)
             refine hK.out _ _ ?_
             clear hK K
             (try simp only [Act.put, Lp0, Lp1, Lp2])
             go_wp2
             go_roundw
             case rel => exact ⟨i + 1, by go_num, by omega, _, by rw [hq.out]; exact hM7.out⟩
             case measure => simp [intOf]; omega
            ·rw [Bool.true_or] at hq
             refine' Ords.take (i := 0) ?_ ?_ ?_ ?_ ?_ ?_ ?_ ?_ ?_
             rotate_left 2
             ·(simp only [List.getElem?_toArray, List.getElem?_cons_succ, List.getElem?_cons_zero]; rfl)
             ·kernel_rfl
             ·kernel_rfl
             ·kernel_rfl
             ·kernel_rfl
             ·exact fun _ _ _ h => h
             ·(refine Or.inl ⟨by rfl, ?_⟩; intro w_ hSw_; (try dsimp only at hSw_); go_simp; (try with_reducible rfl))
             ·assumption
             (try simp only [Act.put, Lp0, Lp1, Lp2])
             refine' Ords.take (i := 1) ?_ ?_ ?_ ?_ ?_ ?_ ?_ ?_ ?_
             rotate_left 2
             ·(simp only [List.getElem?_toArray, List.getElem?_cons_succ, List.getElem?_cons_zero]; rfl)
             ·kernel_rfl
             ·kernel_rfl
             ·kernel_rfl
             ·kernel_rfl
             ·exact fun _ _ _ h => h
             ·(refine Or.inl ⟨by rfl, ?_⟩; intro w_ hSw_; (try dsimp only at hSw_); go_simp; (try with_reducible rfl))
             ·assumption
             (try simp only [Act.put, Lp0, Lp1, Lp2])
             refine' Ords.take (i := 2) ?_ ?_ ?_ ?_ ?_ ?_ ?_ ?_ ?_
             rotate_left 2
             ·(simp only [List.getElem?_toArray, List.getElem?_cons_succ, List.getElem?_cons_zero]; rfl)
             ·kernel_rfl
             ·kernel_rfl
             ·kernel_rfl
             ·kernel_rfl
             ·exact fun _ _ _ h => h
             ·(refine Or.inl ⟨by rfl, ?_⟩; intro w_ hSw_; (try dsimp only at hSw_); go_simp; (try with_reducible rfl))
             ·assumption
             (try simp only [Act.put, Lp0, Lp1, Lp2])
             refine' Ords.take (i := 3) ?_ ?_ ?_ ?_ ?_ ?_ ?_ ?_ ?_
             rotate_left 2
             ·(simp only [List.getElem?_toArray, List.getElem?_cons_succ, List.getElem?_cons_zero]; rfl)
             ·kernel_rfl
             ·kernel_rfl
             ·kernel_rfl
             ·kernel_rfl
             ·exact fun _ _ _ h => h
             ·(refine Or.inl ⟨by rfl, ?_⟩; intro w_ hSw_; (try dsimp only at hSw_); go_simp; (try with_reducible rfl))
             ·assumption
             (try simp only [Act.put, Lp0, Lp1, Lp2])
             refine' Ords.take (i := 4) ?_ ?_ ?_ ?_ ?_ ?_ ?_ ?_ ?_
             rotate_left 2
             ·(simp only [List.getElem?_toArray, List.getElem?_cons_succ, List.getElem?_cons_zero]; rfl)
             ·kernel_rfl
             ·kernel_rfl
             ·kernel_rfl
             ·kernel_rfl
             ·exact fun _ _ _ h => h
             ·(refine Or.inl ⟨by rfl, ?_⟩; intro w_ hSw_; (try dsimp only at hSw_); go_simp; (try with_reducible rfl))
             ·assumption
             (try simp only [Act.put, Lp0, Lp1, Lp2])
             refine' Ords.take (i := 5) ?_ ?_ ?_ ?_ ?_ ?_ ?_ ?_ ?_
             rotate_left 2
             ·(simp only [List.getElem?_toArray, List.getElem?_cons_succ, List.getElem?_cons_zero]; rfl)
             ·kernel_rfl
             ·kernel_rfl
             ·kernel_rfl
             ·kernel_rfl
             ·exact fun _ _ _ h => h
             ·(refine Or.inl ⟨by rfl, ?_⟩; intro w_ hSw_; (try dsimp only at hSw_); go_simp; (try with_reducible rfl))
             ·assumption
             (try simp only [Act.put, Lp0, Lp1, Lp2])
             refine' Ords.take (i := 6) ?_ ?_ ?_ ?_ ?_ ?_ ?_ ?_ ?_
             rotate_left 2
             ·(simp only [List.getElem?_toArray, List.getElem?_cons_succ, List.getElem?_cons_zero]; rfl)
             ·kernel_rfl
             ·kernel_rfl
             ·kernel_rfl
             ·kernel_rfl
             ·exact fun _ _ _ h => h
             ·(refine Or.inl ⟨by rfl, ?_⟩; intro w_ hSw_; (try dsimp only at hSw_); go_simp; (try with_reducible rfl))
             ·assumption
             (try simp only [Act.put, Lp0, Lp1, Lp2])
             refine' Ords.take (i := 7) ?_ ?_ ?_ ?_ ?_ ?_ ?_ ?_ ?_
             rotate_left 2
             ·(simp only [List.getElem?_toArray, List.getElem?_cons_succ, List.getElem?_cons_zero]; rfl)
             ·kernel_rfl
             ·kernel_rfl
             ·kernel_rfl
             ·kernel_rfl
             ·exact fun _ _ _ h => h
             ·(refine Or.inl ⟨by rfl, ?_⟩; intro w_ hSw_; (try dsimp only at hSw_); go_simp; (try with_reducible rfl))
             ·assumption
             (try simp only [Act.put, Lp0, Lp1, Lp2])
             refine' Ords.take (i := 8) ?_ ?_ ?_ ?_ ?_ ?_ ?_ ?_ ?_
             rotate_left 2
             ·(simp only [List.getElem?_toArray, List.getElem?_cons_succ, List.getElem?_cons_zero]; rfl)
             ·kernel_rfl
             ·kernel_rfl
             ·kernel_rfl
             ·kernel_rfl
             ·exact fun _ _ _ h => h
             ·(refine Or.inl ⟨by rfl, ?_⟩; intro w_ hSw_; (try dsimp only at hSw_); go_simp; (try with_reducible rfl))
             ·assumption
             (try simp only [Act.put, Lp0, Lp1, Lp2])
             refine' Ords.take (i := 9) (v := undef) ?_ ?_ ?_ ?_ ?_ ?_ ?_ ?_ ?_
             rotate_left 1
             ·(simp only [List.getElem?_toArray, List.getElem?_cons_succ, List.getElem?_cons_zero]; rfl)
             ·kernel_rfl
             ·kernel_rfl
             ·kernel_rfl
             ·kernel_rfl
             ·exact fun _ _ _ h => h
             ·exact Or.inr ⟨by rfl, rfl⟩
             ·assumption
             (try simp only [Act.put, Lp0, Lp1, Lp2])
             refine' Ords.take (i := 10) (v := undef) ?_ ?_ ?_ ?_ ?_ ?_ ?_ ?_ ?_
             rotate_left 1
             ·(simp only [List.getElem?_toArray, List.getElem?_cons_succ, List.getElem?_cons_zero]; rfl)
             ·kernel_rfl
             ·kernel_rfl
             ·kernel_rfl
             ·kernel_rfl
             ·exact fun _ _ _ h => h
             ·exact Or.inr ⟨by rfl, rfl⟩
             ·assumption
             (try simp only [Act.put, Lp0, Lp1, Lp2])
             refine' Ords.take (i := 11) (v := undef) ?_ ?_ ?_ ?_ ?_ ?_ ?_ ?_ ?_
             rotate_left 1
             ·(simp only [List.getElem?_toArray, List.getElem?_cons_succ, List.getElem?_cons_zero]; rfl)
             ·kernel_rfl
             ·kernel_rfl
             ·kernel_rfl
             ·kernel_rfl
             ·exact fun _ _ _ h => h
             ·exact Or.inr ⟨by rfl, rfl⟩
             ·assumption
             (try simp only [Act.put, Lp0, Lp1, Lp2])
             refine' Ords.take (i := 12) (v := undef) ?_ ?_ ?_ ?_ ?_ ?_ ?_ ?_ ?_
             rotate_left 1
             ·(simp only [List.getElem?_toArray, List.getElem?_cons_succ, List.getElem?_cons_zero]; rfl)
             ·kernel_rfl
             ·kernel_rfl
             ·kernel_rfl
             ·kernel_rfl
             ·exact fun _ _ _ h => h
             ·exact Or.inr ⟨by rfl, rfl⟩
             ·assumption
             (try simp only [Act.put, Lp0, Lp1, Lp2])
             refine' Ords.take (i := 13) (v := undef) ?_ ?_ ?_ ?_ ?_ ?_ ?_ ?_ ?_
             rotate_left 1
             ·(simp only [List.getElem?_toArray, List.getElem?_cons_succ, List.getElem?_cons_zero]; rfl)
             ·kernel_rfl
             ·kernel_rfl
             ·kernel_rfl
             ·kernel_rfl
             ·exact fun _ _ _ h => h
             ·exact Or.inr ⟨by rfl, rfl⟩
             ·assumption
             (try simp only [Act.put, Lp0, Lp1, Lp2])
             refine' Ords.take (i := 14) (v := undef) ?_ ?_ ?_ ?_ ?_ ?_ ?_ ?_ ?_
             rotate_left 1
             ·(simp only [List.getElem?_toArray, List.getElem?_cons_succ, List.getElem?_cons_zero]; rfl)
             ·kernel_rfl
             ·kernel_rfl
             ·kernel_rfl
             ·kernel_rfl
             ·exact fun _ _ _ h => h
             ·exact Or.inr ⟨by rfl, rfl⟩
             ·assumption
             (try simp only [Act.put, Lp0, Lp1, Lp2])
             refine' Ords.take (i := 15) ?_ ?_ ?_ ?_ ?_ ?_ ?_ ?_ ?_
             rotate_left 2
             ·(simp only [List.getElem?_toArray, List.getElem?_cons_succ, List.getElem?_cons_zero]; rfl)
             ·kernel_rfl
             ·kernel_rfl
             ·kernel_rfl
             ·kernel_rfl
             ·exact fun _ _ _ h => h
             ·(refine Or.inl ⟨by rfl, ?_⟩; intro w_ hSw_; (try dsimp only at hSw_); go_simp; (try with_reducible rfl))
             ·assumption
             (try simp only [Act.put, Lp0, Lp1, Lp2])
             have hab : Below xd.heap.size xd (xd.alloc (.cells #[.bool true] 4)) := (Below.refl _ _).alloc (Nat.le_refl _) _
             have hra := rng_alloc (w := xd) (cs := [.bool true]) (t := 4)
             refine' Ords.step (i := 16) (by kernel_rfl) (by simp only [List.getElem?_toArray, List.getElem?_cons_succ, List.getElem?_cons_zero]; rfl) (fun K hK => ?_)
             go_simp
             skip
             (try go_wp2_with fail)
             refine hK.out _ _ ?_ (fun hHeld => ?_)
             ·exact ⟨keep_alloc hHeld.1, keep_alloc hHeld.2.1, keep_alloc hHeld.2.2⟩
             clear hK K
             (try simp only [Act.put, Lp0, Lp1, Lp2])
             have hMa := hM.below hab
             obtain ⟨xa, hxa⟩ : ∃ x, xd.alloc (.cells #[.bool true] 4) = x := ⟨_, rfl⟩
             have hra2 : xa.rangeAt xd.heap.size 0 (BoK.enc true) := by rw [← hxa]; exact hra
             rw [hxa] at hMa hHeld ⊢
             clear hra hab hxa hM
             obtain ⟨k0, k1, k2⟩ := hHeld
             have hHeld := And.intro k0 (And.intro k1 k2)
             have hgx := hMa.z.lt
             refine' Ords.step (i := 17) (by kernel_rfl) (by simp only [List.getElem?_toArray, List.getElem?_cons_succ, List.getElem?_cons_zero]; rfl) (fun K hK => ?_)
             (refine Knd.step_app1 BoKo rfl (.tmp 78) (.tmp 93) rfl (g + 1) (.slice A3 i c3) (Q.take i) true xd.heap.size rfl hMa.o rfl hra2 (by omega) (by omega) ?_; intro v7 w7 hO7 hg7 hat7; obtain ⟨A7, c7, rfl⟩ := hO7.form BoKo; have hL7 : (List.take i Q ++ [true]).length = i + 1 := (by rw [List.length_append, hTl]; rfl); rw [hL7] at hO7; have hA7 := hMa.app hO7 hg7; have hn1 : some b1 ≠ (Value.slice A3 i c3).ownBlock := fun e => (by have := (hMa.o.lt e.symm).1; omega); have hn2 : some b2 ≠ (Value.slice A3 i c3).ownBlock := fun e => (by have := (hMa.o.lt e.symm).1; omega))
             refine hK.out _ _ ?_ (fun hHeld => ?_)
             ·exact ⟨hA7.1 2 _ rfl, hg7.cell k1 hn1, hg7.cell k2 hn2⟩
             clear hK K
             (try simp only [Act.put, Lp0, Lp1, Lp2])
             obtain ⟨q7, hM7⟩ := hA7
             have l2 : w7.cell? ⟨g, 2, none⟩ = some (.slice A3 i c3) := q7 2 _ rfl
             have hzf := hid hM7.z
             have fz7 : ∀ j, w7.frozen? ⟨g, j, none⟩ = false := fun j => by have := hzf.out.fr j; simpa using this
             replace hM7 := hid hM7
             clear hMa hra2 hO7 hg7 hat7 k0 k1 k2 q7 hn1 hn2
             refine' Ords.take (i := 18) ?_ ?_ ?_ ?_ ?_ ?_ ?_ ?_ ?_
             rotate_left 2
             ·(simp only [List.getElem?_toArray, List.getElem?_cons_succ, List.getElem?_cons_zero]; rfl)
             ·kernel_rfl
             ·kernel_rfl
             ·kernel_rfl
             ·kernel_rfl
             ·exact fun _ _ _ h => h
             ·(refine Or.inl ⟨by rfl, ?_⟩; intro w_ hSw_; (try dsimp only at hSw_); go_simp; (try with_reducible rfl))
             ·assumption
             (try simp only [Act.put, Lp0, Lp1, Lp2])
             refine' Ords.last (by kernel_rfl) (by simp only [List.getElem?_toArray, List.getElem?_cons_succ, List.getElem?_cons_zero]; rfl) (by kernel_rfl) (fun K hK => ?_)
             go_simp
             (try go_wp2_with fail)
             refine hK.out _ _ ?_
             clear hK K
             (try simp only [Act.put, Lp0, Lp1, Lp2])
             go_wp2
             go_roundw
             case rel => exact ⟨i + 1, by go_num, by omega, _, by rw [hq.out]; exact hM7.out⟩
             case measure => simp [intOf]; omega
           ·obtain rfl : i = N := by omega
            have hii : ¬ (i : Int) < (i : Int) := by omega
            have m0 : wr.cell? ⟨g, 0, none⟩ = some (.int .i64 (W : Int)) := hM.r 0 _ rfl
            have m1 : wr.cell? ⟨g, 1, none⟩ = some (.int .i64 (H : Int)) := hM.r 1 _ rfl
            have m2 : wr.cell? ⟨g, 2, none⟩ = some (.slice A3 i c3) := hM.r 2 _ rfl
            have k0 : wr.cell? ⟨w.heap.size, 0, none⟩ = some (.int .i64 0) := rg 0 _ rfl
            have k1 : wr.cell? ⟨w.heap.size, 1, none⟩ = some (.int .i64 0) := rg 1 _ rfl
            have k2 : wr.cell? ⟨w.heap.size, 2, none⟩ = some (.slice none 0 0) := rg 2 _ rfl
            have ltk := cell_lt k0
            have fk := zg.fr
            have HBf := hid (below_set (below_set (below_set HB (Nat.le_refl _) 0 (.int .i64 (W : Int))) (Nat.le_refl _) 1 (.int .i64 (H : Int))) (Nat.le_refl _) 2 (.slice A3 i c3))
            have hO := ((hM.o.older (show w.heap.size + 1 ≤ g + 1 by omega)).set1 (i := 0) (u := .int .i64 (W : Int)) (Nat.lt_succ_self _)).set1 (i := 1) (u := .int .i64 (H : Int)) (Nat.lt_succ_self _) |>.set1 (i := 2) (u := .slice A3 i c3) (Nat.lt_succ_self _)
            rw [hQn.out] at hO
            obtain ⟨hRd, -⟩ := hO.rd2 BoKo
            replace hRd := hid hRd
            clear hO hr1 hr2 hM rg zg HB hKp hNd hQs hb1 hb2
            go_wp2
            refine bodyPost_ret (v := .tuple #[.agg #[.int .i64 (W : Int), .int .i64 (H : Int), .slice A3 i c3], .int .i64 0]) ?_ rfl ?_
            ·simp [results, Tryz.results18, go_sem, k0, k1, k2]
            ·exact ⟨A3, c3, by rw [hQl.out], hRd.out, HBf.out⟩
end Go.Proofs.YtjfgklhifhaaoaaGreat
